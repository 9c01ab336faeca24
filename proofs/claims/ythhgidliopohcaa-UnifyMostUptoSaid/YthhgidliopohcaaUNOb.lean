/- Joining as the document does it, plain. -/
import Derived.Test.YthhgidliopohcaaUNOa

/- Pointers to terms, in blocks that are told. -/
namespace Go.Proofs.Ythhgidliopohcaa
open Go.RowKit Go
set_option linter.unusedVariables false
set_option linter.unusedSimpArgs false
/-- A pointer to a term, all in blocks of 'S'. -/
def InTp (S : Nat → Prop) (w : World) (t : T) (v : Value) : Prop := ∃ (b o : Nat) (a : Option Addr) (c : Nat), v = .pointer (some ⟨b, o, none⟩) ∧ S b ∧ w.cell? ⟨b, o, none⟩ = some (.int .i64 t.f) ∧ w.cell? ⟨b, o + 1, none⟩ = some (.slice a t.args.length c) ∧ InT S w t (.agg #[.int .i64 t.f, .slice a t.args.length c])
section
variable {S S' : Nat → Prop} {w w' : World} {t : T} {v : Value}
theorem InTp.keep (hb : ∀ (p : Addr) (x : Value), S p.block → w.cell? p = some x → w'.cell? p = some x) (h : InTp S w t v) : InTp S w' t v := by
  obtain ⟨b, o, a, c, e, hs, h1, h2, h3⟩ := h
  exact ⟨b, o, a, c, e, hs, hb ⟨b, o, none⟩ _ hs h1, hb ⟨b, o + 1, none⟩ _ hs h2, h3.keep hb⟩
theorem InTp.mono (hb : ∀ b, S b → b < w.heap.size → S' b) (h : InTp S w t v) : InTp S' w t v := by
  obtain ⟨b, o, a, c, e, hs, h1, h2, h3⟩ := h
  exact ⟨b, o, a, c, e, hb b hs (World.block_lt_of_cell? _ _ h1), h1, h2, h3.mono hb⟩
theorem InTp.below (h : InTp S w t v) (hb : Below w.heap.size w w') : InTp S w' t v := h.keep fun p x _ hx => bkeeps hb p x hx
theorem InTp.chg {S2 : Nat → Prop} (h : InTp S w t v) (hc : Chg S2 w w') (hS : ∀ b, S b → ¬ S2 b) : InTp S w' t v := h.keep fun p x hp hx => by
  have hb := World.block_lt_of_cell? _ _ hx
  unfold World.cell? at hx ⊢
  rw [hc.block p.block hb (hS _ hp)]; exact hx
/-- An argument of a term that is pointed at. -/
theorem InTp.arg {b o : Nat} {a : Option Addr} {c : Nat} (h : InT S w t (.agg #[.int .i64 t.f, .slice a t.args.length c])) (k : Nat) (hk : k < t.args.length) : ∃ b o, a = some ⟨b, o, none⟩ ∧ InTp S w (tget t.args k) (.pointer (some ⟨b, o + k * 2, none⟩)) := by
  obtain ⟨_, a', c', e, _, _, h3⟩ := h.form
  simp only [Value.agg.injEq, Array.mk.injEq, List.cons.injEq, and_true, Value.slice.injEq, true_and] at e
  obtain ⟨rfl, rfl⟩ := e
  obtain ⟨b, o, u, v, rfl, h4, h5, h6, h7⟩ := h3.at_ k hk
  obtain ⟨_, a2, c2, e2, _⟩ := h7.form
  simp only [Value.agg.injEq, Array.mk.injEq, List.cons.injEq, and_true] at e2
  obtain ⟨rfl, rfl⟩ := e2
  rw [tget_lt hk]
  exact ⟨b, o, rfl, b, _, a2, c2, rfl, h4, h5, h6, h7⟩
/-- A box in which a term lies. -/
theorem InTp.box {g ty : Nat} {a : Option Addr} {c : Nat} (hB : Blk w g ty #[.int .i64 t.f, .slice a t.args.length c]) (hg : S g) (h : InT S w t (.agg #[.int .i64 t.f, .slice a t.args.length c])) : InTp S w t (.pointer (some ⟨g, 0, none⟩)) :=
  ⟨g, 0, a, c, rfl, hg, by rw [hB.cell]; rfl, by rw [hB.cell]; rfl, h⟩
end
section
variable {α β : Type} {E : Elt α} {E2 : Elt β} {w w' : World} {B B2 e e2 c c2 n n2 : Nat} {a a2 : Option Addr} {l : List α} {l2 : List β}
/-- Rows of different types lie in different blocks. -/
theorem RowE.ne (h : RowE E w B e a c n l) (h2 : RowE E2 w B2 e2 a2 c2 n2 l2) (he : e ≠ e2) : ∀ b, (Value.slice a n c).ownBlock = some b → (Value.slice a2 n2 c2).ownBlock ≠ some b := by
  intro b hb hb2
  obtain ⟨⟨xs, h1, _⟩, _⟩ := h
  obtain ⟨⟨ys, h3, _⟩, _⟩ := h2
  rcases h1.2 with ⟨e1, _⟩ | ⟨g, cap, cur, e1, _, r1, _⟩
  · rw [e1] at hb; cases hb
  · rcases h3.2 with ⟨f1, _⟩ | ⟨g', cap', cur', f1, _, r2, _⟩
    · rw [f1] at hb2; cases hb2
    · rw [e1] at hb; rw [f1] at hb2
      obtain rfl : g = b := by simpa [Value.ownBlock] using hb
      obtain rfl : g' = g := by simpa [Value.ownBlock] using hb2
      have := r1.symm.trans r2
      simp at this
      exact he this.2
theorem RowE.neBlk {g ty : Nat} {cs : Array Value} (h : RowE E w B e a c n l) (hB : Blk w g ty cs) (he : e ≠ ty) : (Value.slice a n c).ownBlock ≠ some g := by
  intro hb
  obtain ⟨⟨xs, h1, _⟩, _⟩ := h
  rcases h1.2 with ⟨e1, _⟩ | ⟨g', cap, cur, e1, _, r1, _⟩
  · rw [e1] at hb; cases hb
  · rw [e1] at hb
    obtain rfl : g' = g := by simpa [Value.ownBlock] using hb
    unfold Blk at hB
    have := r1.symm.trans hB
    simp at this
    exact he this.2
/-- The first of a row. -/
theorem RowE.take (h : RowE E w B e a c n l) (k : Nat) (hk : k ≤ n) (hE : ∀ (S : Nat → Prop) w x cs, E.In S w x cs → ∀ S', E.In S' w x cs) : RowE E w B e a c k (l.take k) := by
  obtain ⟨⟨xs, h1, h2⟩, rfl⟩ := h
  have hel : ∀ (l : List α) (xs : List Value) (k : Nat) (Z Z' : Nat → Prop), Elts E Z w l xs → Elts E Z' w (l.take k) (xs.take (k * E.k)) := by
    intro l
    induction l with
    | nil => intro xs k Z Z' h; have : xs = [] := h; subst this; simp; exact rfl
    | cons x l ih =>
      rintro xs k Z Z' ⟨cs, r, rfl, h3, h4⟩
      cases k with
      | zero => simp; exact rfl
      | succ k =>
        refine ⟨cs, r.take (k * E.k), ?_, hE _ _ _ _ h3 _, ih r k Z Z' h4⟩
        rw [List.take_append, E.len h3, Nat.add_mul, Nat.one_mul, Nat.add_sub_cancel, List.take_of_length_le (by rw [E.len h3]; omega)]
  refine ⟨⟨xs.take (k * E.k), ⟨by rw [List.length_take, h1.1]; exact Nat.min_eq_left (Nat.mul_le_mul_right _ hk), ?_⟩, hel _ _ _ _ _ h2⟩, by simp; omega⟩
  rcases h1.2 with ⟨e1, h0⟩ | ⟨g, cap, cur, e1, e2, e3, e4, e5, e6, e7⟩
  · simp only [Value.slice.injEq] at e1
    obtain ⟨rfl, e, rfl⟩ := e1
    left
    have : k = 0 := by omega
    subst this
    exact ⟨rfl, by simp⟩
  · right
    simp only [Value.slice.injEq, true_and] at e1
    obtain ⟨rfl, rfl⟩ := e1
    exact ⟨g, _, cur, rfl, e2, e3, by omega, e5, e6, by rw [← e7, List.take_take, Nat.min_eq_left (Nat.mul_le_mul_right _ hk)]⟩
end
section
variable {α : Type} {E : Elt α} {P : Program} {w : World} {a : Act} {K : Act → World → Prop} {Q : Exit → Act → World → Prop} {o : Oper}
end
end Go.Proofs.Ythhgidliopohcaa

/- Rows of one's own whose elements lie in blocks that are told. -/
namespace Go.Proofs.Ythhgidliopohcaa
open Go.RowKit Go
set_option linter.unusedVariables false
set_option linter.unusedSimpArgs false
section
variable {α β : Type} {E : Elt α} {E2 : Elt β} {S S' : Nat → Prop} {w w' : World} {e e2 c c2 n n2 : Nat} {a a2 : Option Addr} {l : List α} {l2 : List β}
/-- A row of one's own: its elements lie in blocks of 'S', none of which is the row's. -/
structure RowD (E : Elt α) (S : Nat → Prop) (w : World) (e : Nat) (a : Option Addr) (c n : Nat) (l : List α) : Prop where
  row : ∃ xs, w.ownsRow 0 e E.k (.slice a n c) n xs ∧ Elts E S w l xs
  len : n = l.length
  ne : ∀ b, S b → (Value.slice a n c).ownBlock ≠ some b
theorem RowD.nil : RowD E S w e none 0 0 ([] : List α) := ⟨⟨[], World.ownsRow_nil _ _ _ _, rfl⟩, rfl, fun _ _ h => (nomatch h)⟩
theorem RowD.rowE (h : RowD E S w e a c n l) : RowE E w 0 e a c n l := by
  obtain ⟨⟨xs, h1, h2⟩, h3, h4⟩ := h
  exact ⟨⟨xs, h1, Elts.mono (fun b hb _ => ⟨Nat.zero_le _, h4 b hb⟩) h2⟩, h3⟩
theorem RowD.lt (h : RowD E S w e a c n l) : ∀ b, (Value.slice a n c).ownBlock = some b → b < w.heap.size := fun b hb => (h.rowE.lt b hb).2
theorem RowD.mono (h : RowD E S w e a c n l) (hb : ∀ b, S b → b < w.heap.size → S' b) (hne : ∀ b, S' b → (Value.slice a n c).ownBlock ≠ some b) : RowD E S' w e a c n l := by
  obtain ⟨⟨xs, h1, h2⟩, h3, h4⟩ := h
  exact ⟨⟨xs, h1, Elts.mono hb h2⟩, h3, hne⟩
/-- Blocks of the row and of its elements are as they were. -/
theorem RowD.chg {Z : Nat → Prop} (h : RowD E S w e a c n l) (hc : Chg Z w w') (h1 : ∀ b, (Value.slice a n c).ownBlock = some b → ¬ Z b) (h2 : ∀ b, S b → ¬ Z b) : RowD E S w' e a c n l := by
  obtain ⟨⟨xs, k1, k2⟩, k3, k4⟩ := h
  refine ⟨⟨xs, ⟨k1.1, k1.2.imp id ?_⟩, Elts.keep (fun p v hp hv => ?_) k2⟩, k3, k4⟩
  · rintro ⟨g, cap, cur, e1, e2, e3, r⟩
    refine ⟨g, cap, cur, e1, e2, ?_, r⟩
    rw [hc.block g (Array.getElem?_eq_some_iff.1 e3).1 (h1 g (by rw [e1]; rfl))]; exact e3
  · have hb := World.block_lt_of_cell? _ _ hv
    unfold World.cell? at hv ⊢
    rw [hc.block p.block hb (h2 _ hp)]; exact hv
theorem RowD.below (h : RowD E S w e a c n l) (hb : Below w.heap.size w w') : RowD E S w' e a c n l := h.chg (Z := fun _ => False) (.ofBelow hb) (fun _ _ => id) (fun _ _ => id)
theorem RowD.inRow (h : RowD E S w e a c n l) : InRow E (fun _ => True) w l a ∧ n ≤ c ∧ c ≤ maxLen := by
  obtain ⟨h1, h2, h3, h4⟩ := h.rowE.inRow
  rcases Nat.eq_zero_or_pos E.k with hk | hk
  · exact ⟨fun i hi => by
      obtain ⟨b, o, cs, e1, _, e3, e4⟩ := h1 i hi
      exact ⟨b, o, cs, e1, trivial, E.mono (fun _ _ _ => trivial) e3, e4⟩, h3, h4⟩
  · exact ⟨h1.mono hk (fun _ _ _ => trivial), h3, h4⟩
theorem Elts.take : ∀ {l : List α} {xs : List Value} (k : Nat), Elts E S w l xs → Elts E S w (l.take k) (xs.take (k * E.k))
  | [], xs, k, h => by have : xs = [] := h; subst this; simp; exact rfl
  | x :: l, xs, 0, _ => by simp; exact rfl
  | x :: l, xs, k + 1, ⟨cs, r, e, h3, h4⟩ => by
    subst e
    refine ⟨cs, r.take (k * E.k), ?_, h3, Elts.take k h4⟩
    rw [List.take_append, E.len h3, Nat.add_mul, Nat.one_mul, Nat.add_sub_cancel, List.take_of_length_le (by rw [E.len h3]; omega)]
theorem RowD.take (h : RowD E S w e a c n l) (k : Nat) (hk : k ≤ n) : RowD E S w e a c k (l.take k) := by
  obtain ⟨⟨xs, h1, h2⟩, rfl, h4⟩ := h
  refine ⟨⟨xs.take (k * E.k), ⟨by rw [List.length_take, h1.1]; exact Nat.min_eq_left (Nat.mul_le_mul_right _ hk), ?_⟩, Elts.take k h2⟩, by simp; omega, fun b hb => by
    have := h4 b hb
    cases a <;> exact this⟩
  rcases h1.2 with ⟨e1, h0⟩ | ⟨g, cap, cur, e1, e2, e3, e4, e5, e6, e7⟩
  · simp only [Value.slice.injEq] at e1
    obtain ⟨rfl, e, rfl⟩ := e1
    left
    have : k = 0 := by omega
    subst this
    exact ⟨rfl, by simp⟩
  · right
    simp only [Value.slice.injEq, true_and] at e1
    obtain ⟨rfl, rfl⟩ := e1
    exact ⟨g, _, cur, rfl, e2, e3, by omega, e5, e6, by rw [← e7, List.take_take, Nat.min_eq_left (Nat.mul_le_mul_right _ hk)]⟩
theorem RowD.neBlk {g ty : Nat} {cs : Array Value} (h : RowD E S w e a c n l) (hB : Blk w g ty cs) (he : e ≠ ty) : (Value.slice a n c).ownBlock ≠ some g := h.rowE.neBlk hB he
end
section
variable {α : Type} {E : Elt α} {P : Program} {w : World} {a : Act} {K : Act → World → Prop} {Q : Exit → Act → World → Prop} {o : Oper} {S S2 : Nat → Prop}
/-- One element more, by append. -/
theorem wp_appD {s x : Operand} {t e : Nat} {z : Value} {size bytes n rc g1 : Nat} {ra : Option Addr} {l : List α} {y : α} {cs : List Value} (hk : E.k = size) (ht : P.underlying t = some (.slice e)) (hinfo : (P.info? e).map (fun i => (i.zero, i.size, i.bytes)) = some (some z, size, bytes)) (hzs : z.cells.size = size) (hsz : 0 < size)
    (ho : o.op = .call { callee := .builtin .append, args := #[s, x], argTypes := #[t, t] }) (hs : a.eval s = .slice ra n rc) (hx : a.eval x = .slice (some ⟨g1, 0, none⟩) 1 1) (hrow : RowD E S w e ra rc n l) (hB : Blk w g1 e cs.toArray) (hin : E.In S2 w y cs) (hS2 : ∀ b, S2 b → (Value.slice ra n rc).ownBlock ≠ some b)
    (hb : (n + 1) * bytes ≤ 140737488355328) (hn : n + 1 ≤ 9223372036854775807) (hK : ∀ ra' rc' w', RowD E (fun b => (S b ∨ S2 b) ∧ b < w.heap.size) w' e ra' rc' (n + 1) (l ++ [y]) → Chg (fun b => (Value.slice ra n rc).ownBlock = some b) w w' → (∀ b, (Value.slice ra' (n + 1) rc').ownBlock = some b → (Value.slice ra n rc).ownBlock = some b ∨ w.heap.size ≤ b) → K (a.put o.dst (.slice ra' (n + 1) rc')) w') : o.wp P a w K Q := by
  subst hk
  obtain ⟨⟨xs, h1, h2⟩, rfl, h4⟩ := hrow
  refine wp_app (m := 1) (news := cs) ht hinfo hzs hsz ho hs hx h1 (SrcIs.ofBlk hB) (by rw [E.len hin]; omega) (E.one hin) hb hn (Nat.zero_le _) (fun ra' rc' w' h => hK _ _ _ ?_ ⟨h.grow.os, h.grow.tape, h.grow.output, h.grow.size, fun k hk hSk => h.grow.block k hk (fun e => hSk e.symm)⟩ ?_)
  · have key : ∀ (p : Addr) (v : Value), (Value.slice ra l.length rc).ownBlock ≠ some p.block → w.cell? p = some v → w'.cell? p = some v := fun p v hp hv => h.grow.cell hv (Ne.symm hp)
    have ne2 : ∀ b, (S b ∨ S2 b) → (Value.slice ra l.length rc).ownBlock ≠ some b := fun b q => q.elim (h4 b) (hS2 b)
    refine ⟨⟨xs ++ cs, h.own, ?_⟩, by simp, fun b hb e => ?_⟩
    · refine Elts.keep (w := w) (fun p v hp hv => key p v (ne2 _ hp.1) hv) ?_
      exact Elts.snoc (E.mono (fun b hb hlt => ⟨.inr hb, hlt⟩) hin) (Elts.mono (fun b hb hlt => ⟨.inl hb, hlt⟩) h2)
    · rcases h.at_ with e2 | e2
      · exact ne2 b hb.1 (e2 ▸ e)
      · rw [e2] at e; have := Option.some.inj e; have := hb.2; omega
  · intro b hb
    rcases h.at_ with e2 | e2
    · exact .inl (e2 ▸ hb)
    · rw [e2] at hb; exact .inr (Nat.le_of_eq (Option.some.inj hb))
end
end Go.Proofs.Ythhgidliopohcaa

/- Unification by nets of parts: plain. -/
namespace Go.Proofs.Ythhgidliopohcaa
set_option linter.unusedVariables false
set_option linter.unusedSimpArgs false
/-- A part: a symbol (or a variable), its arguments' numbers. -/
structure Pt where
  fn : Int
  args : List Nat
instance : Inhabited Pt := ⟨⟨0, []⟩⟩
def pget (N : List Pt) (i : Nat) : Pt := N.getD i default
theorem pget_lt {N : List Pt} {i : Nat} (h : i < N.length) : pget N i = N[i] := by simp [pget, h]
def aget (l : List Nat) (k : Nat) : Nat := l.getD k 0
theorem aget_lt {l : List Nat} {k : Nat} (h : k < l.length) : aget l k = l[k] := by simp [aget, h]
theorem aget_mem {l : List Nat} {k : Nat} (h : k < l.length) : aget l k ∈ l := by rw [aget_lt h]; exact List.getElem_mem h
/-- What stands for each part: 'b' and what hangs on it now hangs on 'a'. -/
def mrg (κ : Nat → Nat) (b a : Nat) : Nat → Nat := fun i => if κ i = b then a else κ i
/-- Two that are not the same are joined: what stands for each now, and what must become the same; none: they clash. -/
def stepM (N : List Pt) (κ : Nat → Nat) (a b : Nat) : Option ((Nat → Nat) × List (Nat × Nat)) :=
  if (pget N a).fn < 0 ∧ (0 ≤ (pget N b).fn ∨ (pget N a).fn < (pget N b).fn) then some (mrg κ a b, [])
  else if (pget N b).fn < 0 then some (mrg κ b a, [])
  else if (pget N a).fn ≠ (pget N b).fn ∨ (pget N a).args.length ≠ (pget N b).args.length then none
  else some (mrg κ b a, (pget N a).args.zip (pget N b).args)
/-- Pairs are joined, one behind the other, those that come of a pair ahead of the others: as they stand, or the last one first. -/
inductive Run (rv : Bool) (N : List Pt) : List (Nat × Nat) → (Nat → Nat) → Option (Nat → Nat) → Prop
  | nil (κ : Nat → Nat) : Run rv N [] κ (some κ)
  | same {i j : Nat} {r : List (Nat × Nat)} {κ : Nat → Nat} {o : Option (Nat → Nat)} : κ i = κ j → Run rv N r κ o → Run rv N ((i, j) :: r) κ o
  | clash {i j : Nat} {r : List (Nat × Nat)} {κ : Nat → Nat} : κ i ≠ κ j → stepM N κ (κ i) (κ j) = none → Run rv N ((i, j) :: r) κ none
  | step {i j : Nat} {r ps : List (Nat × Nat)} {κ κ' : Nat → Nat} {o : Option (Nat → Nat)} : κ i ≠ κ j → stepM N κ (κ i) (κ j) = some (κ', ps) → Run rv N ((if rv = true then ps.reverse else ps) ++ r) κ' o → Run rv N ((i, j) :: r) κ o
theorem Run.append {rv : Bool} {N : List Pt} {xs ys : List (Nat × Nat)} {κ : Nat → Nat} {o1 : Option (Nat → Nat)} (h : Run rv N xs κ o1) : (∀ κ' o, o1 = some κ' → Run rv N ys κ' o → Run rv N (xs ++ ys) κ o) ∧ (o1 = none → Run rv N (xs ++ ys) κ none) := by
  induction h with
  | nil κ => exact ⟨fun κ' o e h => (by cases e; exact h), fun e => (nomatch e)⟩
  | same h1 _ ih => exact ⟨fun κ' o e h => .same h1 (ih.1 κ' o e h), fun e => .same h1 (ih.2 e)⟩
  | clash h1 h2 => exact ⟨fun _ _ e => (nomatch e), fun _ => .clash h1 h2⟩
  | step h1 h2 _ ih => exact ⟨fun κ' o e h => (.step h1 h2 (by have z := ih.1 κ' o e h; rwa [List.append_assoc] at z)), fun e => .step h1 h2 (by have z := ih.2 e; rwa [List.append_assoc] at z)⟩
/-- A relation of parts that a unifier may leave. -/
structure Eqv (S : Nat → Nat → Prop) : Prop where
  refl : ∀ i, S i i
  symm : ∀ {i j}, S i j → S j i
  trans : ∀ {i j k}, S i j → S j k → S i k
structure Cld (N : List Pt) (S : Nat → Nat → Prop) : Prop extends Eqv S where
  dec : ∀ {i j}, S i j → 0 ≤ (pget N i).fn → 0 ≤ (pget N j).fn → (pget N i).fn = (pget N j).fn ∧ (pget N i).args.length = (pget N j).args.length ∧ ∀ k, k < (pget N i).args.length → S (aget (pget N i).args k) (aget (pget N j).args k)
theorem zip_mem {l m : List Nat} {p : Nat × Nat} (h : p ∈ l.zip m) (hl : l.length = m.length) : ∃ k, k < l.length ∧ p = (aget l k, aget m k) := by
  obtain ⟨k, hk, rfl⟩ := List.getElem_of_mem h
  have hk' : k < l.length ∧ k < m.length := by rw [List.length_zip] at hk; omega
  exact ⟨k, hk'.1, by rw [List.getElem_zip, aget_lt hk'.1, aget_lt hk'.2]⟩
theorem mem_zip {l m : List Nat} {k : Nat} (hk : k < l.length) (hl : l.length = m.length) : (aget l k, aget m k) ∈ l.zip m := by
  have hz : k < (l.zip m).length := by rw [List.length_zip]; omega
  have := List.getElem_mem hz
  rw [List.getElem_zip] at this
  rw [aget_lt hk, aget_lt (by omega)]; exact this
theorem rv_mem {α : Type} {rv : Bool} {ps : List α} {p : α} : p ∈ (if rv = true then ps.reverse else ps) ↔ p ∈ ps := by cases rv <;> simp
theorem mrg_in {κ : Nat → Nat} {a b i j : Nat} {S : Nat → Nat → Prop} (hS : Eqv S) (hκ : ∀ i j, κ i = κ j → S i j) (ha : κ a = a) (hb : κ b = b) (hab : S a b) (h : mrg κ b a i = mrg κ b a j) : S i j := by
  have hr : ∀ i, S i (κ i) ∨ True := fun _ => .inr trivial
  have key : ∀ i, κ i = b → S i b := fun i e => hκ i b (by rw [e, hb])
  have keya : ∀ i, κ i = a → S i a := fun i e => hκ i a (by rw [e, ha])
  unfold mrg at h
  by_cases h1 : κ i = b
  · rw [if_pos h1] at h
    by_cases h2 : κ j = b
    · exact hκ i j (by rw [h1, h2])
    · rw [if_neg h2] at h
      exact hS.trans (key i h1) (hS.trans (hS.symm hab) (hS.symm (keya j h.symm)))
  · rw [if_neg h1] at h
    by_cases h2 : κ j = b
    · rw [if_pos h2] at h
      exact hS.trans (keya i h) (hS.trans hab (hS.symm (key j h2)))
    · rw [if_neg h2] at h
      exact hκ i j h
/-- What stands for parts. -/
structure KOk (N : List Pt) (κ : Nat → Nat) : Prop where
  idem : ∀ i, κ (κ i) = κ i
  lt : ∀ i, i < N.length → κ i < N.length
  big : ∀ i, N.length ≤ i → κ i = i
  top : ∀ i, (pget N (κ i)).fn < 0 → (pget N i).fn ≤ (pget N (κ i)).fn
theorem mrg_idem {κ : Nat → Nat} {a b : Nat} (h : ∀ i, κ (κ i) = κ i) (ha : κ a = a) (hab : a ≠ b) (i : Nat) : mrg κ b a (mrg κ b a i) = mrg κ b a i := by
  unfold mrg
  by_cases h1 : κ i = b
  · rw [if_pos h1, ha, if_neg hab]
  · rw [if_neg h1, h i, if_neg h1]
theorem mrg_kok {N : List Pt} {κ : Nat → Nat} {a b : Nat} (h : KOk N κ) (ha : κ a = a) (hb : κ b = b) (hab : a ≠ b) (hla : a < N.length) (hlb : b < N.length) (ht : (pget N a).fn < 0 → (pget N b).fn < 0 ∧ (pget N b).fn ≤ (pget N a).fn) : KOk N (mrg κ b a) := by
  refine ⟨mrg_idem h.idem ha hab, fun i hi => ?_, fun i hi => ?_, fun i hi => ?_⟩
  · unfold mrg; split
    · exact hla
    · exact h.lt i hi
  · unfold mrg; rw [h.big i hi, if_neg (by omega)]
  · unfold mrg at hi ⊢
    by_cases h1 : κ i = b
    · rw [if_pos h1] at hi ⊢
      have z := ht hi
      have z2 := h.top i (by rw [h1]; exact z.1)
      rw [h1] at z2; omega
    · rw [if_neg h1] at hi ⊢
      exact h.top i hi
theorem stepM_cases {N : List Pt} {κ κ' : Nat → Nat} {a b : Nat} {ps : List (Nat × Nat)} (h : stepM N κ a b = some (κ', ps)) :
    (κ' = mrg κ a b ∧ ps = [] ∧ (pget N a).fn < 0 ∧ (0 ≤ (pget N b).fn ∨ (pget N a).fn < (pget N b).fn)) ∨ (κ' = mrg κ b a ∧ ps = [] ∧ (pget N b).fn < 0 ∧ ¬ ((pget N a).fn < 0 ∧ (pget N a).fn < (pget N b).fn)) ∨
    (κ' = mrg κ b a ∧ ps = (pget N a).args.zip (pget N b).args ∧ 0 ≤ (pget N a).fn ∧ 0 ≤ (pget N b).fn ∧ (pget N a).fn = (pget N b).fn ∧ (pget N a).args.length = (pget N b).args.length) := by
  unfold stepM at h
  split at h
  · rename_i h1
    simp only [Option.some.injEq, Prod.mk.injEq] at h
    exact .inl ⟨h.1.symm, h.2.symm, h1.1, h1.2⟩
  · rename_i h1
    split at h
    · rename_i h2
      simp only [Option.some.injEq, Prod.mk.injEq] at h
      exact .inr (.inl ⟨h.1.symm, h.2.symm, h2, fun q => h1 ⟨q.1, .inr q.2⟩⟩)
    · rename_i h2
      split at h
      · cases h
      · rename_i h3
        simp only [Option.some.injEq, Prod.mk.injEq] at h
        exact .inr (.inr ⟨h.1.symm, h.2.symm, by omega, by omega, by omega, by omega⟩)
theorem stepM_none {N : List Pt} {κ : Nat → Nat} {a b : Nat} (h : stepM N κ a b = none) : 0 ≤ (pget N a).fn ∧ 0 ≤ (pget N b).fn ∧ ((pget N a).fn ≠ (pget N b).fn ∨ (pget N a).args.length ≠ (pget N b).args.length) := by
  unfold stepM at h
  split at h
  · cases h
  · rename_i h1
    split at h
    · cases h
    · rename_i h2
      split at h
      · rename_i h3
        exact ⟨by omega, by omega, h3⟩
      · cases h
theorem stepM_kok {N : List Pt} {κ κ' : Nat → Nat} {a b : Nat} {ps : List (Nat × Nat)} (hk : KOk N κ) (ha : κ a = a) (hb : κ b = b) (hab : a ≠ b) (hla : a < N.length) (hlb : b < N.length) (h : stepM N κ a b = some (κ', ps)) : KOk N κ' := by
  rcases stepM_cases h with ⟨rfl, _, h1, h2⟩ | ⟨rfl, _, h1, h2⟩ | ⟨rfl, _, h1, h2, _⟩
  · exact mrg_kok hk hb ha (Ne.symm hab) hlb hla (fun q => ⟨h1, by omega⟩)
  · exact mrg_kok hk ha hb hab hla hlb (fun q => ⟨h1, by omega⟩)
  · exact mrg_kok hk ha hb hab hla hlb (fun q => by omega)
/-- The two whose joining is at hand have become the same, and what was the same stays so. -/
theorem stepM_join {N : List Pt} {κ κ' : Nat → Nat} {a b : Nat} {ps : List (Nat × Nat)} (ha : κ a = a) (hb : κ b = b) (h : stepM N κ a b = some (κ', ps)) : κ' a = κ' b ∧ ∀ i j, κ i = κ j → κ' i = κ' j := by
  have key : ∀ a b, κ a = a → κ b = b → mrg κ b a a = mrg κ b a b ∧ ∀ i j, κ i = κ j → mrg κ b a i = mrg κ b a j := fun a b ha hb => by
    unfold mrg
    refine ⟨?_, fun i j e => by rw [e]⟩
    rw [hb, if_pos rfl, ha]
    split <;> rfl
  rcases stepM_cases h with ⟨rfl, _⟩ | ⟨rfl, _⟩ | ⟨rfl, _⟩
  · exact ⟨(key b a hb ha).1.symm, (key b a hb ha).2⟩
  · exact key a b ha hb
  · exact key a b ha hb
/-- Arguments' numbers are those of parts. -/
def NOk (N : List Pt) : Prop := ∀ i, i < N.length → (∀ a ∈ (pget N i).args, a < i) ∧ ((pget N i).fn < 0 → (pget N i).args = [])
/-- What is the same so far has the same tops, and arguments that are the same, or are to become so. -/
def Inv (N : List Pt) (κ : Nat → Nat) (todo : List (Nat × Nat)) : Prop := ∀ i j, i < N.length → j < N.length → κ i = κ j → 0 ≤ (pget N i).fn → 0 ≤ (pget N j).fn → (pget N i).fn = (pget N j).fn ∧ (pget N i).args.length = (pget N j).args.length ∧
  ∀ S, Eqv S → (∀ i j, κ i = κ j → S i j) → (∀ p ∈ todo, S p.1 p.2) → ∀ k, k < (pget N i).args.length → S (aget (pget N i).args k) (aget (pget N j).args k)
def InR (N : List Pt) (todo : List (Nat × Nat)) : Prop := ∀ p ∈ todo, p.1 < N.length ∧ p.2 < N.length
theorem stepM_inr {N : List Pt} {κ κ' : Nat → Nat} {a b : Nat} {ps : List (Nat × Nat)} (hN : NOk N) (hla : a < N.length) (hlb : b < N.length) (h : stepM N κ a b = some (κ', ps)) : InR N ps := by
  rcases stepM_cases h with ⟨_, rfl, _⟩ | ⟨_, rfl, _⟩ | ⟨_, rfl, _, _, _, hl⟩
  · intro p hp; simp at hp
  · intro p hp; simp at hp
  · intro p hp
    obtain ⟨k, hk, rfl⟩ := zip_mem hp hl
    have z1 := (hN a hla).1 _ (aget_mem hk)
    have z2 := (hN b hlb).1 _ (aget_mem (show k < (pget N b).args.length by omega))
    exact ⟨by (try dsimp only); omega, by (try dsimp only); omega⟩
theorem stepM_inv {rv : Bool} {N : List Pt} {κ κ' : Nat → Nat} {i j : Nat} {r ps : List (Nat × Nat)} (hk : KOk N κ) (hne : κ i ≠ κ j) (hli : i < N.length) (hlj : j < N.length) (h : stepM N κ (κ i) (κ j) = some (κ', ps)) (hI : Inv N κ ((i, j) :: r)) : Inv N κ' ((if rv = true then ps.reverse else ps) ++ r) := by
  have ha := hk.idem i
  have hb := hk.idem j
  obtain ⟨hj1, hj2⟩ := stepM_join ha hb h
  have hij : κ' i = κ' j := by rw [hj2 i (κ i) ha.symm, hj2 j (κ j) hb.symm]; exact hj1
  -- what was the same
  have old : ∀ p q, p < N.length → q < N.length → κ p = κ q → 0 ≤ (pget N p).fn → 0 ≤ (pget N q).fn → (pget N p).fn = (pget N q).fn ∧ (pget N p).args.length = (pget N q).args.length ∧
      ∀ S, Eqv S → (∀ i j, κ' i = κ' j → S i j) → (∀ p ∈ (if rv = true then ps.reverse else ps) ++ r, S p.1 p.2) → ∀ k, k < (pget N p).args.length → S (aget (pget N p).args k) (aget (pget N q).args k) := fun p q hp hq e h0 h1 => by
    obtain ⟨z1, z2, z3⟩ := hI p q hp hq e h0 h1
    refine ⟨z1, z2, fun S hS hκ ht => z3 S hS (fun i j e => hκ i j (hj2 i j e)) (fun x hx => ?_)⟩
    rcases List.mem_cons.1 hx with rfl | hx
    · exact hκ _ _ hij
    · exact ht x (List.mem_append.2 (.inr hx))
  have sym : ∀ p, p < N.length → 0 ≤ (pget N p).fn → 0 ≤ (pget N (κ p)).fn := fun p hp h0 => by
    by_cases q : (pget N (κ p)).fn < 0
    · have := hk.top p q; omega
    · omega
  intro p q hp hq e h0 h1
  rcases stepM_cases h with ⟨rfl, _, h2, _⟩ | ⟨rfl, _, h2, _⟩ | ⟨rfl, rfl, h2, h3, h4, h5⟩
  · -- no symbol hangs on the first
    have np : κ p ≠ κ i := fun e2 => by have z := sym p hp h0; rw [e2] at z; omega
    have nq : κ q ≠ κ i := fun e2 => by have z := sym q hq h1; rw [e2] at z; omega
    unfold mrg at e
    rw [if_neg np, if_neg nq] at e
    exact old p q hp hq e h0 h1
  · have np : κ p ≠ κ j := fun e2 => by have z := sym p hp h0; rw [e2] at z; omega
    have nq : κ q ≠ κ j := fun e2 => by have z := sym q hq h1; rw [e2] at z; omega
    unfold mrg at e
    rw [if_neg np, if_neg nq] at e
    exact old p q hp hq e h0 h1
  · have pairs : ∀ S : Nat → Nat → Prop, (∀ x ∈ (if rv = true then ((pget N (κ i)).args.zip (pget N (κ j)).args).reverse else (pget N (κ i)).args.zip (pget N (κ j)).args) ++ r, S x.1 x.2) → ∀ k, k < (pget N (κ i)).args.length → S (aget (pget N (κ i)).args k) (aget (pget N (κ j)).args k) := fun S ht k hk => ht (_, _) (List.mem_append.2 (.inl (rv_mem.2 (mem_zip hk h5))))
    have li := hk.lt i hli
    have lj := hk.lt j hlj
    unfold mrg at e
    by_cases c1 : κ p = κ j
    · rw [if_pos c1] at e
      by_cases c2 : κ q = κ j
      · exact old p q hp hq (by rw [c1, c2]) h0 h1
      · rw [if_neg c2] at e
        obtain ⟨z1, z2, z3⟩ := old p (κ j) hp lj (by rw [c1, hb]) h0 h3
        obtain ⟨y1, y2, y3⟩ := old (κ i) q li hq (by rw [ha, e]) h2 h1
        exact ⟨by omega, by omega, fun S hS hκ ht k hk2 => hS.trans (z3 S hS hκ ht k hk2) (hS.trans (hS.symm (pairs S ht k (by omega))) (y3 S hS hκ ht k (by omega)))⟩
    · rw [if_neg c1] at e
      by_cases c2 : κ q = κ j
      · rw [if_pos c2] at e
        obtain ⟨z1, z2, z3⟩ := old p (κ i) hp li (by rw [e, ha]) h0 h2
        obtain ⟨y1, y2, y3⟩ := old (κ j) q lj hq (by rw [hb, c2]) h3 h1
        exact ⟨by omega, by omega, fun S hS hκ ht k hk2 => hS.trans (z3 S hS hκ ht k hk2) (hS.trans (pairs S ht k (by omega)) (y3 S hS hκ ht k (by omega)))⟩
      · rw [if_neg c2] at e
        exact old p q hp hq e h0 h1
/-- What comes of joining: it is closed, what was the same is so still, the pairs are; and a closed relation of all that has it all. -/
theorem Run.ok {rv : Bool} {N : List Pt} (hN : NOk N) {todo : List (Nat × Nat)} {κ : Nat → Nat} {o : Option (Nat → Nat)} (h : Run rv N todo κ o) : KOk N κ → InR N todo → Inv N κ todo →
    (∀ κ', o = some κ' → KOk N κ' ∧ Inv N κ' [] ∧ (∀ i j, κ i = κ j → κ' i = κ' j) ∧ (∀ p ∈ todo, κ' p.1 = κ' p.2)) ∧
    (∀ S, Cld N S → (∀ i j, κ i = κ j → S i j) → (∀ p ∈ todo, S p.1 p.2) → ∃ κ', o = some κ' ∧ ∀ i j, κ' i = κ' j → S i j) := by
  induction h with
  | nil κ =>
    intro hk _ hI
    exact ⟨fun κ' e => by cases e; exact ⟨hk, hI, fun _ _ e => e, fun p hp => by simp at hp⟩, fun S _ h1 _ => ⟨κ, rfl, h1⟩⟩
  | @same i j r κ o e h ih =>
    intro hk hR hI
    have hI' : Inv N κ r := fun p q hp hq e2 h0 h1 => by
      obtain ⟨z1, z2, z3⟩ := hI p q hp hq e2 h0 h1
      exact ⟨z1, z2, fun S hS hκ ht => z3 S hS hκ (fun x hx => by
        rcases List.mem_cons.1 hx with rfl | hx
        · exact hκ _ _ e
        · exact ht x hx)⟩
    obtain ⟨k1, k2⟩ := ih hk (fun p hp => hR p (List.mem_cons_of_mem _ hp)) hI'
    refine ⟨fun κ' e2 => ?_, fun S hS h1 h2 => k2 S hS h1 (fun p hp => h2 p (List.mem_cons_of_mem _ hp))⟩
    obtain ⟨m1, m2, m3, m4⟩ := k1 κ' e2
    refine ⟨m1, m2, m3, fun p hp => ?_⟩
    rcases List.mem_cons.1 hp with rfl | hp
    · exact m3 _ _ e
    · exact m4 p hp
  | @clash i j r κ hne hs =>
    intro hk hR hI
    refine ⟨fun κ' e => (nomatch e), fun S hS h1 h2 => ?_⟩
    obtain ⟨z1, z2, z3⟩ := stepM_none hs
    have hSij : S (κ i) (κ j) := hS.trans (h1 _ _ (hk.idem i)) (hS.trans (h2 (i, j) (by simp)) (hS.symm (h1 _ _ (hk.idem j))))
    obtain ⟨y1, y2, _⟩ := hS.dec hSij z1 z2
    rcases z3 with z3 | z3
    · exact absurd y1 z3
    · exact absurd y2 z3
  | @step i j r ps κ κ' o hne hs h ih =>
    intro hk hR hI
    have hij := hR (i, j) (by simp)
    have ha := hk.idem i
    have hb := hk.idem j
    have hla := hk.lt i hij.1
    have hlb := hk.lt j hij.2
    obtain ⟨hj1, hj2⟩ := stepM_join ha hb hs
    have hR' : InR N ((if rv = true then ps.reverse else ps) ++ r) := fun p hp => by
      rcases List.mem_append.1 hp with hp | hp
      · exact stepM_inr hN hla hlb hs p (rv_mem.1 hp)
      · exact hR p (List.mem_cons_of_mem _ hp)
    obtain ⟨k1, k2⟩ := ih (stepM_kok hk ha hb hne hla hlb hs) hR' (stepM_inv hk hne hij.1 hij.2 hs hI)
    have hii : κ' i = κ' j := by rw [hj2 i (κ i) ha.symm, hj2 j (κ j) hb.symm]; exact hj1
    refine ⟨fun κ2 e2 => ?_, fun S hS h1 h2 => ?_⟩
    · obtain ⟨m1, m2, m3, m4⟩ := k1 κ2 e2
      refine ⟨m1, m2, fun i j e => m3 _ _ (hj2 _ _ e), fun p hp => ?_⟩
      rcases List.mem_cons.1 hp with rfl | hp
      · exact m3 _ _ hii
      · exact m4 p (List.mem_append.2 (.inr hp))
    · have hSij : S (κ i) (κ j) := hS.trans (h1 _ _ ha) (hS.trans (h2 (i, j) (by simp)) (hS.symm (h1 _ _ hb)))
      refine k2 S hS (fun p q e => ?_) (fun p hp => ?_)
      · rcases stepM_cases hs with ⟨rfl, _⟩ | ⟨rfl, _⟩ | ⟨rfl, _⟩
        · exact mrg_in hS.toEqv h1 hb ha (hS.symm hSij) e
        · exact mrg_in hS.toEqv h1 ha hb hSij e
        · exact mrg_in hS.toEqv h1 ha hb hSij e
      · rcases List.mem_append.1 hp with hp | hp
        · have hp := rv_mem.1 hp
          rcases stepM_cases hs with ⟨_, rfl, _⟩ | ⟨_, rfl, _⟩ | ⟨_, rfl, h3, h4, _, hl⟩
          · simp at hp
          · simp at hp
          · obtain ⟨k, hk, rfl⟩ := zip_mem hp hl
            exact (hS.dec hSij h3 h4).2.2 k hk
        · exact h2 p (List.mem_cons_of_mem _ hp)
/-- What stands for parts, closed. -/
structure KCl (N : List Pt) (κ : Nat → Nat) : Prop where
  ok : KOk N κ
  inv : Inv N κ []
theorem KCl.cld {N : List Pt} {κ : Nat → Nat} (hN : NOk N) (h : KCl N κ) : Cld N (fun i j => κ i = κ j) := by
  refine ⟨⟨fun _ => rfl, fun e => e.symm, fun e f => e.trans f⟩, fun {i j} e h0 h1 => ?_⟩
  by_cases hi : i < N.length
  · by_cases hj : j < N.length
    · obtain ⟨z1, z2, z3⟩ := h.inv i j hi hj e h0 h1
      exact ⟨z1, z2, fun k hk => z3 (fun i j => κ i = κ j) ⟨fun _ => rfl, fun e => e.symm, fun e f => e.trans f⟩ (fun _ _ e => e) (fun p hp => by simp at hp) k hk⟩
    · have z := h.ok.lt i hi
      rw [e, h.ok.big j (by omega)] at z; omega
  · have z := h.ok.big i (by omega)
    by_cases hj : j < N.length
    · have z2 := h.ok.lt j hj
      rw [← e, z] at z2; omega
    · have z2 := h.ok.big j (by omega)
      have : i = j := by omega
      subst this
      exact ⟨rfl, rfl, fun _ _ => rfl⟩
/-- Two nets that came of the same pairs. -/
def Alike (κ κ' : Nat → Nat) : Prop := ∀ i j, κ i = κ j ↔ κ' i = κ' j
theorem run_alike {N : List Pt} (hN : NOk N) {rv rv' : Bool} {todo : List (Nat × Nat)} {κ κ2 : Nat → Nat} {o o2 : Option (Nat → Nat)} (hk : KCl N κ) (hk2 : KCl N κ2) (ha : Alike κ κ2) (hR : InR N todo) (h : Run rv N todo κ o) (h2 : Run rv' N todo κ2 o2) :
    (o = none ∧ o2 = none) ∨ ∃ κ' κ2', o = some κ' ∧ o2 = some κ2' ∧ KCl N κ' ∧ KCl N κ2' ∧ Alike κ' κ2' ∧ (∀ i j, κ i = κ j → κ' i = κ' j) ∧ (∀ p ∈ todo, κ' p.1 = κ' p.2) := by
  have inv : ∀ {κ : Nat → Nat}, Inv N κ [] → Inv N κ todo := fun h p q hp hq e h0 h1 => by
    obtain ⟨z1, z2, z3⟩ := h p q hp hq e h0 h1
    exact ⟨z1, z2, fun S hS hκ ht => z3 S hS hκ (fun x hx => by simp at hx)⟩
  obtain ⟨p1, p2⟩ := h.ok hN hk.ok hR (inv hk.inv)
  obtain ⟨q1, q2⟩ := h2.ok hN hk2.ok hR (inv hk2.inv)
  cases ho : o with
  | none =>
    cases ho2 : o2 with
    | none => exact .inl ⟨rfl, rfl⟩
    | some κ2' =>
      obtain ⟨m1, m2, m3, m4⟩ := q1 κ2' ho2
      obtain ⟨κ', e, _⟩ := p2 _ (KCl.cld hN ⟨m1, m2⟩) (fun i j e => m3 i j ((ha i j).1 e)) m4
      rw [ho] at e; cases e
  | some κ' =>
    obtain ⟨m1, m2, m3, m4⟩ := p1 κ' ho
    obtain ⟨κ2', e, l1⟩ := q2 _ (KCl.cld hN ⟨m1, m2⟩) (fun i j e => m3 i j ((ha i j).2 e)) m4
    obtain ⟨n1, n2, n3, n4⟩ := q1 κ2' e
    obtain ⟨κ3, e3, l2⟩ := p2 _ (KCl.cld hN ⟨n1, n2⟩) (fun i j e => n3 i j ((ha i j).1 e)) n4
    rw [ho] at e3
    obtain rfl := Option.some.inj e3
    exact .inr ⟨κ', κ2', rfl, e, ⟨m1, m2⟩, ⟨n1, n2⟩, fun i j => ⟨l2 i j, l1 i j⟩, m3, m4⟩
end Go.Proofs.Ythhgidliopohcaa

/- Unification by nets of parts: terms put into the net, measures, what variables become; plain. -/
namespace Go.Proofs.Ythhgidliopohcaa
set_option linter.unusedVariables false
set_option linter.unusedSimpArgs false
/-- All parts, and where variables stand (0: nowhere yet, else the number behind). -/
structure NS where
  N : List Pt
  V : Nat → Nat
def NS.setV (V : Nat → Nat) (v x : Nat) : Nat → Nat := fun k => if k = v then x else V k
def vnum (f : Int) : Nat := (-1 - f).toNat
def NS.var (st : NS) (f : Int) : NS × Nat := if st.V (vnum f) ≠ 0 then (st, st.V (vnum f) - 1) else (⟨st.N ++ [⟨f, []⟩], NS.setV st.V (vnum f) (st.N.length + 1)⟩, st.N.length)
mutual
def T.put : T → NS → NS × Nat
  | .mk f l, st => if f < 0 then st.var f else (⟨(T.putL l st).1.N ++ [⟨f, (T.putL l st).2⟩], (T.putL l st).1.V⟩, (T.putL l st).1.N.length)
def T.putL : List T → NS → NS × List Nat
  | [], st => (st, [])
  | t :: r, st => ((T.putL r (t.put st).1).1, (t.put st).2 :: (T.putL r (t.put st).1).2)
end
theorem putL_snoc (t : T) : ∀ (l : List T) (st : NS), T.putL (l ++ [t]) st = ((t.put (T.putL l st).1).1, (T.putL l st).2 ++ [(t.put (T.putL l st).1).2])
  | [], st => by simp [T.putL]
  | x :: r, st => by rw [List.cons_append, T.putL, putL_snoc t r, T.putL]; rfl
/-- A net that may be. -/
structure NetOk (st : NS) : Prop where
  args : NOk st.N
  vars : ∀ v, st.V v ≤ st.N.length ∧ (st.V v ≠ 0 → (pget st.N (st.V v - 1)).fn = -1 - (v : Int))
theorem pget_app {N M : List Pt} {i : Nat} (h : i < N.length) : pget (N ++ M) i = pget N i := by
  unfold pget; rw [List.getD_eq_getElem?_getD, List.getD_eq_getElem?_getD, List.getElem?_append_left h]
theorem pget_new {N : List Pt} {x : Pt} : pget (N ++ [x]) N.length = x := by
  unfold pget; rw [List.getD_eq_getElem?_getD, List.getElem?_append_right (Nat.le_refl _)]; simp
theorem nok_app {N : List Pt} {x : Pt} (h : NOk N) (h1 : ∀ a ∈ x.args, a < N.length) (h2 : x.fn < 0 → x.args = []) : NOk (N ++ [x]) := by
  intro i hi
  by_cases hl : i < N.length
  · rw [pget_app hl]; exact h i hl
  · rw [List.length_append] at hi
    have hi' : i < N.length + 1 := hi
    obtain rfl : i = N.length := by omega
    rw [pget_new]; exact ⟨h1, h2⟩
theorem netOk_app {st : NS} {x : Pt} (h : NetOk st) (h1 : ∀ a ∈ x.args, a < st.N.length) (h2 : x.fn < 0 → x.args = []) : NetOk ⟨st.N ++ [x], st.V⟩ := by
  refine ⟨nok_app h.args h1 h2, fun v => ?_⟩
  obtain ⟨a, b⟩ := h.vars v
  refine ⟨by rw [List.length_append]; exact Nat.le_trans a (Nat.le_add_right _ _), fun q => ?_⟩
  have hq : st.V v ≠ 0 := q
  rw [show pget (⟨st.N ++ [x], st.V⟩ : NS).N (st.V v - 1) = pget st.N (st.V v - 1) from pget_app (by omega)]
  exact b hq
/-- What putting in leaves. -/
structure PutOk (st st' : NS) (m : Nat) : Prop where
  ok : NetOk st'
  ext : ∃ M, st'.N = st.N ++ M
  len : st'.N.length ≤ st.N.length + m
  keep : ∀ v, st.V v ≠ 0 → st'.V v = st.V v
theorem PutOk.le {st st' : NS} {m : Nat} (h : PutOk st st' m) : st.N.length ≤ st'.N.length := by obtain ⟨M, e⟩ := h.ext; rw [e, List.length_append]; omega
theorem PutOk.get {st st' : NS} {m i : Nat} (h : PutOk st st' m) (hi : i < st.N.length) : pget st'.N i = pget st.N i := by obtain ⟨M, e⟩ := h.ext; rw [e, pget_app hi]
theorem PutOk.trans {st st2 st3 : NS} {m n : Nat} (h : PutOk st st2 m) (k : PutOk st2 st3 n) : PutOk st st3 (m + n) := by
  obtain ⟨M, e⟩ := h.ext
  obtain ⟨M2, e2⟩ := k.ext
  exact ⟨k.ok, ⟨M ++ M2, by rw [e2, e, List.append_assoc]⟩, by have := h.len; have := k.len; omega, fun v q => by have z := h.keep v q; rw [k.keep v (by rw [z]; exact q), z]⟩
theorem var_ok {st : NS} {f : Int} (h : NetOk st) (hf : f < 0) : PutOk st (st.var f).1 1 ∧ (st.var f).2 < (st.var f).1.N.length ∧ (pget (st.var f).1.N (st.var f).2).fn = f ∧ (st.var f).1.V (vnum f) = (st.var f).2 + 1 := by
  unfold NS.var
  by_cases c : st.V (vnum f) ≠ 0
  · rw [if_pos c]
    obtain ⟨a, b⟩ := h.vars (vnum f)
    refine ⟨⟨h, ⟨[], by simp⟩, by (try dsimp only); omega, fun _ _ => rfl⟩, by (try dsimp only); omega, ?_, by (try dsimp only); omega⟩
    have z := b c
    (try dsimp only)
    rw [z]; unfold vnum; omega
  · rw [if_neg c]
    have e0 : st.V (vnum f) = 0 := by omega
    refine ⟨⟨⟨nok_app h.args (fun a q => by simp at q) (fun _ => rfl), fun v => ?_⟩, ⟨_, rfl⟩, by simp, fun v q => ?_⟩, by simp, ?_, ?_⟩
    · show NS.setV st.V (vnum f) (st.N.length + 1) v ≤ (st.N ++ [(⟨f, []⟩ : Pt)]).length ∧ (NS.setV st.V (vnum f) (st.N.length + 1) v ≠ 0 → (pget (st.N ++ [(⟨f, []⟩ : Pt)]) (NS.setV st.V (vnum f) (st.N.length + 1) v - 1)).fn = -1 - (v : Int))
      by_cases hv : v = vnum f
      · subst hv
        rw [show NS.setV st.V (vnum f) (st.N.length + 1) (vnum f) = st.N.length + 1 from if_pos rfl]
        refine ⟨by simp, fun _ => ?_⟩
        rw [Nat.add_sub_cancel, pget_new]
        unfold vnum; (try dsimp only); omega
      · rw [show NS.setV st.V (vnum f) (st.N.length + 1) v = st.V v from if_neg hv]
        obtain ⟨a, b⟩ := h.vars v
        refine ⟨by simp; omega, fun q => ?_⟩
        rw [pget_app (by omega)]; exact b q
    · have : v ≠ vnum f := fun e => by subst e; exact q e0
      show NS.setV st.V (vnum f) _ v = _
      unfold NS.setV; rw [if_neg this]
    · show (pget (st.N ++ [_]) st.N.length).fn = f
      rw [pget_new]
    · show NS.setV st.V (vnum f) _ (vnum f) = _
      unfold NS.setV; rw [if_pos rfl]
mutual
theorem put_ok : ∀ (t : T) (st : NS), NetOk st → PutOk st (t.put st).1 t.size ∧ (t.put st).2 < (t.put st).1.N.length
  | .mk f l, st, h => by
    rw [T.put]
    by_cases hf : f < 0
    · rw [if_pos hf]
      obtain ⟨a, b, _, _⟩ := var_ok h hf
      refine ⟨⟨a.ok, a.ext, ?_, a.keep⟩, b⟩
      have := a.len; rw [T.size]; omega
    · rw [if_neg hf]
      obtain ⟨a, b, c⟩ := putL_ok l st h
      have o2 := netOk_app (x := ⟨f, (T.putL l st).2⟩) a.ok b (fun q => absurd q hf)
      obtain ⟨M, e⟩ := a.ext
      refine ⟨⟨o2, ⟨M ++ [⟨f, (T.putL l st).2⟩], by show (T.putL l st).1.N ++ _ = _; rw [e, List.append_assoc]⟩, ?_, a.keep⟩, by simp⟩
      have := a.len
      rw [T.size]; simp; omega
theorem putL_ok : ∀ (l : List T) (st : NS), NetOk st → PutOk st (T.putL l st).1 (T.sizeL l) ∧ (∀ a ∈ (T.putL l st).2, a < (T.putL l st).1.N.length) ∧ (T.putL l st).2.length = l.length
  | [], st, h => by rw [T.putL]; exact ⟨⟨h, ⟨[], by simp⟩, by simp [T.sizeL], fun _ _ => rfl⟩, fun a q => by simp at q, rfl⟩
  | t :: r, st, h => by
    rw [T.putL]
    obtain ⟨a, b⟩ := put_ok t st h
    obtain ⟨c, d, e⟩ := putL_ok r _ a.ok
    refine ⟨?_, fun x q => ?_, by simp [e]⟩
    · rw [T.sizeL]; exact a.trans c
    · rcases List.mem_cons.1 q with rfl | q
      · have := c.le; (try dsimp only); omega
      · exact d x q
end
/-- Growing leaves what stands for parts closed. -/
theorem KCl.grow {N M : List Pt} {κ : Nat → Nat} (h : KCl N κ) : KCl (N ++ M) κ := by
  have hb : ∀ i, i < (N ++ M).length → κ i < (N ++ M).length := fun i hi => by
    by_cases hl : i < N.length
    · have := h.ok.lt i hl; rw [List.length_append]; omega
    · rw [h.ok.big i (by omega)]; exact hi
  refine ⟨⟨h.ok.idem, hb, fun i hi => h.ok.big i (by rw [List.length_append] at hi; omega), fun i hi => ?_⟩, fun i j hi hj e h0 h1 => ?_⟩
  · by_cases hl : i < N.length
    · have z := h.ok.lt i hl
      rw [pget_app z] at hi ⊢
      rw [pget_app hl]
      exact h.ok.top i hi
    · rw [h.ok.big i (by omega)]; exact Int.le_refl _
  · by_cases li : i < N.length
    · by_cases lj : j < N.length
      · rw [pget_app li] at h0 ⊢
        rw [pget_app lj] at h1 ⊢
        exact h.inv i j li lj e h0 h1
      · have z := h.ok.lt i li
        rw [e, h.ok.big j (by omega)] at z; omega
    · by_cases lj : j < N.length
      · have z := h.ok.lt j lj
        rw [← e, h.ok.big i (by omega)] at z; omega
      · rw [h.ok.big i (by omega), h.ok.big j (by omega)] at e
        subst e
        exact ⟨rfl, rfl, fun S hS _ _ k _ => hS.refl _⟩
/-- Pairs of terms, put in and joined, one behind the other. -/
inductive NRun (rv : Bool) : List (T × T) → NS → (Nat → Nat) → Option (NS × (Nat → Nat)) → Prop
  | nil (st : NS) (κ : Nat → Nat) : NRun rv [] st κ (some (st, κ))
  | fail {a b : T} {r : List (T × T)} {st : NS} {κ : Nat → Nat} : Run rv (b.put (a.put st).1).1.N [((a.put st).2, (b.put (a.put st).1).2)] κ none → NRun rv ((a, b) :: r) st κ none
  | cons {a b : T} {r : List (T × T)} {st : NS} {κ κ' : Nat → Nat} {o : Option (NS × (Nat → Nat))} : Run rv (b.put (a.put st).1).1.N [((a.put st).2, (b.put (a.put st).1).2)] κ (some κ') → NRun rv r (b.put (a.put st).1).1 κ' o → NRun rv ((a, b) :: r) st κ o
theorem NRun.snoc {rv : Bool} {l : List (T × T)} {a b : T} {st st' : NS} {κ κ' : Nat → Nat} (h : NRun rv l st κ (some (st', κ'))) : (∀ κ2, Run rv (b.put (a.put st').1).1.N [((a.put st').2, (b.put (a.put st').1).2)] κ' (some κ2) → NRun rv (l ++ [(a, b)]) st κ (some ((b.put (a.put st').1).1, κ2))) ∧
    (Run rv (b.put (a.put st').1).1.N [((a.put st').2, (b.put (a.put st').1).2)] κ' none → ∀ r, NRun rv (l ++ (a, b) :: r) st κ none) := by
  generalize ho : some (st', κ') = o at h
  induction h with
  | nil st κ =>
    simp only [Option.some.injEq, Prod.mk.injEq] at ho
    obtain ⟨rfl, rfl⟩ := ho
    exact ⟨fun κ2 h => .cons h (.nil _ _), fun h r => .fail h⟩
  | fail h => cases ho
  | cons h1 _ ih => exact ⟨fun κ2 h => .cons h1 ((ih ho).1 κ2 h), fun h r => .cons h1 ((ih ho).2 h r)⟩
theorem nrun_alike {rv rv' : Bool} {l : List (T × T)} {st : NS} {κ : Nat → Nat} {o : Option (NS × (Nat → Nat))} (h : NRun rv l st κ o) : ∀ {κ2 : Nat → Nat} {o2 : Option (NS × (Nat → Nat))}, NetOk st → KCl st.N κ → KCl st.N κ2 → Alike κ κ2 → NRun rv' l st κ2 o2 →
    (o = none ∧ o2 = none) ∨ ∃ st' κ' κ2', o = some (st', κ') ∧ o2 = some (st', κ2') ∧ NetOk st' ∧ KCl st'.N κ' ∧ KCl st'.N κ2' ∧ Alike κ' κ2' := by
  have two : ∀ (a b : T) (st : NS) (κ : Nat → Nat), NetOk st → KCl st.N κ → KCl (b.put (a.put st).1).1.N κ ∧ NetOk (b.put (a.put st).1).1 ∧ InR (b.put (a.put st).1).1.N [((a.put st).2, (b.put (a.put st).1).2)] := fun a b st κ hs hk => by
    obtain ⟨p1, p2⟩ := put_ok a st hs
    obtain ⟨q1, q2⟩ := put_ok b _ p1.ok
    obtain ⟨M, e⟩ := p1.ext
    obtain ⟨M2, e2⟩ := q1.ext
    refine ⟨by rw [e2, e]; exact hk.grow.grow, q1.ok, fun p hp => ?_⟩
    obtain rfl := List.mem_singleton.1 hp
    exact ⟨Nat.lt_of_lt_of_le p2 q1.le, q2⟩
  induction h with
  | nil st κ =>
    intro κ2 o2 hs hk hk2 ha h2
    cases h2
    exact .inr ⟨st, κ, κ2, rfl, rfl, hs, hk, hk2, ha⟩
  | @fail a b r st κ h1 =>
    intro κ2 o2 hs hk hk2 ha h2
    obtain ⟨k1, k2, k3⟩ := two a b st κ hs hk
    have k1' := (two a b st κ2 hs hk2).1
    cases h2 with
    | fail h3 => exact .inl ⟨rfl, rfl⟩
    | cons h3 h4 =>
      rcases run_alike k2.args k1 k1' ha k3 h1 h3 with ⟨_, e⟩ | ⟨_, _, e, _⟩
      · cases e
      · cases e
  | @cons a b r st κ κ' o h1 _ ih =>
    intro κ2 o2 hs hk hk2 ha h2
    obtain ⟨k1, k2, k3⟩ := two a b st κ hs hk
    have k1' := (two a b st κ2 hs hk2).1
    cases h2 with
    | fail h3 =>
      rcases run_alike k2.args k1 k1' ha k3 h1 h3 with ⟨e, _⟩ | ⟨_, _, _, e, _⟩
      · cases e
      · cases e
    | cons h3 h4 =>
      rcases run_alike k2.args k1 k1' ha k3 h1 h3 with ⟨e, _⟩ | ⟨κ3, κ4, e3, e4, m1, m2, m3, _⟩
      · cases e
      · obtain rfl := Option.some.inj e3
        obtain rfl := Option.some.inj e4
        exact ih k2 m1 m2 m3 h4
/-! ### Measures -/
def capS : Nat := 1099511627776
def szF (κ sz : Nat → Nat) (l : List Nat) : Nat := l.foldl (fun n a => min (n + sz (κ a)) capS) 1
def dpF (κ dp : Nat → Nat) (l : List Nat) : Nat := l.foldl (fun n a => max n (dp (κ a) + 1)) 1
/-- How large and how deep parts become: nothing stands in itself. -/
structure Meas (N : List Pt) (κ sz dp : Nat → Nat) : Prop where
  sz : ∀ i, i < N.length → sz (κ i) = szF κ sz (pget N (κ i)).args
  dp : ∀ i, i < N.length → dp (κ i) = dpF κ dp (pget N (κ i)).args
theorem dpF_ge (κ dp : Nat → Nat) : ∀ (l : List Nat) (n : Nat), n ≤ l.foldl (fun n a => max n (dp (κ a) + 1)) n ∧ ∀ a ∈ l, dp (κ a) < l.foldl (fun n a => max n (dp (κ a) + 1)) n
  | [], n => ⟨Nat.le_refl _, fun a h => by simp at h⟩
  | x :: r, n => by
    rw [List.foldl_cons]
    obtain ⟨h1, h2⟩ := dpF_ge κ dp r (max n (dp (κ x) + 1))
    refine ⟨by omega, fun a h => ?_⟩
    rcases List.mem_cons.1 h with rfl | h
    · omega
    · exact h2 a h
theorem Meas.lt {N : List Pt} {κ sz dp : Nat → Nat} (h : Meas N κ sz dp) {i a : Nat} (hi : i < N.length) (ha : a ∈ (pget N (κ i)).args) : dp (κ a) < dp (κ i) := by
  rw [h.dp i hi]; exact (dpF_ge κ dp _ 1).2 a ha
theorem foldl_pair {β : Type} (f g : β → Nat → β) : ∀ (l m : List Nat) (n : β), l.length = m.length → (∀ k, k < l.length → ∀ n, f n (aget l k) = g n (aget m k)) → l.foldl f n = m.foldl g n
  | [], [], n, _, _ => rfl
  | [], _ :: _, _, h, _ => by simp at h
  | _ :: _, [], _, h, _ => by simp at h
  | x :: l, y :: m, n, h, hk => by
    rw [List.foldl_cons, List.foldl_cons, show f n x = g n y from hk 0 (by simp) n]
    exact foldl_pair f g l m _ (by simpa using h) (fun k hl n => by have z := hk (k + 1) (by simpa using hl) n; simpa [aget] using z)
/-- What stands for a part in one net, and in another one that is like it. -/
theorem alike_rep {N : List Pt} {κ κ2 : Nat → Nat} (hN : NOk N) (hk : KCl N κ) (hk2 : KCl N κ2) (ha : Alike κ κ2) {i : Nat} (hi : i < N.length) :
    (pget N (κ i)).fn = (pget N (κ2 i)).fn ∧ (pget N (κ i)).args.length = (pget N (κ2 i)).args.length ∧ ∀ k, k < (pget N (κ i)).args.length → κ (aget (pget N (κ i)).args k) = κ (aget (pget N (κ2 i)).args k) := by
  have l1 := hk.ok.lt i hi
  have l2 := hk2.ok.lt i hi
  have e : κ (κ i) = κ (κ2 i) := by rw [hk.ok.idem]; exact ((ha (κ2 i) i).2 (hk2.ok.idem i)).symm
  by_cases h1 : (pget N (κ i)).fn < 0
  · have t1 := hk.ok.top (κ2 i) (by rw [← e, hk.ok.idem]; exact h1)
    rw [← e, hk.ok.idem] at t1
    have h2 : (pget N (κ2 i)).fn < 0 := by omega
    have e2 : κ2 (κ i) = κ2 i := (ha (κ i) i).1 (hk.ok.idem i)
    have t2 := hk2.ok.top (κ i) (by rw [e2]; exact h2)
    rw [e2] at t2
    rw [(hN _ l1).2 h1, (hN _ l2).2 h2]
    exact ⟨by omega, rfl, fun k hk => by simp at hk⟩
  · by_cases h2 : (pget N (κ2 i)).fn < 0
    · have e2 : κ2 (κ i) = κ2 i := (ha (κ i) i).1 (hk.ok.idem i)
      have t2 := hk2.ok.top (κ i) (by rw [e2]; exact h2)
      rw [e2] at t2; omega
    · obtain ⟨z1, z2, z3⟩ := (hk.cld hN).dec (i := κ i) (j := κ2 i) e (by omega) (by omega)
      exact ⟨z1, z2, z3⟩
theorem meas_alike {N : List Pt} {κ κ2 sz dp sz2 dp2 : Nat → Nat} (hN : NOk N) (hk : KCl N κ) (hk2 : KCl N κ2) (ha : Alike κ κ2) (h : Meas N κ sz dp) (h2 : Meas N κ2 sz2 dp2) : ∀ (n i : Nat), i < N.length → dp (κ i) ≤ n → sz (κ i) = sz2 (κ2 i) ∧ dp (κ i) = dp2 (κ2 i)
  | 0, i, hi, hn => by
    have := (dpF_ge κ dp (pget N (κ i)).args 1).1
    have e := h.dp i hi
    unfold dpF at e; omega
  | n + 1, i, hi, hn => by
    obtain ⟨z1, z2, z3⟩ := alike_rep hN hk hk2 ha hi
    have key : ∀ k, k < (pget N (κ i)).args.length → sz (κ (aget (pget N (κ i)).args k)) = sz2 (κ2 (aget (pget N (κ2 i)).args k)) ∧ dp (κ (aget (pget N (κ i)).args k)) = dp2 (κ2 (aget (pget N (κ2 i)).args k)) := fun k hkl => by
      have hm := aget_mem hkl
      have hlt := h.lt hi hm
      have hi2 := (hN _ (hk.ok.lt i hi)).1 _ hm
      have := hk.ok.lt i hi
      have z := meas_alike hN hk hk2 ha h h2 n (aget (pget N (κ i)).args k) (by omega) (by omega)
      rw [← (ha _ _).1 (z3 k hkl)]; exact z
    rw [h.sz i hi, h2.sz i hi, h.dp i hi, h2.dp i hi]
    exact ⟨foldl_pair _ _ _ _ _ z2 (fun k hkl n => by rw [(key k hkl).1]), foldl_pair _ _ _ _ _ z2 (fun k hkl n => by rw [(key k hkl).2])⟩
/-- If parts can be measured in one net, they can in one that is like it. -/
theorem meas_move {N : List Pt} {κ κ2 sz dp : Nat → Nat} (hN : NOk N) (hk : KCl N κ) (hk2 : KCl N κ2) (ha : Alike κ κ2) (h : Meas N κ sz dp) : Meas N κ2 (fun i => sz (κ i)) (fun i => dp (κ i)) := by
  have e : ∀ i, κ (κ2 i) = κ i := fun i => (ha (κ2 i) i).2 (hk2.ok.idem i)
  have step : ∀ i, i < N.length → ∀ k, k < (pget N (κ i)).args.length → κ (aget (pget N (κ i)).args k) = κ (κ2 (aget (pget N (κ2 i)).args k)) := fun i hi k hkl => by
    obtain ⟨_, _, z3⟩ := alike_rep hN hk hk2 ha hi
    rw [z3 k hkl, e]
  refine ⟨fun i hi => ?_, fun i hi => ?_⟩
  · obtain ⟨_, z2, _⟩ := alike_rep hN hk hk2 ha hi
    show sz (κ (κ2 i)) = _
    rw [e, h.sz i hi]
    exact foldl_pair _ _ _ _ _ z2 (fun k hkl n => by rw [step i hi k hkl])
  · obtain ⟨_, z2, _⟩ := alike_rep hN hk hk2 ha hi
    show dp (κ (κ2 i)) = _
    rw [e, h.dp i hi]
    exact foldl_pair _ _ _ _ _ z2 (fun k hkl n => by rw [step i hi k hkl])
/-- What a part becomes, to so many steps. -/
def tmF (N : List Pt) (κ : Nat → Nat) : Nat → Nat → T
  | 0, i => .mk 0 []
  | n + 1, i => .mk (pget N (κ i)).fn ((pget N (κ i)).args.map (tmF N κ n))
theorem map_pair {β : Type} (f g : Nat → β) : ∀ (l m : List Nat), l.length = m.length → (∀ k, k < l.length → f (aget l k) = g (aget m k)) → l.map f = m.map g
  | [], [], _, _ => rfl
  | [], _ :: _, h, _ => by simp at h
  | _ :: _, [], h, _ => by simp at h
  | x :: l, y :: m, h, hk => by
    rw [List.map_cons, List.map_cons, show f x = g y from hk 0 (by simp)]
    congr 1
    exact map_pair f g l m (by simpa using h) (fun k hl => by have z := hk (k + 1) (by simpa using hl); simpa [aget] using z)
theorem tmF_alike {N : List Pt} {κ κ2 : Nat → Nat} (hN : NOk N) (hk : KCl N κ) (hk2 : KCl N κ2) (ha : Alike κ κ2) : ∀ (n i : Nat), i < N.length → tmF N κ n i = tmF N κ2 n i
  | 0, i, _ => rfl
  | n + 1, i, hi => by
    obtain ⟨z1, z2, z3⟩ := alike_rep hN hk hk2 ha hi
    rw [tmF, tmF, z1]
    congr 1
    refine map_pair _ _ _ _ z2 (fun k hkl => ?_)
    have b1 := (hN _ (hk.ok.lt i hi)).1 _ (aget_mem hkl)
    have l1 := hk.ok.lt i hi
    have l2 := hk2.ok.lt i hi
    have b2 := (hN _ l2).1 _ (aget_mem (show k < (pget N (κ2 i)).args.length by omega))
    rw [tmF_alike hN hk hk2 ha n _ (by omega)]
    have e : ∀ (n a b : Nat), κ2 a = κ2 b → tmF N κ2 n a = tmF N κ2 n b := fun n a b h => by
      cases n with
      | zero => rfl
      | succ n => rw [tmF, tmF, h]
    exact e n _ _ ((ha _ _).1 (z3 k hkl))
/-- What the first variables become; none: one of them becomes too large. -/
def bindsM (st : NS) (κ sz dp : Nat → Nat) : Nat → Option (List Bd)
  | 0 => some []
  | v + 1 => match bindsM st κ sz dp v with
    | none => none
    | some s => if st.V v = 0 then some s else if (pget st.N (κ (st.V v - 1))).fn = -1 - (v : Int) then some s
      else if 300 < sz (κ (st.V v - 1)) ∨ 30 < dp (κ (st.V v - 1)) then none else some (s ++ [⟨(v : Int), tmF st.N κ (dp (κ (st.V v - 1))) (κ (st.V v - 1))⟩])
theorem bindsM_alike {st : NS} {κ κ2 sz dp sz2 dp2 : Nat → Nat} (hs : NetOk st) (hk : KCl st.N κ) (hk2 : KCl st.N κ2) (ha : Alike κ κ2) (h : Meas st.N κ sz dp) (h2 : Meas st.N κ2 sz2 dp2) : ∀ v, bindsM st κ sz dp v = bindsM st κ2 sz2 dp2 v
  | 0 => rfl
  | v + 1 => by
    rw [bindsM, bindsM, bindsM_alike hs hk hk2 ha h h2 v]
    cases bindsM st κ2 sz2 dp2 v with
    | none => rfl
    | some s =>
      (try dsimp only)
      by_cases c : st.V v = 0
      · rw [if_pos c, if_pos c]
      · rw [if_neg c, if_neg c]
        have hv := (hs.vars v).1
        have hi : st.V v - 1 < st.N.length := by omega
        obtain ⟨z1, _, _⟩ := alike_rep hs.args hk hk2 ha hi
        obtain ⟨m1, m2⟩ := meas_alike hs.args hk hk2 ha h h2 _ _ hi (Nat.le_refl _)
        rw [z1, m1, m2]
        have e1 : tmF st.N κ (dp2 (κ2 (st.V v - 1))) (κ (st.V v - 1)) = tmF st.N κ2 (dp2 (κ2 (st.V v - 1))) (κ2 (st.V v - 1)) := by
          rw [tmF_alike hs.args hk hk2 ha _ _ (hk.ok.lt _ hi)]
          cases dp2 (κ2 (st.V v - 1)) with
          | zero => rfl
          | succ n => rw [tmF, tmF, hk2.ok.idem, (ha (κ (st.V v - 1)) (st.V v - 1)).1 (hk.ok.idem _)]
        rw [e1]
/-- What joining all pairs comes to: none: there is no unifier. -/
inductive SolveIs (rv : Bool) (l : List (T × T)) : Option (NS × (Nat → Nat) × (Nat → Nat) × (Nat → Nat)) → Prop
  | clash : NRun rv l ⟨[], fun _ => 0⟩ id none → SolveIs rv l none
  | cyc {st : NS} {κ : Nat → Nat} : NRun rv l ⟨[], fun _ => 0⟩ id (some (st, κ)) → (∀ sz dp, ¬ Meas st.N κ sz dp) → SolveIs rv l none
  | ok {st : NS} {κ sz dp : Nat → Nat} : NRun rv l ⟨[], fun _ => 0⟩ id (some (st, κ)) → Meas st.N κ sz dp → SolveIs rv l (some (st, κ, sz, dp))
theorem net0_ok : NetOk ⟨[], fun _ => 0⟩ := ⟨fun i hi => by simp at hi, fun v => ⟨Nat.le_refl _, fun q => absurd rfl q⟩⟩
theorem kcl0 : KCl [] id := ⟨⟨fun _ => rfl, fun i hi => by simp at hi, fun _ _ => rfl, fun i hi => by simp [pget] at hi; exact absurd hi (by decide)⟩, fun i j hi => by simp at hi⟩
/-- What the pairs' unifier is, and what is answered: 0: there is one, 3: it is too large, 4: there is none. -/
def resB : Option (List Bd) → List Bd × Int
  | none => ([], 3)
  | some s => (s, 0)
def resOf : Option (NS × (Nat → Nat) × (Nat → Nat) × (Nat → Nat)) → List Bd × Int
  | none => ([], 4)
  | some (st, κ, sz, dp) => resB (bindsM st κ sz dp 96)
theorem solve_alike {rv rv' : Bool} {l : List (T × T)} {o o2 : Option (NS × (Nat → Nat) × (Nat → Nat) × (Nat → Nat))} (h : SolveIs rv l o) (h2 : SolveIs rv' l o2) : resOf o = resOf o2 ∧ (o = none ↔ o2 = none) := by
  have go : ∀ {p q}, NRun rv l ⟨[], fun _ => 0⟩ id p → NRun rv' l ⟨[], fun _ => 0⟩ id q → _ := fun {p q} a b => nrun_alike a (κ2 := id) net0_ok kcl0 kcl0 (fun _ _ => Iff.rfl) b
  cases h with
  | clash a =>
    cases h2 with
    | clash b => exact ⟨rfl, Iff.rfl⟩
    | cyc b _ => exact ⟨rfl, Iff.rfl⟩
    | ok b _ =>
      rcases go a b with ⟨_, e⟩ | ⟨_, _, _, e, _⟩
      · cases e
      · cases e
  | @cyc st κ a c =>
    cases h2 with
    | clash b => exact ⟨rfl, Iff.rfl⟩
    | cyc b _ => exact ⟨rfl, Iff.rfl⟩
    | @ok st2 κ2 sz dp b m =>
      rcases go a b with ⟨e, _⟩ | ⟨st', κ', κ2', e1, e2, n1, n2, n3, n4⟩
      · cases e
      · cases e1; cases e2
        exact absurd (meas_move n1.args n3 n2 (fun i j => (n4 i j).symm) m) (c _ _)
  | @ok st κ sz dp a m =>
    cases h2 with
    | clash b =>
      rcases go a b with ⟨e, _⟩ | ⟨_, _, _, _, e, _⟩
      · cases e
      · cases e
    | @cyc st2 κ2 b c =>
      rcases go a b with ⟨e, _⟩ | ⟨st', κ', κ2', e1, e2, n1, n2, n3, n4⟩
      · cases e
      · cases e1; cases e2
        exact absurd (meas_move n1.args n2 n3 n4 m) (c _ _)
    | @ok st2 κ2 sz2 dp2 b m2 =>
      rcases go a b with ⟨e, _⟩ | ⟨st', κ', κ2', e1, e2, n1, n2, n3, n4⟩
      · cases e
      · cases e1; cases e2
        refine ⟨?_, ⟨fun e => (nomatch e), fun e => (nomatch e)⟩⟩
        show resB (bindsM st κ sz dp 96) = resB (bindsM st κ2 sz2 dp2 96)
        rw [bindsM_alike n1 n2 n3 n4 m m2]
end Go.Proofs.Ythhgidliopohcaa

/- Parts in memory: rows of numbers, rows of parts; numbers written in place. -/
namespace Go.Proofs.Ythhgidliopohcaa
open Go.RowKit Go
set_option linter.unusedVariables false
set_option linter.unusedSimpArgs false
/-- Numbers, as elements. -/
def eltN : Elt Nat where
  k := 1
  In := fun _ _ x cs => cs = [.int .i64 (x : Int)]
  keep := fun _ h => h
  mono := fun _ h => h
  len := fun h => by rw [h]; rfl
  one := fun h v hv => by rw [h] at hv; simp at hv; subst hv; rfl
/-- Parts, as elements: the arguments' numbers lie in blocks of 'S'. -/
def eltP : Elt Pt where
  k := 2
  In := fun S w x cs => ∃ a c, cs = [.int .i64 x.fn, .slice a x.args.length c] ∧ InRow eltN S w x.args a
  keep := fun hb ⟨a, c, e, h⟩ => ⟨a, c, e, h.keep hb⟩
  mono := fun hb ⟨a, c, e, h⟩ => ⟨a, c, e, h.mono (by decide) hb⟩
  len := fun ⟨_, _, e, _⟩ => by rw [e]; rfl
  one := fun ⟨_, _, e, _⟩ v hv => by
    rw [e] at hv
    simp only [List.mem_cons, List.not_mem_nil, or_false] at hv
    rcases hv with rfl | rfl <;> rfl
section
variable {S : Nat → Prop} {w w' : World} {a : Option Addr} {c n e : Nat}
theorem InRow.openN {l : List Nat} (h : InRow eltN S w l a) : ∃ b o : Nat, (∀ k, k < l.length → a = some ⟨b, o, none⟩) ∧ ∀ k, k < l.length → w.cell? ⟨b, o + k, none⟩ = some (.int .i64 ((aget l k : Nat) : Int)) := by
  rcases Nat.eq_zero_or_pos l.length with h0 | h0
  · exact ⟨0, 0, fun k hk => by omega, fun k hk => by omega⟩
  · obtain ⟨b, o, _, ha, _⟩ := h 0 h0
    refine ⟨b, o, fun _ _ => ha, fun k hk => ?_⟩
    obtain ⟨b2, o2, cs, e1, _, h3, h4⟩ := h k hk
    rw [ha] at e1
    simp only [Option.some.injEq, Addr.mk.injEq, and_true] at e1
    obtain ⟨rfl, rfl⟩ := e1
    have h3' : cs = [.int .i64 ((l[k] : Nat) : Int)] := h3
    subst h3'
    rw [aget_lt hk]
    have := h4 0 (by decide)
    simpa [eltN] using this
/-- A row of numbers of one's own, in its block. -/
theorem RowD.blkN {l : List Nat} (h : RowD eltN S w e a c n l) (h0 : 0 < n) : ∃ (b : Nat) (cs : Array Value), a = some ⟨b, 0, none⟩ ∧ (Value.slice a n c).ownBlock = some b ∧ Blk w b e cs ∧ n ≤ cs.size ∧ (∀ k, k < n → w.cell? ⟨b, 0 + k, none⟩ = some (.int .i64 ((aget l k : Nat) : Int))) ∧
    ∀ (k : Nat) (v : Nat), k < n → RowD eltN S (w.setCell ⟨b, 0 + k, none⟩ (.int .i64 (v : Int))) e a c n (l.set k v) := by
  obtain ⟨⟨xs, h1, h2⟩, rfl, h4⟩ := h
  rcases h1.2 with ⟨e1, e2⟩ | ⟨g, cap, cur, e1, _, hb, hc, hm, hs, hx⟩
  · omega
  · have e1' := e1
    simp only [Value.slice.injEq, true_and] at e1'
    obtain ⟨rfl, rfl⟩ := e1'
    have hxs : ∀ (l : List Nat) (xs : List Value), Elts eltN S w l xs → xs = l.map (fun x : Nat => Value.int .i64 (x : Int)) := by
      intro l
      induction l with
      | nil => intro xs h; exact h
      | cons x r ih =>
        intro xs h
        obtain ⟨cs, q, e, k1, k2⟩ := h
        have k1' : cs = [.int .i64 (x : Int)] := k1
        rw [e, k1', ih q k2]; rfl
    have hX := hxs l xs h2
    have hl : l.length ≤ cur.size := by rw [hs]; show l.length ≤ c * 1; omega
    have hin : ∀ k, k < l.length → cur[k]? = some (.int .i64 ((aget l k : Nat) : Int)) := fun k hk => by
      have := congrArg (fun q => q[k]?) hx
      simp only [hX] at this
      rw [List.getElem?_take_of_lt (by show k < l.length * 1; omega), Array.getElem?_toList, List.getElem?_map, List.getElem?_eq_getElem hk] at this
      rw [this, aget_lt hk]; rfl
    refine ⟨g, cur, rfl, rfl, hb, hl, fun k hk => ?_, fun k v hk => ?_⟩
    · rw [Nat.zero_add, Blk.cell hb]; exact hin k hk
    · rw [Nat.zero_add]
      have hB' := Blk.set_ (show Blk w g e cur from hb) k (.int .i64 (v : Int))
      refine ⟨⟨(l.set k v).map (fun x : Nat => Value.int .i64 (x : Int)), ⟨?_, .inr ⟨g, c, cur.setIfInBounds k (.int .i64 (v : Int)), rfl, Nat.zero_le _, hB', hc, hm, by simpa using hs, ?_⟩⟩, ?_⟩, by simp, h4⟩
      · have := h1.1; rw [hX] at this; simpa using this
      · rw [Array.toList_setIfInBounds, List.take_set, hx, hX, List.map_set]
      · have : ∀ (w : World) (l : List Nat), Elts eltN S w l (l.map (fun x : Nat => Value.int .i64 (x : Int))) := by
          intro w l
          induction l with
          | nil => rfl
          | cons x r ih => exact ⟨_, _, rfl, rfl, ih⟩
        exact this _ _
theorem InRow.chgS {α : Type} {E : Elt α} {S2 : Nat → Prop} {l : List α} (h : InRow E S w l a) (hc : Chg S2 w w') (hS : ∀ b, S b → ¬ S2 b) : InRow E S w' l a := h.keep (fun p v hp hv => by
  have hb := World.block_lt_of_cell? _ _ hv
  unfold World.cell? at hv ⊢
  rw [hc.block p.block hb (hS _ hp)]; exact hv)
theorem InRow.nilN {w : World} : InRow eltN S w [] none := fun i hi => by simp at hi
end
/-- What stands for parts, by links: each link leads nearer to what stands for it. -/
structure Reps (U : List Nat) (κ d : Nat → Nat) : Prop where
  at_ : ∀ i, i < U.length → aget U i < U.length ∧ κ (aget U i) = κ i ∧ (aget U i = i ∨ d (aget U i) < d i) ∧ (aget U i = i → κ i = i)
theorem aget_set {l : List Nat} {i v k : Nat} (hi : i < l.length) : aget (l.set i v) k = if k = i then v else aget l k := by
  unfold aget
  rw [List.getD_eq_getElem?_getD, List.getD_eq_getElem?_getD, List.getElem?_set]
  by_cases h : i = k
  · subst h; rw [if_pos rfl, if_pos rfl, if_pos hi]; rfl
  · rw [if_neg h, if_neg (Ne.symm h)]
theorem Reps.halve {U : List Nat} {κ d : Nat → Nat} (h : Reps U κ d) {i : Nat} (hi : i < U.length) (hne : aget U i ≠ i) : Reps (U.set i (aget U (aget U i))) κ d := by
  obtain ⟨a1, a2, a3, a4⟩ := h.at_ i hi
  obtain ⟨b1, b2, b3, b4⟩ := h.at_ _ a1
  refine ⟨fun k hk => ?_⟩
  rw [List.length_set] at hk ⊢
  rw [aget_set hi]
  by_cases e : k = i
  · subst e
    rw [if_pos rfl]
    have a3' : d (aget U k) < d k := by rcases a3 with q | q; exact absurd q hne; exact q
    have hd : d (aget U (aget U k)) < d k := by
      rcases b3 with q | q
      · rw [q]; exact a3'
      · omega
    exact ⟨b1, by rw [b2, a2], .inr hd, fun q => by rw [q] at hd; omega⟩
  · rw [if_neg e]; exact h.at_ k hk
theorem Reps.merge {U : List Nat} {κ d : Nat → Nat} (h : Reps U κ d) {a b : Nat} (ha : a < U.length) (hb : b < U.length) (hka : κ a = a) (hkb : κ b = b) (hab : a ≠ b) (hid : ∀ i, κ (κ i) = κ i) : Reps (U.set b a) (mrg κ b a) (fun x => if κ x = b then d x + d a + 1 else d x) := by
  refine ⟨fun k hk => ?_⟩
  rw [List.length_set] at hk ⊢
  rw [aget_set hb]
  by_cases e : k = b
  · subst e
    rw [if_pos rfl]
    refine ⟨ha, ?_, .inr ?_, fun q => absurd q hab⟩
    · unfold mrg; rw [hka, if_neg hab, hkb, if_pos rfl]
    · rw [hka, if_neg hab, hkb, if_pos rfl]; omega
  · rw [if_neg e]
    obtain ⟨a1, a2, a3, a4⟩ := h.at_ k hk
    refine ⟨a1, by unfold mrg; rw [a2], ?_, fun q => ?_⟩
    · rw [a2]
      rcases a3 with q | q
      · exact .inl q
      · right; split <;> omega
    · have := a4 q
      unfold mrg; rw [this, if_neg e]
theorem Reps.push {U : List Nat} {κ d : Nat → Nat} (h : Reps U κ d) (hb : ∀ i, U.length ≤ i → κ i = i) : Reps (U ++ [U.length]) κ d := by
  refine ⟨fun k hk => ?_⟩
  rw [List.length_append] at hk ⊢
  by_cases hl : k < U.length
  · have e : aget (U ++ [U.length]) k = aget U k := by unfold aget; rw [List.getD_eq_getElem?_getD, List.getD_eq_getElem?_getD, List.getElem?_append_left hl]
    rw [e]
    obtain ⟨a1, a2, a3, a4⟩ := h.at_ k hl
    exact ⟨by omega, a2, a3, a4⟩
  · have hk' : k < U.length + 1 := hk
    obtain rfl : k = U.length := by omega
    have e : aget (U ++ [U.length]) U.length = U.length := by unfold aget; rw [List.getD_eq_getElem?_getD, List.getElem?_append_right (Nat.le_refl _)]; simp
    rw [e]
    exact ⟨by simp, rfl, .inl rfl, fun _ => hb _ (Nat.le_refl _)⟩
end Go.Proofs.Ythhgidliopohcaa

/- The program's net in memory. -/
namespace Go.Proofs.Ythhgidliopohcaa
open Go.RowKit Go
set_option linter.unusedVariables false
set_option linter.unusedSimpArgs false
abbrev obk (a : Option Addr) (n c : Nat) : Option Nat := (Value.slice a n c).ownBlock
/-- The cells of a net. -/
def netC (ua : Option Addr) (un uc : Nat) (oa : Option Addr) (on oc : Nat) (V : Nat → Nat) : Array Value := (.slice ua un uc :: .slice oa on oc :: (List.range 96).map (fun v => Value.int .i64 ((V v : Nat) : Int))).toArray
section
variable {ua oa : Option Addr} {un uc on oc : Nat} {V : Nat → Nat}
theorem netC_size : (netC ua un uc oa on oc V).size = 98 := by simp [netC]
theorem netC_0 : (netC ua un uc oa on oc V)[0]? = some (.slice ua un uc) := by simp [netC]
theorem netC_1 : (netC ua un uc oa on oc V)[0 + 1]? = some (.slice oa on oc) := by simp [netC]
theorem netC_v {v : Nat} (h : v < 96) : (netC ua un uc oa on oc V)[2 + v]? = some (.int .i64 ((V v : Nat) : Int)) := by
  unfold netC
  rw [List.getElem?_toArray, show 2 + v = v + 1 + 1 by omega, List.getElem?_cons_succ, List.getElem?_cons_succ, List.getElem?_map, List.getElem?_range h]; rfl
theorem netC_set0 {ra : Option Addr} {n c : Nat} : (netC ua un uc oa on oc V).setIfInBounds 0 (.slice ra n c) = netC ra n c oa on oc V := by unfold netC; rw [List.setIfInBounds_toArray]; rfl
theorem netC_set1 {ra : Option Addr} {n c : Nat} : (netC ua un uc oa on oc V).setIfInBounds (0 + 1) (.slice ra n c) = netC ua un uc ra n c V := by unfold netC; rw [List.setIfInBounds_toArray]; rfl
theorem netC_setv {v x : Nat} (h : v < 96) : (netC ua un uc oa on oc V).setIfInBounds (2 + v) (.int .i64 ((x : Nat) : Int)) = netC ua un uc oa on oc (NS.setV V v x) := by
  unfold netC
  rw [List.setIfInBounds_toArray, show 2 + v = v + 1 + 1 by omega, List.set_cons_succ, List.set_cons_succ]
  congr 3
  apply List.ext_getElem
  · simp
  · intro k h1 h2
    simp only [List.getElem_set, List.getElem_map, List.getElem_range]
    unfold NS.setV
    by_cases e : v = k
    · rw [if_pos e, if_pos e.symm]
    · rw [if_neg e, if_neg (Ne.symm e)]
end
/-- The net at 'g': its rows, the blocks 'S' of parts' arguments. -/
structure PN (w : World) (g : Nat) (S : Nat → Prop) (ua : Option Addr) (uc : Nat) (oa : Option Addr) (oc : Nat) (U : List Nat) (N : List Pt) (V : Nat → Nat) : Prop where
  blk : Blk w g 54 (netC ua N.length uc oa N.length oc V)
  up : RowD eltN (fun _ => False) w 3 ua uc N.length U
  of : RowD eltP S w 57 oa oc N.length N
  uS : ∀ b, obk ua N.length uc = some b → ¬ S b ∧ b ≠ g ∧ obk oa N.length oc ≠ some b
  oS : ∀ b, obk oa N.length oc = some b → b ≠ g
  sS : ∀ b, S b → b ≠ g ∧ b < w.heap.size
/-- The net's blocks. -/
def PZ (g : Nat) (S : Nat → Prop) (ua : Option Addr) (uc : Nat) (oa : Option Addr) (oc n : Nat) : Nat → Prop := fun b => b = g ∨ obk ua n uc = some b ∨ obk oa n oc = some b ∨ S b
section
variable {w w' : World} {g uc oc : Nat} {S : Nat → Prop} {ua oa : Option Addr} {U : List Nat} {N : List Pt} {V : Nat → Nat}
theorem PN.len (h : PN w g S ua uc oa oc U N V) : U.length = N.length := h.up.len.symm
theorem PN.chg {Z : Nat → Prop} (h : PN w g S ua uc oa oc U N V) (hc : Chg Z w w') (hZ : ∀ b, PZ g S ua uc oa oc N.length b → ¬ Z b) : PN w' g S ua uc oa oc U N V :=
  ⟨chg_blk h.blk hc (hZ g (.inl rfl)), h.up.chg hc (fun b q => hZ b (.inr (.inl q))) (fun b q => q.elim), h.of.chg hc (fun b q => hZ b (.inr (.inr (.inl q)))) (fun b q => hZ b (.inr (.inr (.inr q)))), h.uS, h.oS, fun b q => ⟨(h.sS b q).1, Nat.lt_of_lt_of_le (h.sS b q).2 hc.size⟩⟩
theorem PN.below (h : PN w g S ua uc oa oc U N V) (hb : Below w.heap.size w w') : PN w' g S ua uc oa oc U N V := h.chg (Z := fun _ => False) (.ofBelow hb) (fun _ _ => id)
theorem PN.upd {q : Nat} (h : PN w g S ua uc oa oc U N V) (hu : Upd q w w') (hq : ¬ PZ g S ua uc oa oc N.length q) : PN w' g S ua uc oa oc U N V := h.chg (Z := fun b => b = q) (.ofUpd hu rfl) (fun b k e => hq (e ▸ k))
theorem PN.lt (h : PN w g S ua uc oa oc U N V) : ∀ b, PZ g S ua uc oa oc N.length b → b < w.heap.size := fun b q => by
  rcases q with rfl | q | q | q
  · exact h.blk.lt
  · exact h.up.lt b q
  · exact h.of.lt b q
  · exact (h.sS b q).2
theorem PN.c0 (h : PN w g S ua uc oa oc U N V) : w.cell? ⟨g, 0, none⟩ = some (.slice ua N.length uc) := (h.blk.cell 0).trans netC_0
theorem PN.c1 (h : PN w g S ua uc oa oc U N V) : w.cell? ⟨g, 0 + 1, none⟩ = some (.slice oa N.length oc) := (h.blk.cell (0 + 1)).trans netC_1
theorem PN.cv (h : PN w g S ua uc oa oc U N V) {v : Nat} (hv : v < 96) : w.cell? ⟨g, 2 + v, none⟩ = some (.int .i64 ((V v : Nat) : Int)) := (h.blk.cell (2 + v)).trans (netC_v hv)
/-- A link is written. -/
theorem PN.setU {b : Nat} (h : PN w g S (some ⟨b, 0, none⟩) uc oa oc U N V) {i v : Nat} (hi : i < N.length) : (∃ cs, Blk w b 3 cs ∧ 0 + i + 0 < cs.size) ∧ PN (w.setCell ⟨b, 0 + i, none⟩ (.int .i64 ((v : Nat) : Int))) g S (some ⟨b, 0, none⟩) uc oa oc (U.set i v) N V := by
  obtain ⟨b2, cs, e1, e2, hB, hsz, _, hset⟩ := h.up.blkN (by omega)
  obtain rfl : b = b2 := by simpa using e1
  have hU := h.uS b e2
  have hu := Upd.at_ w b (0 + i) (.int .i64 ((v : Nat) : Int))
  have hc : Chg (fun k => k = b) w (w.setCell ⟨b, 0 + i, none⟩ (.int .i64 ((v : Nat) : Int))) := .ofUpd hu rfl
  exact ⟨⟨cs, hB, by omega⟩, chg_blk h.blk hc (fun e => hU.2.1 e.symm), hset i v hi, h.of.chg hc (fun q k e => hU.2.2 (by rw [← show q = b from e]; exact k)) (fun q k e => hU.1 (by rw [← show q = b from e]; exact k)), h.uS, h.oS, fun q k => ⟨(h.sS q k).1, by rw [hu.size]; exact (h.sS q k).2⟩⟩
theorem PN.ub (h : PN w g S ua uc oa oc U N V) (h0 : 0 < N.length) : ∃ b, ua = some ⟨b, 0, none⟩ ∧ obk ua N.length uc = some b := by
  obtain ⟨b2, cs, e1, e2, _⟩ := h.up.blkN h0
  exact ⟨b2, e1, e2⟩
theorem PN.cu {b : Nat} (h : PN w g S (some ⟨b, 0, none⟩) uc oa oc U N V) {i : Nat} (hi : i < N.length) : w.cell? ⟨b, 0 + i, none⟩ = some (.int .i64 ((aget U i : Nat) : Int)) := by
  obtain ⟨b2, cs, e1, e2, hB, hsz, hcell, _⟩ := h.up.blkN (by omega)
  obtain rfl : b = b2 := by simpa using e1
  exact hcell i hi
/-- A variable's place is written. -/
theorem PN.setVr (h : PN w g S ua uc oa oc U N V) {v x : Nat} (hv : v < 96) : PN (w.setCell ⟨g, 2 + v, none⟩ (.int .i64 ((x : Nat) : Int))) g S ua uc oa oc U N (NS.setV V v x) := by
  have hu := Upd.at_ w g (2 + v) (.int .i64 ((x : Nat) : Int))
  have hc : Chg (fun k => k = g) w (w.setCell ⟨g, 2 + v, none⟩ (.int .i64 ((x : Nat) : Int))) := .ofUpd hu rfl
  refine ⟨?_, h.up.chg hc (fun b q e => (h.uS b q).2.1 e) (fun b q => q.elim), h.of.chg hc (fun b q e => h.oS b q e) (fun b q e => (h.sS b q).1 e), h.uS, h.oS, fun b q => ⟨(h.sS b q).1, by rw [hu.size]; exact (h.sS b q).2⟩⟩
  have := h.blk.set_ (2 + v) (.int .i64 ((x : Nat) : Int))
  rwa [netC_setv hv] at this
end
/-- A net, its blocks all in 'Z'. -/
def NetX (w : World) (g : Nat) (Z : Nat → Prop) (U : List Nat) (N : List Pt) (V : Nat → Nat) : Prop := ∃ S ua uc oa oc, PN w g S ua uc oa oc U N V ∧ (∀ b, PZ g S ua uc oa oc N.length b → Z b) ∧ ∀ b, Z b → b < w.heap.size
section
variable {w w' : World} {g : Nat} {Z : Nat → Prop} {U : List Nat} {N : List Pt} {V : Nat → Nat}
theorem NetX.chg {X : Nat → Prop} (h : NetX w g Z U N V) (hc : Chg X w w') (hX : ∀ b, Z b → ¬ X b) : NetX w' g Z U N V := by
  obtain ⟨S, ua, uc, oa, oc, h1, h2, h3⟩ := h
  exact ⟨S, ua, uc, oa, oc, h1.chg hc (fun b q => hX b (h2 b q)), h2, fun b q => Nat.lt_of_lt_of_le (h3 b q) hc.size⟩
theorem NetX.below (h : NetX w g Z U N V) (hb : Below w.heap.size w w') : NetX w' g Z U N V := h.chg (X := fun _ => False) (.ofBelow hb) (fun _ _ => id)
theorem NetX.upd {q : Nat} (h : NetX w g Z U N V) (hu : Upd q w w') (hq : ¬ Z q) : NetX w' g Z U N V := h.chg (X := fun b => b = q) (.ofUpd hu rfl) (fun b k e => hq (e ▸ k))
theorem NetX.lt (h : NetX w g Z U N V) : ∀ b, Z b → b < w.heap.size := by obtain ⟨S, ua, uc, oa, oc, h1, h2, h3⟩ := h; exact h3
theorem NetX.hg (h : NetX w g Z U N V) : Z g := by obtain ⟨S, ua, uc, oa, oc, h1, h2, h3⟩ := h; exact h2 g (.inl rfl)
theorem NetX.len (h : NetX w g Z U N V) : U.length = N.length := by obtain ⟨S, ua, uc, oa, oc, h1, h2, h3⟩ := h; exact h1.len
end
end Go.Proofs.Ythhgidliopohcaa

/- The program's net in memory while a part is added. -/
namespace Go.Proofs.Ythhgidliopohcaa
open Go.RowKit Go
set_option linter.unusedVariables false
set_option linter.unusedSimpArgs false
/-- The net, its box not yet told of its rows. -/
structure PG (w : World) (g : Nat) (S : Nat → Prop) (bu bo : Option Addr × Nat × Nat) (ua : Option Addr) (uc : Nat) (U : List Nat) (oa : Option Addr) (oc : Nat) (N : List Pt) (V : Nat → Nat) : Prop where
  blk : Blk w g 54 (netC bu.1 bu.2.1 bu.2.2 bo.1 bo.2.1 bo.2.2 V)
  up : RowD eltN (fun _ => False) w 3 ua uc U.length U
  of : RowD eltP S w 57 oa oc N.length N
  uS : ∀ b, obk ua U.length uc = some b → ¬ S b ∧ b ≠ g ∧ obk oa N.length oc ≠ some b
  oS : ∀ b, obk oa N.length oc = some b → b ≠ g
  sS : ∀ b, S b → b ≠ g ∧ b < w.heap.size
section
variable {w w' : World} {g uc oc : Nat} {S S2 : Nat → Prop} {bu bo : Option Addr × Nat × Nat} {ua oa : Option Addr} {U : List Nat} {N : List Pt} {V : Nat → Nat}
theorem PN.pg (h : PN w g S ua uc oa oc U N V) : PG w g S (ua, U.length, uc) (oa, N.length, oc) ua uc U oa oc N V := by
  have e := h.len
  obtain ⟨h1, h2, h3, h4, h5, h6⟩ := h
  exact ⟨by rw [e]; exact h1, by rw [e]; exact h2, h3, by rw [e]; exact h4, h5, h6⟩
theorem PG.pn (h : PG w g S (ua, U.length, uc) (oa, N.length, oc) ua uc U oa oc N V) (e : U.length = N.length) : PN w g S ua uc oa oc U N V := by
  obtain ⟨h1, h2, h3, h4, h5, h6⟩ := h
  rw [e] at h1 h2 h4
  exact ⟨h1, h2, h3, h4, h5, h6⟩
theorem PG.below (h : PG w g S bu bo ua uc U oa oc N V) (hb : Below w.heap.size w w') : PG w' g S bu bo ua uc U oa oc N V :=
  ⟨h.blk.below hb, h.up.below hb, h.of.below hb, h.uS, h.oS, fun b q => ⟨(h.sS b q).1, Nat.lt_of_lt_of_le (h.sS b q).2 hb.size⟩⟩
theorem PG.growU (h : PG w g S bu bo ua uc U oa oc N V) {ra : Option Addr} {rc y : Nat} (hr : RowD eltN (fun b => ((fun _ => False) b ∨ (fun _ => False) b) ∧ b < w.heap.size) w' 3 ra rc (U.length + 1) (U ++ [y])) (hc : Chg (fun b => obk ua U.length uc = some b) w w') (hn : ∀ b, obk ra (U.length + 1) rc = some b → obk ua U.length uc = some b ∨ w.heap.size ≤ b) :
    PG w' g S bu bo ra rc (U ++ [y]) oa oc N V := by
  have e : (U ++ [y]).length = U.length + 1 := by simp
  refine ⟨chg_blk h.blk hc (fun q => (h.uS g q).2.1 rfl), ?_, h.of.chg hc (fun b q q2 => (h.uS b q2).2.2 q) (fun b q q2 => (h.uS b q2).1 q), fun b q => ?_, h.oS, fun b q => ⟨(h.sS b q).1, Nat.lt_of_lt_of_le (h.sS b q).2 hc.size⟩⟩
  · rw [e]; exact hr.mono (fun b q _ => by rcases q.1 with q | q <;> exact q) (fun b q => q.elim)
  · rw [e] at q
    rcases hn b q with q1 | q1
    · exact h.uS b q1
    · exact ⟨fun z => by have := (h.sS b z).2; omega, fun z => by have := h.blk.lt; omega, fun z => by have := h.of.lt b z; omega⟩
theorem PG.store0 (h : PG w g S bu bo ua uc U oa oc N V) : PG (w.setCell ⟨g, 0, none⟩ (.slice ua U.length uc)) g S (ua, U.length, uc) bo ua uc U oa oc N V := by
  have hu := Upd.at_ w g 0 (.slice ua U.length uc)
  have hc : Chg (fun k => k = g) w (w.setCell ⟨g, 0, none⟩ (.slice ua U.length uc)) := .ofUpd hu rfl
  refine ⟨?_, h.up.chg hc (fun b q e => (h.uS b q).2.1 e) (fun b q => q.elim), h.of.chg hc (fun b q e => h.oS b q e) (fun b q e => (h.sS b q).1 e), h.uS, h.oS, fun b q => ⟨(h.sS b q).1, by rw [hu.size]; exact (h.sS b q).2⟩⟩
  have := h.blk.set_ 0 (.slice ua U.length uc)
  rwa [netC_set0] at this
theorem PG.growO (h : PG w g S bu bo ua uc U oa oc N V) {ra : Option Addr} {rc : Nat} {y : Pt} (h2 : ∀ b, S2 b → b ≠ g ∧ b < w.heap.size ∧ obk ua U.length uc ≠ some b) (hr : RowD eltP (fun b => (S b ∨ S2 b) ∧ b < w.heap.size) w' 57 ra rc (N.length + 1) (N ++ [y])) (hc : Chg (fun b => obk oa N.length oc = some b) w w') (hn : ∀ b, obk ra (N.length + 1) rc = some b → obk oa N.length oc = some b ∨ w.heap.size ≤ b) :
    PG w' g (fun b => (S b ∨ S2 b) ∧ b < w.heap.size) bu bo ua uc U ra rc (N ++ [y]) V := by
  have e : (N ++ [y]).length = N.length + 1 := by simp
  refine ⟨chg_blk h.blk hc (fun q => h.oS g q rfl), h.up.chg hc (fun b q q2 => (h.uS b q).2.2 q2) (fun b q => q.elim), by rw [e]; exact hr, fun b q => ⟨fun z => ?_, (h.uS b q).2.1, fun z => ?_⟩, fun b q => ?_, fun b q => ⟨?_, Nat.lt_of_lt_of_le q.2 hc.size⟩⟩
  · rcases z.1 with z | z
    · exact (h.uS b q).1 z
    · exact (h2 b z).2.2 q
  · rw [e] at z
    rcases hn b z with q1 | q1
    · exact (h.uS b q).2.2 q1
    · have := h.up.lt b q; omega
  · rw [e] at q
    rcases hn b q with q1 | q1
    · exact h.oS b q1
    · have := h.blk.lt; omega
  · rcases q.1 with z | z
    · exact (h.sS b z).1
    · exact (h2 b z).1
theorem PG.store1 (h : PG w g S bu bo ua uc U oa oc N V) : PG (w.setCell ⟨g, 0 + 1, none⟩ (.slice oa N.length oc)) g S bu (oa, N.length, oc) ua uc U oa oc N V := by
  have hu := Upd.at_ w g (0 + 1) (.slice oa N.length oc)
  have hc : Chg (fun k => k = g) w (w.setCell ⟨g, 0 + 1, none⟩ (.slice oa N.length oc)) := .ofUpd hu rfl
  refine ⟨?_, h.up.chg hc (fun b q e => (h.uS b q).2.1 e) (fun b q => q.elim), h.of.chg hc (fun b q e => h.oS b q e) (fun b q e => (h.sS b q).1 e), h.uS, h.oS, fun b q => ⟨(h.sS b q).1, by rw [hu.size]; exact (h.sS b q).2⟩⟩
  have := h.blk.set_ (0 + 1) (.slice oa N.length oc)
  rwa [netC_set1] at this
theorem PG.c0 (h : PG w g S bu bo ua uc U oa oc N V) : w.cell? ⟨g, 0, none⟩ = some (.slice bu.1 bu.2.1 bu.2.2) := (h.blk.cell 0).trans netC_0
theorem PG.c1 (h : PG w g S bu bo ua uc U oa oc N V) : w.cell? ⟨g, 0 + 1, none⟩ = some (.slice bo.1 bo.2.1 bo.2.2) := (h.blk.cell (0 + 1)).trans netC_1
theorem PG.sz (h : PG w g S bu bo ua uc U oa oc N V) : 0 + 0 < (netC bu.1 bu.2.1 bu.2.2 bo.1 bo.2.1 bo.2.2 V).size ∧ 0 + 1 + 0 < (netC bu.1 bu.2.1 bu.2.2 bo.1 bo.2.1 bo.2.2 V).size := by rw [netC_size]; omega
end
end Go.Proofs.Ythhgidliopohcaa

/- The program's net in memory: what operations leave. -/
namespace Go.Proofs.Ythhgidliopohcaa
open Go.RowKit Go
set_option linter.unusedVariables false
set_option linter.unusedSimpArgs false
/-- A net whose blocks are of 'Z', or came from 'B' on, and none of them of 'X'. -/
def NetJ (w : World) (B : Nat) (Z : Nat → Prop) (κ d : Nat → Nat) (g : Nat) (N : List Pt) (V : Nat → Nat) (X : Nat → Prop) : Prop := ∃ U Z', Reps U κ d ∧ NetX w g Z' U N V ∧ (∀ b, Z' b → Z b ∨ B ≤ b) ∧ ∀ b, X b → ¬ Z' b
section
variable {w w' : World} {B g : Nat} {Z Z2 X X2 : Nat → Prop} {κ d : Nat → Nat} {U : List Nat} {N : List Pt} {V : Nat → Nat}
theorem NetJ.below (h : NetJ w B Z κ d g N V X) (hb : Below w.heap.size w w') : NetJ w' B Z κ d g N V X := by
  obtain ⟨U, Z', h1, h2, h3, h4⟩ := h
  exact ⟨U, Z', h1, h2.below hb, h3, h4⟩
theorem NetJ.upd {q : Nat} (h : NetJ w B Z κ d g N V X) (hu : Upd q w w') (hq : X q) : NetJ w' B Z κ d g N V X := by
  obtain ⟨U, Z', h1, h2, h3, h4⟩ := h
  exact ⟨U, Z', h1, h2.upd hu (h4 q hq), h3, h4⟩
theorem NetJ.chg {Y : Nat → Prop} (h : NetJ w B Z κ d g N V X) (hc : Chg Y w w') (hq : ∀ b, Y b → X b) : NetJ w' B Z κ d g N V X := by
  obtain ⟨U, Z', h1, h2, h3, h4⟩ := h
  exact ⟨U, Z', h1, h2.chg hc (fun b q q2 => h4 b (hq b q2) q), h3, h4⟩
theorem NetJ.avoid (h : NetJ w B Z κ d g N V X) (hX : ∀ b, X2 b → X b ∨ w.heap.size ≤ b) : NetJ w B Z κ d g N V X2 := by
  obtain ⟨U, Z', h1, h2, h3, h4⟩ := h
  exact ⟨U, Z', h1, h2, h3, fun b q q2 => by
    rcases hX b q with z | z
    · exact h4 b z q2
    · have := h2.lt b q2; omega⟩
theorem NetX.j (h : NetX w g Z U N V) (hR : Reps U κ d) : NetJ w B Z κ d g N V (fun _ => False) := ⟨U, Z, hR, h, fun b q => .inl q, fun b q => q.elim⟩
theorem NetX.cv (h : NetX w g Z U N V) {v : Nat} (hv : v < 96) : w.cell? ⟨g, 2 + v, none⟩ = some (.int .i64 ((V v : Nat) : Int)) := by obtain ⟨S, ua, uc, oa, oc, h1, _⟩ := h; exact h1.cv hv
theorem NetJ.cv (h : NetJ w B Z κ d g N V X) {v : Nat} (hv : v < 96) : w.cell? ⟨g, 2 + v, none⟩ = some (.int .i64 ((V v : Nat) : Int)) := by obtain ⟨U, Z', h1, h2, h3, h4⟩ := h; exact h2.cv hv
theorem NetX.setVr (h : NetX w g Z U N V) {v x : Nat} (hv : v < 96) : (∃ cs, Blk w g 54 cs ∧ 2 + v + 0 < cs.size) ∧ NetX (w.setCell ⟨g, 2 + v, none⟩ (.int .i64 ((x : Nat) : Int))) g Z U N (NS.setV V v x) := by
  obtain ⟨S, ua, uc, oa, oc, h1, h2, h3⟩ := h
  have hu := Upd.at_ w g (2 + v) (.int .i64 ((x : Nat) : Int))
  exact ⟨⟨_, h1.blk, by rw [netC_size]; omega⟩, S, ua, uc, oa, oc, h1.setVr hv, h2, fun b q => by rw [hu.size]; exact h3 b q⟩
theorem chg_fresh {w0 : World} (h : Chg Z w0 w) (k : Chg Z2 w w') (hz : ∀ b, Z2 b → Z b ∨ w0.heap.size ≤ b) : Chg Z w0 w' :=
  ⟨k.os.trans h.os, k.tape.trans h.tape, k.output.trans h.output, Nat.le_trans h.size k.size, fun b hb hn => (k.block b (Nat.lt_of_lt_of_le hb h.size) (fun q => by rcases hz b q with z | z; exact hn z; omega)).trans (h.block b hb hn)⟩
theorem RowD.inRowOwn {e c n : Nat} {a : Option Addr} {l : List Nat} {S : Nat → Prop} (h : RowD eltN S w e a c n l) : InRow eltN (fun b => obk a n c = some b) w l a := by
  intro i hi
  have hn := h.len
  obtain ⟨b, cs, e1, e2, _, _, hc, _⟩ := h.blkN (by omega)
  refine ⟨b, 0, [.int .i64 ((l[i] : Nat) : Int)], e1, e2, rfl, fun j hj => ?_⟩
  have hj' : j < 1 := hj
  obtain rfl : j = 0 := by omega
  have := hc i (by omega)
  rw [aget_lt hi] at this
  show w.cell? ⟨b, 0 + i * 1 + 0, none⟩ = _
  rw [Nat.mul_one, Nat.add_zero]; exact this
end
end Go.Proofs.Ythhgidliopohcaa

/- Joining, plain: how much is to be done; pairs of numbers in memory. -/
namespace Go.Proofs.Ythhgidliopohcaa
open Go.RowKit Go
set_option linter.unusedVariables false
set_option linter.unusedSimpArgs false
/-- How many arguments the parts have that stand for others. -/
def aSum (N : List Pt) (κ : Nat → Nat) : Nat := ((List.range N.length).map (fun i => if κ i = i then (pget N i).args.length else 0)).sum
/-- How many arguments all parts have. -/
def argN (N : List Pt) : Nat := (N.map (fun p => p.args.length)).sum
theorem sum_point {f g : Nat → Nat} {b : Nat} : ∀ (n : Nat), b < n → (∀ i, i < n → i ≠ b → f i = g i) → ((List.range n).map f).sum + g b = ((List.range n).map g).sum + f b
  | 0, h, _ => by omega
  | n + 1, h, hh => by
    rw [List.range_succ, List.map_append, List.map_append, List.sum_append, List.sum_append]
    simp only [List.map_cons, List.map_nil, List.sum_cons, List.sum_nil, Nat.add_zero]
    rcases Nat.lt_or_ge b n with q | q
    · have := sum_point n q (fun i hi => hh i (by omega))
      have e := hh n (by omega) (by omega)
      omega
    · have e : b = n := by omega
      subst e
      have : (List.range b).map f = (List.range b).map g := List.map_congr_left (fun i hi => hh i (by have := List.mem_range.1 hi; omega) (by have := List.mem_range.1 hi; omega))
      rw [this]; omega
theorem mrg_point {κ : Nat → Nat} {a b : Nat} (ha : κ a = a) (hb : κ b = b) (hab : a ≠ b) (i : Nat) : mrg κ b a i = i ↔ κ i = i ∧ i ≠ b := by
  unfold mrg
  by_cases h : κ i = b
  · rw [if_pos h]
    constructor
    · intro e; subst e; exact absurd (ha.symm.trans h) hab
    · intro ⟨e1, e2⟩; exact absurd (e1.symm.trans h) e2
  · rw [if_neg h]
    exact ⟨fun e => ⟨e, fun q => h (by rw [q]; exact hb)⟩, fun e => e.1⟩
theorem aSum_mrg {N : List Pt} {κ : Nat → Nat} {a b : Nat} (ha : κ a = a) (hb : κ b = b) (hab : a ≠ b) (hl : b < N.length) : aSum N (mrg κ b a) + (pget N b).args.length = aSum N κ := by
  have := sum_point (f := fun i => if mrg κ b a i = i then (pget N i).args.length else 0) (g := fun i => if κ i = i then (pget N i).args.length else 0) (b := b) N.length hl (fun i _ hi => by
    have := mrg_point ha hb hab i
    by_cases h : κ i = i
    · rw [if_pos h, if_pos (this.2 ⟨h, hi⟩)]
    · rw [if_neg h, if_neg (fun q => h (this.1 q).1)])
  unfold aSum
  rw [if_pos hb] at this
  have hn : ¬ mrg κ b a b = b := fun q => ((mrg_point ha hb hab b).1 q).2 rfl
  rw [if_neg hn] at this
  omega
theorem stepM_sum {N : List Pt} {κ κ' : Nat → Nat} {a b : Nat} {ps : List (Nat × Nat)} (ha : κ a = a) (hb : κ b = b) (hab : a ≠ b) (hla : a < N.length) (hlb : b < N.length) (h : stepM N κ a b = some (κ', ps)) : aSum N κ' + ps.length ≤ aSum N κ := by
  rcases stepM_cases h with ⟨rfl, rfl, _⟩ | ⟨rfl, rfl, _⟩ | ⟨rfl, rfl, _, _, _, h5⟩
  · have := aSum_mrg hb ha (Ne.symm hab) hla; simp; omega
  · have := aSum_mrg ha hb hab hlb; simp; omega
  · have := aSum_mrg ha hb hab hlb; rw [List.length_zip]; omega
theorem aSum_le (N : List Pt) (κ : Nat → Nat) : aSum N κ ≤ argN N := by
  have e : argN N = ((List.range N.length).map (fun i => (pget N i).args.length)).sum := by
    unfold argN
    congr 1
    refine List.ext_getElem (by simp) (fun i h1 h2 => ?_)
    simp only [List.getElem_map, List.getElem_range]
    rw [pget_lt (by simpa using h1)]
  rw [e]
  unfold aSum
  have : ∀ l : List Nat, (l.map (fun i => if κ i = i then (pget N i).args.length else 0)).sum ≤ (l.map (fun i => (pget N i).args.length)).sum := by
    intro l
    induction l with
    | nil => exact Nat.le_refl _
    | cons x r ih =>
      simp only [List.map_cons, List.sum_cons]
      split <;> omega
  exact this _
theorem argN_app (N : List Pt) (x : Pt) : argN (N ++ [x]) = argN N + x.args.length := by unfold argN; rw [List.map_append, List.sum_append]; simp
theorem var_argN {st : NS} {f : Int} : argN (st.var f).1.N ≤ argN st.N := by
  unfold NS.var
  split
  · exact Nat.le_refl _
  · dsimp only; rw [argN_app]; exact Nat.le_refl _
mutual
theorem put_argN : ∀ (t : T) (st : NS), NetOk st → argN (t.put st).1.N + 1 ≤ argN st.N + t.size
  | .mk f l, st, h => by
    rw [T.put, T.size]
    split
    · have := var_argN (st := st) (f := f); omega
    · have := putL_argN l st h
      dsimp only
      rw [argN_app]
      dsimp only
      omega
theorem putL_argN : ∀ (l : List T) (st : NS), NetOk st → argN (T.putL l st).1.N + (T.putL l st).2.length ≤ argN st.N + T.sizeL l
  | [], st, _ => by rw [T.putL, T.sizeL]; simp
  | t :: r, st, h => by
    have h1 := put_argN t st h
    have h2 := putL_argN r (t.put st).1 (put_ok t st h).1.ok
    rw [T.putL, T.sizeL]
    simp only [List.length_cons]
    omega
end
/-- Pairs of numbers, as elements. -/
def eltQ : Elt (Nat × Nat) where
  k := 2
  In := fun _ _ x cs => cs = [.int .i64 (x.1 : Int), .int .i64 (x.2 : Int)]
  keep := fun _ h => h
  mono := fun _ h => h
  len := fun h => by rw [h]; rfl
  one := fun h v hv => by
    rw [h] at hv
    simp only [List.mem_cons, List.not_mem_nil, or_false] at hv
    rcases hv with rfl | rfl <;> rfl
def qget (l : List (Nat × Nat)) (k : Nat) : Nat × Nat := l.getD k (0, 0)
theorem qget_lt {l : List (Nat × Nat)} {k : Nat} (h : k < l.length) : qget l k = l[k] := by simp [qget, h]
section
variable {S : Nat → Prop} {w w' : World} {a : Option Addr} {c n e : Nat}
theorem RowD.blkQ {l : List (Nat × Nat)} (h : RowD eltQ S w e a c n l) (h0 : 0 < n) : ∃ b : Nat, a = some ⟨b, 0, none⟩ ∧ obk a n c = some b ∧ ∀ k, k < n → w.cell? ⟨b, 0 + k * 2, none⟩ = some (.int .i64 (((qget l k).1 : Nat) : Int)) ∧ w.cell? ⟨b, 0 + k * 2 + 1, none⟩ = some (.int .i64 (((qget l k).2 : Nat) : Int)) := by
  have hn := h.len
  have hI := h.inRow.1
  obtain ⟨⟨xs, h1, _⟩, _, _⟩ := h
  rcases h1.2 with ⟨_, e2⟩ | ⟨g, cap, cur, e1, _⟩
  · omega
  simp only [Value.slice.injEq, true_and] at e1
  obtain ⟨rfl, rfl⟩ := e1
  refine ⟨g, rfl, rfl, fun k hk => ?_⟩
  obtain ⟨b2, o2, cs, e1, _, h3, h4⟩ := hI k (by omega)
  simp only [Option.some.injEq, Addr.mk.injEq, and_true] at e1
  obtain ⟨rfl, rfl⟩ := e1
  have h3' : cs = [.int .i64 (((l[k]'(by omega)).1 : Nat) : Int), .int .i64 (((l[k]'(by omega)).2 : Nat) : Int)] := h3
  subst h3'
  rw [qget_lt (by omega)]
  exact ⟨h4 0 (by decide), h4 1 (by decide)⟩
theorem obk_n {m : Nat} : obk a m c = obk a n c := by cases a <;> rfl
/-- The elements of a row of one's own, in its block. -/
theorem RowD.opn {α : Type} {E : Elt α} {l : List α} (h : RowD E S w e a c n l) (h0 : 0 < n) : ∃ b : Nat, a = some ⟨b, 0, none⟩ ∧ obk a n c = some b ∧ ∀ k (hk : k < l.length), ∃ cs, E.In S w l[k] cs ∧ ∀ j, j < E.k → w.cell? ⟨b, 0 + k * E.k + j, none⟩ = cs[j]? := by
  obtain ⟨⟨xs, h1, h2⟩, rfl, _⟩ := h
  rcases h1.2 with ⟨_, e2⟩ | ⟨g, cap, cur, e1, _, hb, hc, _, hs, hx⟩
  · omega
  simp only [Value.slice.injEq, true_and] at e1
  obtain ⟨rfl, rfl⟩ := e1
  refine ⟨g, rfl, rfl, fun k hk => ?_⟩
  obtain ⟨cs, h3, h4⟩ := h2.at_ k hk
  refine ⟨cs, h3, fun j hj => ?_⟩
  rw [Nat.zero_add, Blk.cell (show Blk w g e cur from hb), ← h4 j hj, ← hx, List.getElem?_take_of_lt (by
    have : k * E.k + E.k ≤ l.length * E.k := by rw [← Nat.succ_mul]; exact Nat.mul_le_mul_right _ hk
    omega), Array.getElem?_toList]
theorem PN.ofP {g : Nat} {ua oa : Option Addr} {uc oc : Nat} {U : List Nat} {N : List Pt} {V : Nat → Nat} (h : PN w g S ua uc oa oc U N V) (h0 : 0 < N.length) : ∃ (b : Nat) (A : Nat → Option Addr) (C : Nat → Nat), oa = some ⟨b, 0, none⟩ ∧ obk oa N.length oc = some b ∧
    ∀ k, k < N.length → w.cell? ⟨b, 0 + k * 2, none⟩ = some (.int .i64 (pget N k).fn) ∧ w.cell? ⟨b, 0 + k * 2 + 1, none⟩ = some (.slice (A k) (pget N k).args.length (C k)) ∧ InRow eltN S w (pget N k).args (A k) := by
  obtain ⟨b, e1, e2, h3⟩ := h.of.opn h0
  have key : ∀ k, k < N.length → ∃ p : Option Addr × Nat, w.cell? ⟨b, 0 + k * 2, none⟩ = some (.int .i64 (pget N k).fn) ∧ w.cell? ⟨b, 0 + k * 2 + 1, none⟩ = some (.slice p.1 (pget N k).args.length p.2) ∧ InRow eltN S w (pget N k).args p.1 := by
    intro k hk
    obtain ⟨cs, ⟨a', c', h4, h5⟩, h6⟩ := h3 k hk
    subst h4
    rw [pget_lt hk]
    exact ⟨(a', c'), h6 0 (by decide), h6 1 (by decide), h5⟩
  have : Inhabited (Option Addr × Nat) := ⟨(none, 0)⟩
  obtain ⟨F, hF⟩ := Go.Deep.choose_lt key
  exact ⟨b, fun k => (F k).1, fun k => (F k).2, e1, e2, hF⟩
theorem RowD.ofBlk {α : Type} {E : Elt α} {x : α} {g : Nat} {cs : List Value} (hE : E.In S w x cs) (hB : Blk w g e cs.toArray) (hS : ¬ S g) : RowD E S w e (some ⟨g, 0, none⟩) 1 1 [x] :=
  ⟨⟨cs, ⟨by rw [E.len hE, Nat.one_mul], .inr ⟨g, 1, cs.toArray, rfl, Nat.zero_le _, hB, Nat.le_refl _, by unfold maxLen; omega, by rw [Nat.one_mul]; simpa using E.len hE, by rw [Nat.one_mul, ← E.len hE]; simp⟩⟩, ⟨cs, [], by simp, hE, rfl⟩⟩, rfl, fun b q e => hS (by
    have : g = b := Option.some.inj e
    rw [this]; exact q)⟩
theorem InRow.openNS {l : List Nat} (h : InRow eltN S w l a) : ∃ b o : Nat, (∀ k, k < l.length → a = some ⟨b, o, none⟩) ∧ (∀ k, k < l.length → S b) ∧ ∀ k, k < l.length → w.cell? ⟨b, o + k, none⟩ = some (.int .i64 ((aget l k : Nat) : Int)) := by
  rcases Nat.eq_zero_or_pos l.length with h0 | h0
  · exact ⟨0, 0, fun k hk => by omega, fun k hk => by omega, fun k hk => by omega⟩
  · obtain ⟨b, o, hh1, hh2⟩ := h.openN
    refine ⟨b, o, hh1, fun _ _ => ?_, hh2⟩
    obtain ⟨b2, o2, _, e1, hS, _⟩ := h 0 h0
    rw [hh1 0 h0] at e1
    simp only [Option.some.injEq, Addr.mk.injEq, and_true] at e1
    obtain ⟨rfl, rfl⟩ := e1
    exact hS
end
theorem zip_take_succ {l m : List Nat} {k : Nat} (hk : k < l.length) (hl : l.length = m.length) : (l.zip m).take (k + 1) = (l.zip m).take k ++ [(aget l k, aget m k)] := by
  have hz : k < (l.zip m).length := by rw [List.length_zip]; omega
  rw [List.take_succ_eq_append_getElem hz, List.getElem_zip, aget_lt hk, aget_lt (by omega)]
theorem rev_last {L : List (Nat × Nat)} (h : 0 < L.length) : L.reverse = qget L (L.length - 1) :: (L.take (L.length - 1)).reverse := by
  have hne : L ≠ [] := fun q => by rw [q] at h; exact absurd h (by decide)
  have e : L = L.take (L.length - 1) ++ [qget L (L.length - 1)] := by
    rw [qget_lt (by omega), ← List.take_succ_eq_append_getElem (by omega), Nat.sub_add_cancel h, List.take_length]
  conv => lhs; rw [e]
  rw [List.reverse_append]; rfl
/-- How joining stands. -/
structure JS where
  U : List Nat
  κ : Nat → Nat
  d : Nat → Nat
  n : Nat
  L : List (Nat × Nat)
  ra : Option Addr
  rc : Nat
end Go.Proofs.Ythhgidliopohcaa

/- Measuring, plain: what is asked, what is being asked, what has been told. -/
namespace Go.Proofs.Ythhgidliopohcaa
open Go.RowKit Go
set_option linter.unusedVariables false
set_option linter.unusedSimpArgs false
/-- What is known of a part's measure: nothing (0, not open); it is being asked (open); its size and depth. -/
structure Ms where
  sz : Nat
  dp : Nat
  op : Bool
def mget (ms : List Ms) (k : Nat) : Ms := ms.getD k ⟨0, 0, false⟩
theorem mget_lt {ms : List Ms} {k : Nat} (h : k < ms.length) : mget ms k = ms[k] := by simp [mget, h]
theorem mget_ge {ms : List Ms} {k : Nat} (h : ms.length ≤ k) : mget ms k = ⟨0, 0, false⟩ := by simp [mget, h]
theorem mget_set {ms : List Ms} {r k : Nat} {m : Ms} (h : r < ms.length) : mget (ms.set r m) k = if k = r then m else mget ms k := by
  unfold mget
  rw [List.getD_eq_getElem?_getD, List.getElem?_set]
  by_cases e : r = k
  · subst e; rw [if_pos rfl, if_pos h, if_pos rfl]; rfl
  · rw [if_neg e, if_neg (Ne.symm e), List.getD_eq_getElem?_getD]
def unv (m : Ms) : Nat := if m.sz = 0 ∧ m.op = false then 1 else 0
def don (m : Ms) : Nat := if 0 < m.sz then 1 else 0
def unS (ms : List Ms) : Nat := ((List.range ms.length).map (fun k => unv (mget ms k))).sum
def ndS (ms : List Ms) : Nat := ((List.range ms.length).map (fun k => don (mget ms k))).sum
theorem sum_mono {f g : Nat → Nat} : ∀ (n : Nat), (∀ i, f i ≤ g i) → ((List.range n).map f).sum ≤ ((List.range n).map g).sum
  | 0, _ => Nat.le_refl _
  | n + 1, h => by
    rw [List.range_succ, List.map_append, List.map_append, List.sum_append, List.sum_append]
    have := sum_mono n h
    have := h n
    simp only [List.map_cons, List.map_nil, List.sum_cons, List.sum_nil, Nat.add_zero]
    omega
theorem sum_one {f : Nat → Nat} : ∀ (n : Nat), (∀ i, f i ≤ 1) → ((List.range n).map f).sum ≤ n
  | 0, _ => Nat.le_refl _
  | n + 1, h => by
    rw [List.range_succ, List.map_append, List.sum_append]
    have := sum_one n h
    have := h n
    simp only [List.map_cons, List.map_nil, List.sum_cons, List.sum_nil, Nat.add_zero]
    omega
theorem ndS_le (ms : List Ms) : ndS ms ≤ ms.length := sum_one _ (fun i => by unfold don; split <;> omega)
theorem unS_set {ms : List Ms} {r : Nat} {m : Ms} (h : r < ms.length) : unS (ms.set r m) + unv (mget ms r) = unS ms + unv m := by
  have := sum_point (f := fun k => unv (mget (ms.set r m) k)) (g := fun k => unv (mget ms k)) (b := r) ms.length h (fun i _ hi => by rw [mget_set h, if_neg hi])
  unfold unS
  rw [List.length_set]
  rw [mget_set h, if_pos rfl] at this
  exact this
theorem ndS_set {ms : List Ms} {r : Nat} {m : Ms} (h : r < ms.length) : ndS (ms.set r m) + don (mget ms r) = ndS ms + don m := by
  have := sum_point (f := fun k => don (mget (ms.set r m) k)) (g := fun k => don (mget ms k)) (b := r) ms.length h (fun i _ hi => by rw [mget_set h, if_neg hi])
  unfold ndS
  rw [List.length_set]
  rw [mget_set h, if_pos rfl] at this
  exact this
/-- More is known: what was known stays. -/
structure MExt (ms ms2 : List Ms) : Prop where
  len : ms2.length = ms.length
  keep : ∀ r, (mget ms r).op = true ∨ 0 < (mget ms r).sz → mget ms2 r = mget ms r
  op : ∀ r, (mget ms2 r).op = (mget ms r).op
theorem MExt.refl (ms : List Ms) : MExt ms ms := ⟨rfl, fun _ _ => rfl, fun _ => rfl⟩
theorem MExt.trans {a b c : List Ms} (h : MExt a b) (k : MExt b c) : MExt a c :=
  ⟨k.len.trans h.len, fun r q => by
    have e := h.keep r q
    rw [k.keep r (by rw [e]; exact q), e], fun r => (k.op r).trans (h.op r)⟩
theorem MExt.un {a b : List Ms} (h : MExt a b) : unS b ≤ unS a := by
  unfold unS
  rw [h.len]
  refine sum_mono _ (fun i => ?_)
  by_cases q : (mget a i).op = true ∨ 0 < (mget a i).sz
  · rw [h.keep i q]; exact Nat.le_refl _
  · have : unv (mget a i) = 1 := by unfold unv; rw [if_pos ⟨by omega, by simpa using fun z => q (.inl z)⟩]
    rw [this]; unfold unv; split <;> omega
theorem MExt.nd {a b : List Ms} (h : MExt a b) : ndS a ≤ ndS b := by
  unfold ndS
  rw [h.len]
  refine sum_mono _ (fun i => ?_)
  by_cases q : 0 < (mget a i).sz
  · rw [h.keep i (.inr q)]; exact Nat.le_refl _
  · have : don (mget a i) = 0 := by unfold don; rw [if_neg q]
    rw [this]; exact Nat.zero_le _
theorem szF_congr {κ f g : Nat → Nat} : ∀ (l : List Nat), (∀ a ∈ l, f (κ a) = g (κ a)) → szF κ f l = szF κ g l := by
  unfold szF
  generalize 1 = n
  intro l
  induction l generalizing n with
  | nil => intro _; rfl
  | cons x r ih => intro h; rw [List.foldl_cons, List.foldl_cons, h x (List.mem_cons_self ..)]; exact ih _ (fun a ha => h a (List.mem_cons_of_mem _ ha))
theorem dpF_congr {κ f g : Nat → Nat} : ∀ (l : List Nat), (∀ a ∈ l, f (κ a) = g (κ a)) → dpF κ f l = dpF κ g l := by
  have : ∀ (l : List Nat) (n : Nat), (∀ a ∈ l, f (κ a) = g (κ a)) → l.foldl (fun n a => max n (f (κ a) + 1)) n = l.foldl (fun n a => max n (g (κ a) + 1)) n := by
    intro l
    induction l with
    | nil => intro n _; rfl
    | cons x r ih => intro n h; rw [List.foldl_cons, List.foldl_cons, h x (List.mem_cons_self ..)]; exact ih _ (fun a ha => h a (List.mem_cons_of_mem _ ha))
  exact fun l h => this l 1 h
theorem szF_snoc {κ f : Nat → Nat} {l : List Nat} {a : Nat} : szF κ f (l ++ [a]) = min (szF κ f l + f (κ a)) capS := by unfold szF; rw [List.foldl_append]; rfl
theorem dpF_snoc {κ f : Nat → Nat} {l : List Nat} {a : Nat} : dpF κ f (l ++ [a]) = max (dpF κ f l) (f (κ a) + 1) := by unfold dpF; rw [List.foldl_append]; rfl
theorem szF_pos {κ f : Nat → Nat} : ∀ (l : List Nat), 0 < szF κ f l ∧ szF κ f l ≤ capS := by
  have : ∀ (l : List Nat) (n : Nat), 0 < n ∧ n ≤ capS → 0 < l.foldl (fun n a => min (n + f (κ a)) capS) n ∧ l.foldl (fun n a => min (n + f (κ a)) capS) n ≤ capS := by
    intro l
    induction l with
    | nil => intro n h; exact h
    | cons x r ih => intro n h; rw [List.foldl_cons]; exact ih _ (by unfold capS at *; omega)
  exact fun l => this l 1 (by unfold capS; omega)
theorem dpF_le {κ f : Nat → Nat} {B : Nat} : ∀ (l : List Nat), (∀ a ∈ l, f (κ a) ≤ B) → dpF κ f l ≤ B + 1 := by
  have : ∀ (l : List Nat) (n : Nat), n ≤ B + 1 → (∀ a ∈ l, f (κ a) ≤ B) → l.foldl (fun n a => max n (f (κ a) + 1)) n ≤ B + 1 := by
    intro l
    induction l with
    | nil => intro n h _; exact h
    | cons x r ih => intro n h hh; rw [List.foldl_cons]; exact ih _ (by have := hh x (List.mem_cons_self ..); omega) (fun a ha => hh a (List.mem_cons_of_mem _ ha))
  exact fun l h => this l 1 (by omega) h
abbrev msz (ms : List Ms) : Nat → Nat := fun k => (mget ms k).sz
abbrev mdp (ms : List Ms) : Nat → Nat := fun k => (mget ms k).dp
/-- What is told is right. -/
structure AskOk (N : List Pt) (κ : Nat → Nat) (ms : List Ms) : Prop where
  len : ms.length = N.length
  done : ∀ r, 0 < (mget ms r).sz → (mget ms r).op = false ∧ (∀ a ∈ (pget N r).args, 0 < (mget ms (κ a)).sz) ∧ (mget ms r).sz = szF κ (msz ms) (pget N r).args ∧ (mget ms r).dp = dpF κ (mdp ms) (pget N r).args
  bnd : ∀ r, 0 < (mget ms r).sz → (mget ms r).dp ≤ ndS ms ∧ (mget ms r).sz ≤ capS
/-- A part that is not known is being asked. -/
theorem AskOk.opn {N : List Pt} {κ : Nat → Nat} {ms : List Ms} {r : Nat} (h : AskOk N κ ms) (hr : r < N.length) (h0 : (mget ms r).sz = 0) (h1 : (mget ms r).op = false) :
    AskOk N κ (ms.set r ⟨(mget ms r).sz, (mget ms r).dp, true⟩) ∧ unS (ms.set r ⟨(mget ms r).sz, (mget ms r).dp, true⟩) + 1 = unS ms := by
  have hl : r < ms.length := by rw [h.len]; exact hr
  have hn := ndS_set (m := ⟨(mget ms r).sz, (mget ms r).dp, true⟩) hl
  have e0 : don (mget ms r) = 0 := by unfold don; rw [if_neg (by omega)]
  have e1 : don ⟨(mget ms r).sz, (mget ms r).dp, true⟩ = 0 := by unfold don; rw [if_neg (by dsimp only; omega)]
  have hu := unS_set (m := ⟨(mget ms r).sz, (mget ms r).dp, true⟩) hl
  have e2 : unv (mget ms r) = 1 := by unfold unv; rw [if_pos ⟨h0, h1⟩]
  have e3 : unv ⟨(mget ms r).sz, (mget ms r).dp, true⟩ = 0 := by unfold unv; rw [if_neg (fun q => by simp at q)]
  have get : ∀ k, 0 < (mget ms k).sz → mget (ms.set r ⟨(mget ms r).sz, (mget ms r).dp, true⟩) k = mget ms k := fun k hk => by
    rw [mget_set hl, if_neg (fun e => by rw [e] at hk; omega)]
  have back : ∀ k, 0 < (mget (ms.set r ⟨(mget ms r).sz, (mget ms r).dp, true⟩) k).sz → 0 < (mget ms k).sz := fun k hk => by
    rw [mget_set hl] at hk
    split at hk
    · dsimp only at hk; omega
    · exact hk
  refine ⟨⟨by rw [List.length_set]; exact h.len, fun k hk => ?_, fun k hk => ?_⟩, by omega⟩
  · have hk' := back k hk
    obtain ⟨z1, z2, z3, z4⟩ := h.done k hk'
    rw [get k hk']
    refine ⟨z1, fun a ha => by rw [get _ (z2 a ha)]; exact z2 a ha, ?_, ?_⟩
    · rw [z3]; exact szF_congr _ (fun a ha => by show (mget ms (κ a)).sz = _; rw [← get _ (z2 a ha)])
    · rw [z4]; exact dpF_congr _ (fun a ha => by show (mget ms (κ a)).dp = _; rw [← get _ (z2 a ha)])
  · have hk' := back k hk
    rw [get k hk']
    have := h.bnd k hk'
    exact ⟨by omega, this.2⟩
/-- What it becomes is known. -/
theorem AskOk.fin {N : List Pt} {κ : Nat → Nat} {ms ms2 : List Ms} {r : Nat} (h : AskOk N κ ms2) (hr : r < N.length) (h0 : (mget ms r).sz = 0) (h1 : (mget ms r).op = false) (hl0 : ms.length = N.length)
    (he : MExt (ms.set r ⟨(mget ms r).sz, (mget ms r).dp, true⟩) ms2) (ha : ∀ a ∈ (pget N r).args, 0 < (mget ms2 (κ a)).sz) :
    AskOk N κ (ms2.set r ⟨szF κ (msz ms2) (pget N r).args, dpF κ (mdp ms2) (pget N r).args, false⟩) ∧ MExt ms (ms2.set r ⟨szF κ (msz ms2) (pget N r).args, dpF κ (mdp ms2) (pget N r).args, false⟩) ∧
      0 < (mget (ms2.set r ⟨szF κ (msz ms2) (pget N r).args, dpF κ (mdp ms2) (pget N r).args, false⟩) r).sz := by
  have hl : r < ms2.length := by rw [h.len]; exact hr
  have hlm : r < ms.length := by omega
  have e2 : mget ms2 r = ⟨(mget ms r).sz, (mget ms r).dp, true⟩ := by
    have := he.keep r (.inl (by rw [mget_set hlm, if_pos rfl]))
    rw [this, mget_set hlm, if_pos rfl]
  have hp := szF_pos (κ := κ) (f := msz ms2) (pget N r).args
  have hn := ndS_set (m := ⟨szF κ (msz ms2) (pget N r).args, dpF κ (mdp ms2) (pget N r).args, false⟩) hl
  have d0 : don (mget ms2 r) = 0 := by unfold don; rw [e2, if_neg (by dsimp only; omega)]
  have d1 : don ⟨szF κ (msz ms2) (pget N r).args, dpF κ (mdp ms2) (pget N r).args, false⟩ = 1 := by unfold don; rw [if_pos hp.1]
  have get : ∀ k, 0 < (mget ms2 k).sz → mget (ms2.set r ⟨szF κ (msz ms2) (pget N r).args, dpF κ (mdp ms2) (pget N r).args, false⟩) k = mget ms2 k := fun k hk => by
    rw [mget_set hl, if_neg (fun e => by rw [e, e2] at hk; dsimp only at hk; omega)]
  refine ⟨⟨by rw [List.length_set]; exact h.len, fun k hk => ?_, fun k hk => ?_⟩, ⟨by rw [List.length_set, he.len, List.length_set], fun k hk => ?_, fun k => ?_⟩, by rw [mget_set hl, if_pos rfl]; exact hp.1⟩
  · by_cases e : k = r
    · subst e
      rw [mget_set hl, if_pos rfl]
      refine ⟨rfl, fun a q => by rw [get _ (ha a q)]; exact ha a q, ?_, ?_⟩
      · exact szF_congr _ (fun a q => by show (mget ms2 (κ a)).sz = _; rw [← get _ (ha a q)])
      · exact dpF_congr _ (fun a q => by show (mget ms2 (κ a)).dp = _; rw [← get _ (ha a q)])
    · rw [mget_set hl, if_neg e] at hk
      obtain ⟨z1, z2, z3, z4⟩ := h.done k hk
      rw [get k hk]
      refine ⟨z1, fun a ha => by rw [get _ (z2 a ha)]; exact z2 a ha, ?_, ?_⟩
      · rw [z3]; exact szF_congr _ (fun a ha => by show (mget ms2 (κ a)).sz = _; rw [← get _ (z2 a ha)])
      · rw [z4]; exact dpF_congr _ (fun a ha => by show (mget ms2 (κ a)).dp = _; rw [← get _ (z2 a ha)])
  · by_cases e : k = r
    · subst e
      rw [mget_set hl, if_pos rfl]
      refine ⟨?_, hp.2⟩
      have := dpF_le (κ := κ) (f := mdp ms2) (B := ndS ms2) (pget N k).args (fun a q => (h.bnd _ (ha a q)).1)
      dsimp only
      omega
    · rw [mget_set hl, if_neg e] at hk ⊢
      have := h.bnd k hk
      exact ⟨by omega, this.2⟩
  · have e : k ≠ r := fun e => by rw [e, h0, h1] at hk; rcases hk with q | q <;> simp at q
    rw [mget_set hl, if_neg e, he.keep k (by rw [mget_set hlm, if_neg e]; exact hk), mget_set hlm, if_neg e]
  · rw [mget_set hl]
    by_cases e : k = r
    · rw [if_pos e, e, h1]
    · rw [if_neg e, he.op k, mget_set hlm, if_neg e]
/-- If what a part becomes cannot be told, then nothing can be measured in which what is being asked stands higher. -/
def NoMeas (N : List Pt) (κ : Nat → Nat) (ms : List Ms) (i : Nat) : Prop := ∀ sz dp, Meas N κ sz dp → ∃ o, (mget ms o).op = true ∧ dp o ≤ dp (κ i)
theorem NoMeas.up {N : List Pt} {κ : Nat → Nat} {ms ms2 : List Ms} {i a : Nat} (hi : i < N.length) (hlm : ms.length = N.length) (hr : κ i < N.length) (he : MExt (ms.set (κ i) ⟨(mget ms (κ i)).sz, (mget ms (κ i)).dp, true⟩) ms2) (ha : a ∈ (pget N (κ i)).args) (h : NoMeas N κ ms2 a) : NoMeas N κ ms i := by
  intro sz dp hm
  obtain ⟨o, h1, h2⟩ := h sz dp hm
  have hlt := hm.lt hi ha
  rw [he.op, mget_set (by omega)] at h1
  split at h1
  · rename_i e; rw [e] at h2; omega
  · exact ⟨o, h1, by omega⟩
theorem AskOk.meas {N : List Pt} {κ : Nat → Nat} {ms : List Ms} (h : AskOk N κ ms) (ha : ∀ i, i < N.length → 0 < (mget ms (κ i)).sz) : Meas N κ (msz ms) (mdp ms) :=
  ⟨fun i hi => (h.done _ (ha i hi)).2.2.1, fun i hi => (h.done _ (ha i hi)).2.2.2⟩
end Go.Proofs.Ythhgidliopohcaa

/- Measures in memory. -/
namespace Go.Proofs.Ythhgidliopohcaa
open Go.RowKit Go
set_option linter.unusedVariables false
set_option linter.unusedSimpArgs false
def mcell (m : Ms) (t : Nat) : Value := if t = 0 then .int .i64 ((m.sz : Nat) : Int) else if t = 1 then .int .i64 ((m.dp : Nat) : Int) else .bool m.op
/-- The measures of parts, in their block. -/
def MB (w : World) (b : Nat) (ms : List Ms) : Prop := ∃ cs, Blk w b 59 cs ∧ cs.size = ms.length * 3 ∧ ∀ k, k < ms.length → ∀ t, t < 3 → cs[k * 3 + t]? = some (mcell (mget ms k) t)
section
variable {w w' : World} {b : Nat} {ms : List Ms}
theorem MB.lt (h : MB w b ms) : b < w.heap.size := by obtain ⟨cs, h1, _⟩ := h; exact h1.lt
theorem MB.chg {Z : Nat → Prop} (h : MB w b ms) (hc : Chg Z w w') (hb : ¬ Z b) : MB w' b ms := by obtain ⟨cs, h1, h2⟩ := h; exact ⟨cs, chg_blk h1 hc hb, h2⟩
theorem MB.below (h : MB w b ms) (hb : Below w.heap.size w w') : MB w' b ms := h.chg (Z := fun _ => False) (.ofBelow hb) id
theorem MB.upd {q : Nat} (h : MB w b ms) (hu : Upd q w w') (hb : b ≠ q) : MB w' b ms := h.chg (Z := fun k => k = q) (.ofUpd hu rfl) hb
theorem MB.cell (h : MB w b ms) {k : Nat} (hk : k < ms.length) {t : Nat} (ht : t < 3) : w.cell? ⟨b, 0 + k * 3 + t, none⟩ = some (mcell (mget ms k) t) := by
  obtain ⟨cs, h1, h2, h3⟩ := h
  rw [Nat.zero_add]
  exact (h1.cell (k * 3 + t)).trans (h3 k hk t ht)
theorem MB.c0 (h : MB w b ms) {k : Nat} (hk : k < ms.length) : w.cell? ⟨b, 0 + k * 3, none⟩ = some (.int .i64 (((mget ms k).sz : Nat) : Int)) := h.cell hk (show 0 < 3 by decide)
theorem MB.c1 (h : MB w b ms) {k : Nat} (hk : k < ms.length) : w.cell? ⟨b, 0 + k * 3 + 1, none⟩ = some (.int .i64 (((mget ms k).dp : Nat) : Int)) := h.cell hk (show 1 < 3 by decide)
theorem MB.c2 (h : MB w b ms) {k : Nat} (hk : k < ms.length) : w.cell? ⟨b, 0 + k * 3 + 2, none⟩ = some (.bool (mget ms k).op) := h.cell hk (show 2 < 3 by decide)
theorem MB.set_ (h : MB w b ms) {r j : Nat} (hr : r < ms.length) (hj : j < 3) (m : Ms) (v : Value) (hv : ∀ t, t < 3 → mcell m t = if t = j then v else mcell (mget ms r) t) :
    (∃ cs, Blk w b 59 cs ∧ 0 + r * 3 + j + 0 < cs.size) ∧ MB (w.setCell ⟨b, 0 + r * 3 + j, none⟩ v) b (ms.set r m) := by
  obtain ⟨cs, h1, h2, h3⟩ := h
  refine ⟨⟨cs, h1, by omega⟩, cs.setIfInBounds (0 + r * 3 + j) v, h1.set_ _ v, by simpa using h2, fun k hk t ht => ?_⟩
  rw [List.length_set] at hk
  rw [mget_set hr, Array.getElem?_setIfInBounds]
  by_cases e : k = r
  · subst e
    rw [if_pos rfl, hv t ht]
    by_cases e2 : t = j
    · subst e2; rw [if_pos (by omega), if_pos (by omega), if_pos rfl]
    · rw [if_neg (by omega), if_neg e2]; exact h3 k hr t ht
  · rw [if_neg e, if_neg (by omega)]; exact h3 k hk t ht
theorem MB.setOp (h : MB w b ms) {r : Nat} (hr : r < ms.length) : (∃ cs, Blk w b 59 cs ∧ 0 + r * 3 + 2 + 0 < cs.size) ∧ MB (w.setCell ⟨b, 0 + r * 3 + 2, none⟩ (.bool true)) b (ms.set r ⟨(mget ms r).sz, (mget ms r).dp, true⟩) :=
  h.set_ hr (by decide) _ _ (fun t ht => by
    match t, ht with
    | 0, _ => rfl
    | 1, _ => rfl
    | 2, _ => rfl)
theorem MB.setAll (h : MB w b ms) {r S D : Nat} {B : Bool} (hr : r < ms.length) : (∃ cs, Blk w b 59 cs ∧ 0 + r * 3 + 2 < cs.size) ∧
    MB (((w.setCell ⟨b, 0 + r * 3, none⟩ (.int .i64 ((S : Nat) : Int))).setCell ⟨b, 0 + r * 3 + 1, none⟩ (.int .i64 ((D : Nat) : Int))).setCell ⟨b, 0 + r * 3 + 2, none⟩ (.bool B)) b (ms.set r ⟨S, D, B⟩) := by
  have h1 := (h.set_ hr (show 0 < 3 by decide) ⟨S, (mget ms r).dp, (mget ms r).op⟩ (.int .i64 ((S : Nat) : Int)) (fun t ht => by
    match t, ht with
    | 0, _ => rfl
    | 1, _ => rfl
    | 2, _ => rfl)).2
  have hr1 : r < (ms.set r ⟨S, (mget ms r).dp, (mget ms r).op⟩).length := by rw [List.length_set]; exact hr
  have h2 := (h1.set_ hr1 (show 1 < 3 by decide) ⟨S, D, (mget ms r).op⟩ (.int .i64 ((D : Nat) : Int)) (fun t ht => by
    rw [mget_set hr, if_pos rfl]
    match t, ht with
    | 0, _ => rfl
    | 1, _ => rfl
    | 2, _ => rfl)).2
  rw [List.set_set] at h2
  have hr2 : r < (ms.set r ⟨S, D, (mget ms r).op⟩).length := by rw [List.length_set]; exact hr
  have h3 := (h2.set_ hr2 (show 2 < 3 by decide) ⟨S, D, B⟩ (.bool B) (fun t ht => by
    rw [mget_set hr, if_pos rfl]
    match t, ht with
    | 0, _ => rfl
    | 1, _ => rfl
    | 2, _ => rfl)).2
  rw [List.set_set] at h3
  obtain ⟨cs, k1, k2, k3⟩ := h
  exact ⟨⟨cs, k1, by omega⟩, h3⟩
end
end Go.Proofs.Ythhgidliopohcaa

/- The document's net in memory. -/
namespace Go.Proofs.Ythhgidliopohcaa
open Go.RowKit Go
set_option linter.unusedVariables false
set_option linter.unusedSimpArgs false
/-- Each variable's part; -1: none. -/
def VB (w : World) (vb : Nat) (V : Nat → Nat) : Prop := ∃ cs, Blk w vb 3 cs ∧ ∀ v, v < 96 → cs[v]? = some (.int .i64 ((V v : Int) - 1))
/-- The net; its box may not yet tell of its rows. -/
structure PR (w : World) (g : Nat) (S : Nat → Prop) (bl bu : Option Addr × Nat × Nat) (la : Option Addr) (lc : Nat) (N : List Pt) (ua : Option Addr) (uc : Nat) (U : List Nat) (vb vc : Nat) (V : Nat → Nat) : Prop where
  blk : Blk w g 67 #[.slice bl.1 bl.2.1 bl.2.2, .slice bu.1 bu.2.1 bu.2.2, .slice (some ⟨vb, 0, none⟩) 96 vc]
  l : RowD eltP S w 69 la lc N.length N
  up : RowD eltN (fun _ => False) w 3 ua uc U.length U
  of : VB w vb V
  lS : ∀ b, obk la N.length lc = some b → b ≠ g ∧ b ≠ vb
  uS : ∀ b, obk ua U.length uc = some b → ¬ S b ∧ b ≠ g ∧ b ≠ vb ∧ obk la N.length lc ≠ some b
  sS : ∀ b, S b → b ≠ g ∧ b ≠ vb ∧ b < w.heap.size
  vg : vb ≠ g
/-- The net's blocks. -/
def RZ (g : Nat) (S : Nat → Prop) (la : Option Addr) (lc n : Nat) (ua : Option Addr) (uc m vb : Nat) : Nat → Prop := fun b => b = g ∨ b = vb ∨ obk la n lc = some b ∨ obk ua m uc = some b ∨ S b
section
variable {w w' : World} {g lc uc vb vc : Nat} {S S2 : Nat → Prop} {bl bu : Option Addr × Nat × Nat} {la ua : Option Addr} {N : List Pt} {U : List Nat} {V : Nat → Nat}
theorem VB.chg {Z : Nat → Prop} (h : VB w vb V) (hc : Chg Z w w') (hb : ¬ Z vb) : VB w' vb V := by obtain ⟨cs, h1, h2⟩ := h; exact ⟨cs, chg_blk h1 hc hb, h2⟩
theorem VB.lt (h : VB w vb V) : vb < w.heap.size := by obtain ⟨cs, h1, h2⟩ := h; exact h1.lt
theorem VB.cell (h : VB w vb V) {v : Nat} (hv : v < 96) : w.cell? ⟨vb, 0 + v, none⟩ = some (.int .i64 ((V v : Int) - 1)) := by
  obtain ⟨cs, h1, h2⟩ := h
  rw [Nat.zero_add]
  exact (h1.cell v).trans (h2 v hv)
theorem VB.set_ (h : VB w vb V) {v x : Nat} (hv : v < 96) : (∃ cs, Blk w vb 3 cs ∧ 0 + v + 0 < cs.size) ∧ VB (w.setCell ⟨vb, 0 + v, none⟩ (.int .i64 ((x : Int) - 1))) vb (NS.setV V v x) := by
  obtain ⟨cs, h1, h2⟩ := h
  have hl : v < cs.size := by
    have := h2 v hv
    exact (Array.getElem?_eq_some_iff.1 this).1
  refine ⟨⟨cs, h1, by omega⟩, _, h1.set_ _ _, fun k hk => ?_⟩
  rw [Array.getElem?_setIfInBounds]
  unfold NS.setV
  by_cases e : 0 + v = k
  · rw [if_pos e, if_pos (by omega), if_pos (by omega)]
  · rw [if_neg e, if_neg (by omega)]; exact h2 k hk
theorem PR.lt (h : PR w g S bl bu la lc N ua uc U vb vc V) : ∀ b, RZ g S la lc N.length ua uc U.length vb b → b < w.heap.size := fun b q => by
  rcases q with q | q | q | q | q
  · rw [q]; exact h.blk.lt
  · rw [q]; exact h.of.lt
  · exact h.l.lt b q
  · exact h.up.lt b q
  · exact (h.sS b q).2.2
theorem PR.chg {Z : Nat → Prop} (h : PR w g S bl bu la lc N ua uc U vb vc V) (hc : Chg Z w w') (hZ : ∀ b, RZ g S la lc N.length ua uc U.length vb b → ¬ Z b) : PR w' g S bl bu la lc N ua uc U vb vc V :=
  ⟨chg_blk h.blk hc (hZ g (.inl rfl)), h.l.chg hc (fun b q => hZ b (.inr (.inr (.inl q)))) (fun b q => hZ b (.inr (.inr (.inr (.inr q))))), h.up.chg hc (fun b q => hZ b (.inr (.inr (.inr (.inl q))))) (fun b q => q.elim), h.of.chg hc (hZ vb (.inr (.inl rfl))), h.lS, h.uS, fun b q => ⟨(h.sS b q).1, (h.sS b q).2.1, Nat.lt_of_lt_of_le (h.sS b q).2.2 hc.size⟩, h.vg⟩
theorem PR.below (h : PR w g S bl bu la lc N ua uc U vb vc V) (hb : Below w.heap.size w w') : PR w' g S bl bu la lc N ua uc U vb vc V := h.chg (Z := fun _ => False) (.ofBelow hb) (fun _ _ => id)
theorem PR.upd {q : Nat} (h : PR w g S bl bu la lc N ua uc U vb vc V) (hu : Upd q w w') (hq : ¬ RZ g S la lc N.length ua uc U.length vb q) : PR w' g S bl bu la lc N ua uc U vb vc V := h.chg (Z := fun b => b = q) (.ofUpd hu rfl) (fun b k e => hq (e ▸ k))
theorem PR.c0 (h : PR w g S bl bu la lc N ua uc U vb vc V) : w.cell? ⟨g, 0, none⟩ = some (.slice bl.1 bl.2.1 bl.2.2) := (h.blk.cell 0).trans rfl
theorem PR.c1 (h : PR w g S bl bu la lc N ua uc U vb vc V) : w.cell? ⟨g, 1, none⟩ = some (.slice bu.1 bu.2.1 bu.2.2) := (h.blk.cell 1).trans rfl
theorem PR.c2 (h : PR w g S bl bu la lc N ua uc U vb vc V) : w.cell? ⟨g, 2, none⟩ = some (.slice (some ⟨vb, 0, none⟩) 96 vc) := (h.blk.cell 2).trans rfl
/-- A link comes to the row of links. -/
theorem PR.growU (h : PR w g S bl bu la lc N ua uc U vb vc V) {ra : Option Addr} {rc y : Nat} (hr : RowD eltN (fun b => ((fun _ => False) b ∨ (fun _ => False) b) ∧ b < w.heap.size) w' 3 ra rc (U.length + 1) (U ++ [y])) (hc : Chg (fun b => obk ua U.length uc = some b) w w') (hn : ∀ b, obk ra (U.length + 1) rc = some b → obk ua U.length uc = some b ∨ w.heap.size ≤ b) :
    PR w' g S bl bu la lc N ra rc (U ++ [y]) vb vc V := by
  have e : (U ++ [y]).length = U.length + 1 := by simp
  refine ⟨chg_blk h.blk hc (fun q => (h.uS g q).2.1 rfl), h.l.chg hc (fun b q q2 => (h.uS b q2).2.2.2 q) (fun b q q2 => (h.uS b q2).1 q), ?_, h.of.chg hc (fun q => (h.uS vb q).2.2.1 rfl), h.lS, fun b q => ?_, fun b q => ⟨(h.sS b q).1, (h.sS b q).2.1, Nat.lt_of_lt_of_le (h.sS b q).2.2 hc.size⟩, h.vg⟩
  · rw [e]; exact hr.mono (fun b q _ => by rcases q.1 with q | q <;> exact q) (fun b q => q.elim)
  · rw [e] at q
    rcases hn b q with q1 | q1
    · exact h.uS b q1
    · exact ⟨fun z => by have := (h.sS b z).2.2; omega, fun z => by have := h.blk.lt; omega, fun z => by have := h.of.lt; omega, fun z => by have := h.l.lt b z; omega⟩
/-- A variable's part is told. -/
theorem PR.setV (h : PR w g S bl bu la lc N ua uc U vb vc V) {v x : Nat} (hv : v < 96) : PR (w.setCell ⟨vb, 0 + v, none⟩ (.int .i64 ((x : Int) - 1))) g S bl bu la lc N ua uc U vb vc (NS.setV V v x) := by
  have hu := Upd.at_ w vb (0 + v) (.int .i64 ((x : Int) - 1))
  have hc : Chg (fun k => k = vb) w (w.setCell ⟨vb, 0 + v, none⟩ (.int .i64 ((x : Int) - 1))) := .ofUpd hu rfl
  exact ⟨chg_blk h.blk hc (fun e => h.vg e.symm), h.l.chg hc (fun b q e => (h.lS b q).2 e) (fun b q e => (h.sS b q).2.1 e), h.up.chg hc (fun b q e => (h.uS b q).2.2.1 e) (fun b q => q.elim), (h.of.set_ hv).2, h.lS, h.uS, fun b q => ⟨(h.sS b q).1, (h.sS b q).2.1, by rw [hu.size]; exact (h.sS b q).2.2⟩, h.vg⟩
/-- A link is written. -/
theorem PR.setU {b : Nat} (h : PR w g S bl bu la lc N (some ⟨b, 0, none⟩) uc U vb vc V) {i v : Nat} (hi : i < U.length) : (∃ cs, Blk w b 3 cs ∧ 0 + i + 0 < cs.size) ∧ PR (w.setCell ⟨b, 0 + i, none⟩ (.int .i64 ((v : Nat) : Int))) g S bl bu la lc N (some ⟨b, 0, none⟩) uc (U.set i v) vb vc V := by
  obtain ⟨b2, cs, e1, e2, hB, hsz, _, hset⟩ := h.up.blkN (by omega)
  obtain rfl : b = b2 := by simpa using e1
  have hU := h.uS b e2
  have hu := Upd.at_ w b (0 + i) (.int .i64 ((v : Nat) : Int))
  have hc : Chg (fun k => k = b) w (w.setCell ⟨b, 0 + i, none⟩ (.int .i64 ((v : Nat) : Int))) := .ofUpd hu rfl
  have hs := hset i v hi
  refine ⟨⟨cs, hB, by omega⟩, chg_blk h.blk hc (fun e => hU.2.1 e.symm), h.l.chg hc (fun q k e => hU.2.2.2 (by rw [← show q = b from e]; exact k)) (fun q k e => hU.1 (by rw [← show q = b from e]; exact k)), by rw [List.length_set]; exact hs, h.of.chg hc (fun e => hU.2.2.1 (show vb = b from e).symm), h.lS, fun q k => h.uS q (by rw [List.length_set] at k; exact k), fun q k => ⟨(h.sS q k).1, (h.sS q k).2.1, by rw [hu.size]; exact (h.sS q k).2.2⟩, h.vg⟩
theorem PR.ub (h : PR w g S bl bu la lc N ua uc U vb vc V) (h0 : 0 < U.length) : ∃ b, ua = some ⟨b, 0, none⟩ := by
  obtain ⟨b, _, e, _⟩ := h.up.blkN h0
  exact ⟨b, e⟩
theorem PR.cu {b : Nat} (h : PR w g S bl bu la lc N (some ⟨b, 0, none⟩) uc U vb vc V) {i : Nat} (hi : i < U.length) : w.cell? ⟨b, 0 + i, none⟩ = some (.int .i64 ((aget U i : Nat) : Int)) := by
  obtain ⟨b2, cs, e1, _, _, _, hc, _⟩ := h.up.blkN (by omega)
  obtain rfl : b = b2 := by simpa using e1
  exact hc i hi
end
/-- The net, its blocks of 'Z'. -/
def RX (w : World) (g : Nat) (Z : Nat → Prop) (U : List Nat) (N : List Pt) (V : Nat → Nat) : Prop := ∃ S la lc ua uc vb vc, PR w g S (la, N.length, lc) (ua, U.length, uc) la lc N ua uc U vb vc V ∧ U.length = N.length ∧ (∀ b, RZ g S la lc N.length ua uc U.length vb b → Z b) ∧ ∀ b, Z b → b < w.heap.size
theorem RX.chg {w w' : World} {g : Nat} {Z X : Nat → Prop} {U : List Nat} {N : List Pt} {V : Nat → Nat} (h : RX w g Z U N V) (hc : Chg X w w') (hX : ∀ b, Z b → ¬ X b) : RX w' g Z U N V := by
  obtain ⟨S, la, lc, ua, uc, vb, vc, h1, h2, h3, h4⟩ := h
  exact ⟨S, la, lc, ua, uc, vb, vc, h1.chg hc (fun b q => hX b (h3 b q)), h2, h3, fun b q => Nat.lt_of_lt_of_le (h4 b q) hc.size⟩
theorem RX.below {w w' : World} {g : Nat} {Z : Nat → Prop} {U : List Nat} {N : List Pt} {V : Nat → Nat} (h : RX w g Z U N V) (hb : Below w.heap.size w w') : RX w' g Z U N V := h.chg (X := fun _ => False) (.ofBelow hb) (fun _ _ => id)
theorem RX.upd {w w' : World} {g q : Nat} {Z : Nat → Prop} {U : List Nat} {N : List Pt} {V : Nat → Nat} (h : RX w g Z U N V) (hu : Upd q w w') (hq : ¬ Z q) : RX w' g Z U N V := h.chg (X := fun b => b = q) (.ofUpd hu rfl) (fun b k e => hq (e ▸ k))
theorem RX.lt {w : World} {g : Nat} {Z : Nat → Prop} {U : List Nat} {N : List Pt} {V : Nat → Nat} (h : RX w g Z U N V) : ∀ b, Z b → b < w.heap.size := by obtain ⟨S, la, lc, ua, uc, vb, vc, h1, h2, h3, h4⟩ := h; exact h4
theorem RX.hg {w : World} {g : Nat} {Z : Nat → Prop} {U : List Nat} {N : List Pt} {V : Nat → Nat} (h : RX w g Z U N V) : Z g := by obtain ⟨S, la, lc, ua, uc, vb, vc, h1, h2, h3, h4⟩ := h; exact h3 g (.inl rfl)
theorem RX.len {w : World} {g : Nat} {Z : Nat → Prop} {U : List Nat} {N : List Pt} {V : Nat → Nat} (h : RX w g Z U N V) : U.length = N.length := by obtain ⟨S, la, lc, ua, uc, vb, vc, h1, h2, h3, h4⟩ := h; exact h2
/-- A net whose blocks are of 'Z', or came from 'B' on, and none of them of 'X'. -/
def RJ (w : World) (B : Nat) (Z : Nat → Prop) (κ d : Nat → Nat) (g : Nat) (N : List Pt) (V : Nat → Nat) (X : Nat → Prop) : Prop := ∃ U Z', Reps U κ d ∧ RX w g Z' U N V ∧ (∀ b, Z' b → Z b ∨ B ≤ b) ∧ ∀ b, X b → ¬ Z' b
section
variable {w w' : World} {B g : Nat} {Z Z2 X X2 : Nat → Prop} {κ d : Nat → Nat} {U : List Nat} {N : List Pt} {V : Nat → Nat}
theorem RJ.below (h : RJ w B Z κ d g N V X) (hb : Below w.heap.size w w') : RJ w' B Z κ d g N V X := by
  obtain ⟨U, Z', h1, h2, h3, h4⟩ := h
  exact ⟨U, Z', h1, h2.below hb, h3, h4⟩
theorem RJ.upd {q : Nat} (h : RJ w B Z κ d g N V X) (hu : Upd q w w') (hq : X q) : RJ w' B Z κ d g N V X := by
  obtain ⟨U, Z', h1, h2, h3, h4⟩ := h
  exact ⟨U, Z', h1, h2.upd hu (h4 q hq), h3, h4⟩
theorem RJ.chg {Y : Nat → Prop} (h : RJ w B Z κ d g N V X) (hc : Chg Y w w') (hq : ∀ b, Y b → X b) : RJ w' B Z κ d g N V X := by
  obtain ⟨U, Z', h1, h2, h3, h4⟩ := h
  exact ⟨U, Z', h1, h2.chg hc (fun b q q2 => h4 b (hq b q2) q), h3, h4⟩
theorem RJ.avoid (h : RJ w B Z κ d g N V X) (hX : ∀ b, X2 b → X b ∨ w.heap.size ≤ b) : RJ w B Z κ d g N V X2 := by
  obtain ⟨U, Z', h1, h2, h3, h4⟩ := h
  exact ⟨U, Z', h1, h2, h3, fun b q q2 => by
    rcases hX b q with z | z
    · exact h4 b z q2
    · have := h2.lt b q2; omega⟩
theorem RX.j (h : RX w g Z U N V) (hR : Reps U κ d) : RJ w B Z κ d g N V (fun _ => False) := ⟨U, Z, hR, h, fun b q => .inl q, fun b q => q.elim⟩
end
end Go.Proofs.Ythhgidliopohcaa

/- The document's measures in memory: a row of sizes (-1: being asked), a row of depths. -/
namespace Go.Proofs.Ythhgidliopohcaa
open Go.RowKit Go
set_option linter.unusedVariables false
set_option linter.unusedSimpArgs false
def szI (m : Ms) : Int := if m.op then -1 else (m.sz : Int)
/-- A row of integers in a block of its own. -/
def IB (w : World) (b n : Nat) (F : Nat → Int) : Prop := ∃ cs, Blk w b 3 cs ∧ n ≤ cs.size ∧ ∀ k, k < n → cs[k]? = some (.int .i64 (F k))
section
variable {w w' : World} {b n : Nat} {F G : Nat → Int}
theorem IB.lt (h : IB w b n F) : b < w.heap.size := by obtain ⟨cs, h1, _⟩ := h; exact h1.lt
theorem IB.chg {Z : Nat → Prop} (h : IB w b n F) (hc : Chg Z w w') (hb : ¬ Z b) : IB w' b n F := by obtain ⟨cs, h1, h2⟩ := h; exact ⟨cs, chg_blk h1 hc hb, h2⟩
theorem IB.cell (h : IB w b n F) {k : Nat} (hk : k < n) : w.cell? ⟨b, 0 + k, none⟩ = some (.int .i64 (F k)) := by
  obtain ⟨cs, h1, h2, h3⟩ := h
  rw [Nat.zero_add]; exact (h1.cell k).trans (h3 k hk)
theorem IB.congr (h : IB w b n F) (hg : ∀ k, k < n → F k = G k) : IB w b n G := by
  obtain ⟨cs, h1, h2, h3⟩ := h
  exact ⟨cs, h1, h2, fun k hk => by rw [← hg k hk]; exact h3 k hk⟩
theorem IB.set_ (h : IB w b n F) {r : Nat} {x : Int} (hr : r < n) : (∃ cs, Blk w b 3 cs ∧ 0 + r + 0 < cs.size) ∧ IB (w.setCell ⟨b, 0 + r, none⟩ (.int .i64 x)) b n (fun k => if k = r then x else F k) := by
  obtain ⟨cs, h1, h2, h3⟩ := h
  refine ⟨⟨cs, h1, by omega⟩, _, h1.set_ _ _, by simpa using h2, fun k hk => ?_⟩
  rw [Array.getElem?_setIfInBounds]
  by_cases e : 0 + r = k
  · rw [if_pos e, if_pos (by omega)]; show _ = some (Value.int .i64 (if k = r then x else F k)); rw [if_pos (by omega)]
  · rw [if_neg e]; show _ = some (Value.int .i64 (if k = r then x else F k)); rw [if_neg (by omega)]; exact h3 k hk
end
/-- The measures: a box of two rows. -/
structure RM (w : World) (gm zb zc db dc : Nat) (ms : List Ms) : Prop where
  blk : Blk w gm 71 #[.slice (some ⟨zb, 0, none⟩) ms.length zc, .slice (some ⟨db, 0, none⟩) ms.length dc]
  z : IB w zb ms.length (fun k => szI (mget ms k))
  d : IB w db ms.length (fun k => ((mget ms k).dp : Int))
  zd : zb ≠ db
  gz : gm ≠ zb
  gd : gm ≠ db
section
variable {w w' : World} {gm zb zc db dc : Nat} {ms : List Ms}
theorem RM.chg {Z : Nat → Prop} (h : RM w gm zb zc db dc ms) (hc : Chg Z w w') (h1 : ¬ Z gm) (h2 : ¬ Z zb) (h3 : ¬ Z db) : RM w' gm zb zc db dc ms :=
  ⟨chg_blk h.blk hc h1, h.z.chg hc h2, h.d.chg hc h3, h.zd, h.gz, h.gd⟩
theorem RM.below (h : RM w gm zb zc db dc ms) (hb : Below w.heap.size w w') : RM w' gm zb zc db dc ms := h.chg (Z := fun _ => False) (.ofBelow hb) id id id
theorem RM.c0 (h : RM w gm zb zc db dc ms) : w.cell? ⟨gm, 0, none⟩ = some (.slice (some ⟨zb, 0, none⟩) ms.length zc) := (h.blk.cell 0).trans rfl
theorem RM.c1 (h : RM w gm zb zc db dc ms) : w.cell? ⟨gm, 1, none⟩ = some (.slice (some ⟨db, 0, none⟩) ms.length dc) := (h.blk.cell 1).trans rfl
theorem RM.sz (h : RM w gm zb zc db dc ms) {k : Nat} (hk : k < ms.length) : w.cell? ⟨zb, 0 + k, none⟩ = some (.int .i64 (szI (mget ms k))) := h.z.cell hk
theorem RM.dp (h : RM w gm zb zc db dc ms) {k : Nat} (hk : k < ms.length) : w.cell? ⟨db, 0 + k, none⟩ = some (.int .i64 ((mget ms k).dp : Int)) := h.d.cell hk
theorem IB.made {b n : Nat} {cs : Array Value} (hB : Blk w b 3 cs) (hs : n ≤ cs.size) (hc : ∀ k, k < n → cs[k]? = some (.int .i64 0)) : IB w b n (fun _ => 0) := ⟨cs, hB, hs, hc⟩
theorem RM.made {n : Nat} {gm zb db : Nat} (hg : Blk w gm 71 #[.slice (some ⟨zb, 0, none⟩) n n, .slice (some ⟨db, 0, none⟩) n n]) (hz : Blk w zb 3 (madeCells (Value.cells (.int .i64 0)) (n * 1))) (hd : Blk w db 3 (madeCells (Value.cells (.int .i64 0)) (n * 1))) (h1 : zb ≠ db) (h2 : gm ≠ zb) (h3 : gm ≠ db) :
    RM w gm zb n db n (List.replicate n ⟨0, 0, false⟩) := by
  have hc : ∀ k, k < n → (madeCells (Value.cells (.int .i64 0)) (n * 1))[k]? = some (.int .i64 0) := fun k hk => by
    unfold madeCells
    rw [show Value.cells (.int .i64 0) = #[.int .i64 0] from rfl, Array.getElem?_map, Array.getElem?_range, if_pos (by omega)]
    show some _ = _
    simp only [List.size_toArray, List.length_cons, List.length_nil, Nat.zero_add, Nat.mod_one]
    rfl
  have hs : n ≤ (madeCells (Value.cells (.int .i64 0)) (n * 1)).size := by rw [size_madeCells]; omega
  have e : ∀ k, k < n → mget (List.replicate n (⟨0, 0, false⟩ : Ms)) k = ⟨0, 0, false⟩ := fun k hk => by rw [mget_lt (by simpa using hk)]; simp
  refine ⟨by rw [List.length_replicate]; exact hg, ?_, ?_, h1, h2, h3⟩
  · rw [List.length_replicate]; exact (IB.made hz hs hc).congr (fun k hk => by rw [e k hk]; rfl)
  · rw [List.length_replicate]; exact (IB.made hd hs hc).congr (fun k hk => by rw [e k hk]; rfl)
end
end Go.Proofs.Ythhgidliopohcaa

/- The document's net, new. -/
namespace Go.Proofs.Ythhgidliopohcaa
open Go.RowKit Go
set_option linter.unusedVariables false
set_option linter.unusedSimpArgs false
section
variable {w : World} {a : Option Addr} {c e : Nat} {S : Nat → Prop}
/-- No variable has a part yet. -/
theorem RowD.vb {l : List Int} (h : RowD eltI S w 3 a c 96 l) (hl : ∀ x ∈ l, x = -1) : ∃ vb, a = some ⟨vb, 0, none⟩ ∧ obk a 96 c = some vb ∧ VB w vb (fun _ => 0) := by
  have hn := h.len
  obtain ⟨b, e1, e2, h3⟩ := h.opn (by decide)
  subst e1
  have hlt := h.lt b e2
  obtain ⟨⟨xs, h1, _⟩, _, _⟩ := h
  rcases h1.2 with ⟨_, e2⟩ | ⟨g, cap, cur, e4, _, hb, _⟩
  · omega
  simp only [Value.slice.injEq, Option.some.injEq, Addr.mk.injEq, and_true, true_and] at e4
  obtain ⟨rfl, rfl⟩ := e4
  refine ⟨b, rfl, rfl, cur, hb, fun v hv => ?_⟩
  obtain ⟨cs, k1, k2⟩ := h3 v (by omega)
  have k1' : cs = [.int .i64 l[v]] := k1
  have k3 := k2 0 (by decide)
  rw [k1'] at k3
  have hk : eltI.k = 1 := rfl
  rw [hk, Nat.zero_add, Nat.mul_one, Nat.add_zero, Blk.cell (show Blk w b 3 cur from hb)] at k3
  rw [k3, hl _ (List.getElem_mem (by omega))]; rfl
/-- A new net holds nothing. -/
theorem RX.new {g vb vc : Nat} (hB : Blk w g 67 #[.slice none 0 0, .slice none 0 0, .slice (some ⟨vb, 0, none⟩) 96 vc]) (hV : VB w vb (fun _ => 0)) (hne : vb ≠ g) : RX w g (fun b => b = g ∨ b = vb) [] [] (fun _ => 0) :=
  ⟨fun _ => False, none, 0, none, 0, vb, vc, ⟨hB, RowD.nil, RowD.nil, hV, (fun b q => nomatch q), (fun b q => nomatch q), (fun b q => q.elim), hne⟩, rfl, (fun b q => by
    rcases q with q | q | q | q | q
    · exact .inl q
    · exact .inr q
    · cases q
    · cases q
    · cases q), (fun b q => by
    rcases q with q | q
    · rw [q]; exact hB.lt
    · rw [q]; exact hV.lt)⟩
end
/-- The document's net in memory behind 'B', apart from 'X'. -/
def RXS (w : World) (B g : Nat) (κ : Nat → Nat) (N : List Pt) (V : Nat → Nat) (X : Nat → Prop) : Prop := ∃ (Z : Nat → Prop) (U : List Nat) (d : Nat → Nat), (∀ b, Z b → B ≤ b ∧ ¬ X b) ∧ Reps U κ d ∧ RX w g Z U N V
theorem RXS.below {w w' : World} {B g : Nat} {κ : Nat → Nat} {N : List Pt} {V : Nat → Nat} {X : Nat → Prop} (h : RXS w B g κ N V X) (hb : Below w.heap.size w w') : RXS w' B g κ N V X := by
  obtain ⟨Z, U, d, h1, h2, h3⟩ := h
  exact ⟨Z, U, d, h1, h2, h3.below hb⟩
end Go.Proofs.Ythhgidliopohcaa

namespace Go.Proofs.Ythhgidliopohcaa
open Go.RowKit Go
set_option linter.unusedVariables false
set_option linter.unusedSimpArgs false
theorem Run.keep {rv : Bool} {N : List Pt} (hN : NOk N) {todo : List (Nat × Nat)} {κ : Nat → Nat} {o : Option (Nat → Nat)} (h : Run rv N todo κ o) : KOk N κ → InR N todo → ∀ κ', o = some κ' → KOk N κ' ∧ aSum N κ' ≤ aSum N κ := by
  induction h with
  | nil κ => intro hk _ κ' e; obtain rfl := Option.some.inj e; exact ⟨hk, Nat.le_refl _⟩
  | same _ _ ih => intro hk hI κ' e; exact ih hk (fun p hp => hI p (List.mem_cons_of_mem _ hp)) κ' e
  | clash _ _ => intro _ _ κ' e; cases e
  | @step i j r ps κ κ1 o hne hst _ ih =>
    intro hk hI κ' e
    have hij := hI (i, j) (List.mem_cons_self ..)
    have li := hk.lt _ hij.1
    have lj := hk.lt _ hij.2
    have k1 := stepM_kok hk (hk.idem i) (hk.idem j) hne li lj hst
    have s1 := stepM_sum (hk.idem i) (hk.idem j) hne li lj hst
    have hps := stepM_inr hN li lj hst
    obtain ⟨z1, z2⟩ := ih k1 (fun p hp => by
      rcases List.mem_append.1 hp with q | q
      · exact hps p (rv_mem.1 q)
      · exact hI p (List.mem_cons_of_mem _ q)) κ' e
    exact ⟨z1, by omega⟩
/-- One pair more, behind the others. -/
theorem Run.snoc {N : List Pt} {ps : List (Nat × Nat)} {p : Nat × Nat} {κ κ1 : Nat → Nat} {o : Option (Nat → Nat)} (h : Run false N ps κ (some κ1)) (h2 : Run false N [(p.1, p.2)] κ1 o) : Run false N (ps ++ [p]) κ o := (Run.append h).1 κ1 o rfl h2
end Go.Proofs.Ythhgidliopohcaa
