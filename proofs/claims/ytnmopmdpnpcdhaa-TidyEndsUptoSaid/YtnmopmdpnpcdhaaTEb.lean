/- Variables without arguments: the program and the document; literals that are atoms. -/
import Derived.Test.YtnmopmdpnpcdhaaTEa
import Derived.WalkKit

/- Pointers to terms, in blocks that are told. -/
namespace Go.Proofs.Ytnmopmdpnpcdhaa
open Go.RowKit Go
set_option linter.unusedVariables false
set_option linter.unusedSimpArgs false
/-- A pointer to a term, all in blocks of 'S'. -/
def InTp (S : Nat → Prop) (w : World) (t : T) (v : Value) : Prop := ∃ (b o : Nat) (a : Option Addr) (c : Nat), v = .pointer (some ⟨b, o, none⟩) ∧ S b ∧ w.cell? ⟨b, o, none⟩ = some (.int .i64 t.f) ∧ w.cell? ⟨b, o + 1, none⟩ = some (.slice a t.args.length c) ∧ InT S w t (.agg #[.int .i64 t.f, .slice a t.args.length c])
section
variable {S S' : Nat → Prop} {w w' : World} {t : T} {v : Value}
theorem InTp.keep (hb : ∀ (p : Addr) (x : Value), S p.block → w.cell? p = some x → w'.cell? p = some x) (h : InTp S w t v) : InTp S w' t v := by
  obtain ⟨b, o, a, c, e, hs, h1, h2, h3⟩ := h
  exact ⟨b, o, a, c, e, hs, hb ⟨b, o, none⟩ _ hs h1, hb ⟨b, o + 1, none⟩ _ hs h2, h3.keep hb⟩
theorem InTp.mono (hb : ∀ b, S b → b < w.heap.size → S' b) (h : InTp S w t v) : InTp S' w t v := by
  obtain ⟨b, o, a, c, e, hs, h1, h2, h3⟩ := h
  exact ⟨b, o, a, c, e, hb b hs (World.block_lt_of_cell? _ _ h1), h1, h2, h3.mono hb⟩
theorem InTp.below (h : InTp S w t v) (hb : Below w.heap.size w w') : InTp S w' t v := h.keep fun p x _ hx => bkeeps hb p x hx
theorem InTp.chg {S2 : Nat → Prop} (h : InTp S w t v) (hc : Chg S2 w w') (hS : ∀ b, S b → ¬ S2 b) : InTp S w' t v := h.keep fun p x hp hx => by
  have hb := World.block_lt_of_cell? _ _ hx
  unfold World.cell? at hx ⊢
  rw [hc.block p.block hb (hS _ hp)]; exact hx
/-- An argument of a term that is pointed at. -/
theorem InTp.arg {b o : Nat} {a : Option Addr} {c : Nat} (h : InT S w t (.agg #[.int .i64 t.f, .slice a t.args.length c])) (k : Nat) (hk : k < t.args.length) : ∃ b o, a = some ⟨b, o, none⟩ ∧ InTp S w (tget t.args k) (.pointer (some ⟨b, o + k * 2, none⟩)) := by
  obtain ⟨_, a', c', e, _, _, h3⟩ := h.form
  simp only [Value.agg.injEq, Array.mk.injEq, List.cons.injEq, and_true, Value.slice.injEq, true_and] at e
  obtain ⟨rfl, rfl⟩ := e
  obtain ⟨b, o, u, v, rfl, h4, h5, h6, h7⟩ := h3.at_ k hk
  obtain ⟨_, a2, c2, e2, _⟩ := h7.form
  simp only [Value.agg.injEq, Array.mk.injEq, List.cons.injEq, and_true] at e2
  obtain ⟨rfl, rfl⟩ := e2
  rw [tget_lt hk]
  exact ⟨b, o, rfl, b, _, a2, c2, rfl, h4, h5, h6, h7⟩
/-- A box in which a term lies. -/
theorem InTp.box {g ty : Nat} {a : Option Addr} {c : Nat} (hB : Blk w g ty #[.int .i64 t.f, .slice a t.args.length c]) (hg : S g) (h : InT S w t (.agg #[.int .i64 t.f, .slice a t.args.length c])) : InTp S w t (.pointer (some ⟨g, 0, none⟩)) :=
  ⟨g, 0, a, c, rfl, hg, by rw [hB.cell]; rfl, by rw [hB.cell]; rfl, h⟩
end
/-- Values as they are, two of them. -/
def eltV2 : Elt (Addr × Addr) where
  k := 2
  In := fun _ _ x cs => cs = [.pointer (some x.1), .pointer (some x.2)]
  keep := fun _ h => h
  mono := fun _ h => h
  len := fun h => by rw [h]; rfl
  one := fun h v hv => by rw [h] at hv; simp at hv; rcases hv with rfl | rfl <;> rfl
section
variable {α β : Type} {E : Elt α} {E2 : Elt β} {w w' : World} {B B2 e e2 c c2 n n2 : Nat} {a a2 : Option Addr} {l : List α} {l2 : List β}
/-- Rows of different types lie in different blocks. -/
theorem RowE.ne (h : RowE E w B e a c n l) (h2 : RowE E2 w B2 e2 a2 c2 n2 l2) (he : e ≠ e2) : ∀ b, (Value.slice a n c).ownBlock = some b → (Value.slice a2 n2 c2).ownBlock ≠ some b := by
  intro b hb hb2
  obtain ⟨⟨xs, h1, _⟩, _⟩ := h
  obtain ⟨⟨ys, h3, _⟩, _⟩ := h2
  rcases h1.2 with ⟨e1, _⟩ | ⟨g, cap, cur, e1, _, r1, _⟩
  · rw [e1] at hb; cases hb
  · rcases h3.2 with ⟨f1, _⟩ | ⟨g', cap', cur', f1, _, r2, _⟩
    · rw [f1] at hb2; cases hb2
    · rw [e1] at hb; rw [f1] at hb2
      obtain rfl : g = b := by simpa [Value.ownBlock] using hb
      obtain rfl : g' = g := by simpa [Value.ownBlock] using hb2
      have := r1.symm.trans r2
      simp at this
      exact he this.2
theorem RowE.neBlk {g ty : Nat} {cs : Array Value} (h : RowE E w B e a c n l) (hB : Blk w g ty cs) (he : e ≠ ty) : (Value.slice a n c).ownBlock ≠ some g := by
  intro hb
  obtain ⟨⟨xs, h1, _⟩, _⟩ := h
  rcases h1.2 with ⟨e1, _⟩ | ⟨g', cap, cur, e1, _, r1, _⟩
  · rw [e1] at hb; cases hb
  · rw [e1] at hb
    obtain rfl : g' = g := by simpa [Value.ownBlock] using hb
    unfold Blk at hB
    have := r1.symm.trans hB
    simp at this
    exact he this.2
theorem RowE.neMap {g : Nat} {es : Array MapEntry} {clock : Nat} (h : RowE E w B e a c n l) (hB : ObjAt w g (.map es clock)) : (Value.slice a n c).ownBlock ≠ some g := by
  intro hb
  obtain ⟨⟨xs, h1, _⟩, _⟩ := h
  rcases h1.2 with ⟨e1, _⟩ | ⟨g', cap, cur, e1, _, r1, _⟩
  · rw [e1] at hb; cases hb
  · rw [e1] at hb
    obtain rfl : g' = g := by simpa [Value.ownBlock] using hb
    unfold ObjAt at hB
    have := r1.symm.trans hB
    simp at this
/-- What does not touch the row's block keeps it, if its elements hang on nothing. -/
theorem RowE.chgOwn {S : Nat → Prop} (hE : ∀ (S : Nat → Prop) w w' x cs, E.In S w x cs → E.In S w' x cs) (h : RowE E w B e a c n l) (hc : Chg S w w') (hS : ∀ b, (Value.slice a n c).ownBlock = some b → ¬ S b) : RowE E w' B e a c n l := by
  obtain ⟨⟨xs, h1, h2⟩, h3⟩ := h
  refine ⟨⟨xs, ⟨h1.1, h1.2.imp id ?_⟩, ?_⟩, h3⟩
  · rintro ⟨g, cap, cur, e1, e2, e3, r⟩
    refine ⟨g, cap, cur, e1, e2, ?_, r⟩
    rw [hc.block g (Array.getElem?_eq_some_iff.1 e3).1 (hS g (by rw [e1]; rfl))]; exact e3
  · clear h1
    revert h2
    generalize (fun b => B ≤ b ∧ (Value.slice a n c).ownBlock ≠ some b) = Z
    clear h3
    induction l generalizing xs with
    | nil => intro h2; exact h2
    | cons x l ih =>
      rintro ⟨cs, r, e, h3, h4⟩
      exact ⟨cs, r, e, hE _ _ _ _ _ h3, ih r h4⟩
/-- The first of a row. -/
theorem RowE.take (h : RowE E w B e a c n l) (k : Nat) (hk : k ≤ n) (hE : ∀ (S : Nat → Prop) w x cs, E.In S w x cs → ∀ S', E.In S' w x cs) : RowE E w B e a c k (l.take k) := by
  obtain ⟨⟨xs, h1, h2⟩, rfl⟩ := h
  have hel : ∀ (l : List α) (xs : List Value) (k : Nat) (Z Z' : Nat → Prop), Elts E Z w l xs → Elts E Z' w (l.take k) (xs.take (k * E.k)) := by
    intro l
    induction l with
    | nil => intro xs k Z Z' h; have : xs = [] := h; subst this; simp; exact rfl
    | cons x l ih =>
      rintro xs k Z Z' ⟨cs, r, rfl, h3, h4⟩
      cases k with
      | zero => simp; exact rfl
      | succ k =>
        refine ⟨cs, r.take (k * E.k), ?_, hE _ _ _ _ h3 _, ih r k Z Z' h4⟩
        rw [List.take_append, E.len h3, Nat.add_mul, Nat.one_mul, Nat.add_sub_cancel, List.take_of_length_le (by rw [E.len h3]; omega)]
  refine ⟨⟨xs.take (k * E.k), ⟨by rw [List.length_take, h1.1]; exact Nat.min_eq_left (Nat.mul_le_mul_right _ hk), ?_⟩, hel _ _ _ _ _ h2⟩, by simp; omega⟩
  rcases h1.2 with ⟨e1, h0⟩ | ⟨g, cap, cur, e1, e2, e3, e4, e5, e6, e7⟩
  · simp only [Value.slice.injEq] at e1
    obtain ⟨rfl, e, rfl⟩ := e1
    left
    have : k = 0 := by omega
    subst this
    exact ⟨rfl, by simp⟩
  · right
    simp only [Value.slice.injEq, true_and] at e1
    obtain ⟨rfl, rfl⟩ := e1
    exact ⟨g, _, cur, rfl, e2, e3, by omega, e5, e6, by rw [← e7, List.take_take, Nat.min_eq_left (Nat.mul_le_mul_right _ hk)]⟩
end
section
variable {α : Type} {E : Elt α} {P : Program} {w : World} {a : Act} {K : Act → World → Prop} {Q : Exit → Act → World → Prop} {o : Oper}
/-- One element more, by append: where the row lies then. -/
theorem wp_appE2 {s x : Operand} {t e B : Nat} {z : Value} {size bytes n rc g1 : Nat} {ra : Option Addr} {l : List α} {y : α} {cs : List Value} (hk : E.k = size) (ht : P.underlying t = some (.slice e)) (hinfo : (P.info? e).map (fun i => (i.zero, i.size, i.bytes)) = some (some z, size, bytes)) (hzs : z.cells.size = size) (hsz : 0 < size)
    (ho : o.op = .call { callee := .builtin .append, args := #[s, x], argTypes := #[t, t] }) (hs : a.eval s = .slice ra n rc) (hx : a.eval x = .slice (some ⟨g1, 0, none⟩) 1 1) (hrow : RowE E w B e ra rc n l) (hB : Blk w g1 e cs.toArray) (hin : E.In (fun b => B ≤ b ∧ (Value.slice ra n rc).ownBlock ≠ some b) w y cs)
    (hb : (n + 1) * bytes ≤ 140737488355328) (hn : n + 1 ≤ 9223372036854775807) (hbase : B ≤ w.heap.size) (hK : ∀ ra' rc' w', RowE E w' B e ra' rc' (n + 1) (l ++ [y]) → Chg (fun b => (Value.slice ra n rc).ownBlock = some b) w w' → KeepsFrom 0 w w' → (∀ b, (Value.slice ra' (n + 1) rc').ownBlock = some b → (Value.slice ra n rc).ownBlock = some b ∨ b = w.heap.size) → K (a.put o.dst (.slice ra' (n + 1) rc')) w') : o.wp P a w K Q := by
  subst hk
  obtain ⟨⟨xs, h1, h2⟩, rfl⟩ := hrow
  refine wp_app (m := 1) (news := cs) ht hinfo hzs hsz ho hs hx h1 (SrcIs.ofBlk hB) (by rw [E.len hin]; omega) (E.one hin) hb hn hbase (fun ra' rc' w' h => hK _ _ _ ?_ ⟨h.grow.os, h.grow.tape, h.grow.output, h.grow.size, fun k hk hSk => h.grow.block k hk (fun e => hSk e.symm)⟩ ?_ ?_)
  · have key : ∀ (p : Addr) (v : Value), (Value.slice ra l.length rc).ownBlock ≠ some p.block → w.cell? p = some v → w'.cell? p = some v := fun p v hp hv => h.grow.cell hv (Ne.symm hp)
    refine ⟨⟨xs ++ cs, h.own, ?_⟩, by simp⟩
    have far : ∀ b, (B ≤ b ∧ (Value.slice ra l.length rc).ownBlock ≠ some b) ∧ b < w.heap.size → B ≤ b ∧ (Value.slice ra' (l.length + 1) rc').ownBlock ≠ some b := fun b hb => ⟨hb.1.1, fun e => by
      rcases h.at_ with e2 | e2
      · exact hb.1.2 (e2 ▸ e)
      · rw [e2] at e; have := Option.some.inj e; omega⟩
    refine Elts.mono (fun b hb _ => far b hb) (Elts.keep (w := w) (fun p v hp hv => key p v hp.1.2 hv) ?_)
    exact Elts.snoc (E.mono (fun b hb hlt => ⟨hb, hlt⟩) hin) (Elts.mono (fun b hb hlt => ⟨hb, hlt⟩) h2)
  · refine ⟨h.grow.size, fun k o _ hk ho => (h.grow.block k (Array.getElem?_eq_some_iff.1 hk).1 (fun e => ?_)).trans hk⟩
    rcases h1.2 with ⟨e1, _⟩ | ⟨g, cap, cur, e1, _, e3, _⟩
    · rw [e1] at e; cases e
    · rw [e1] at e
      have : k = g := by simpa [Value.ownBlock] using e
      subst this
      rw [show w.heap[k]? = _ from e3] at hk
      obtain rfl := Option.some.inj hk
      cases ho
  · intro b hb
    rcases h.at_ with e2 | e2
    · exact .inl (e2 ▸ hb)
    · rw [e2] at hb; exact .inr (Option.some.inj hb).symm
end
end Go.Proofs.Ytnmopmdpnpcdhaa

/- The matcher: how it lies in memory. -/
namespace Go.Proofs.Ytnmopmdpnpcdhaa
open Go.RowKit Go
set_option linter.unusedVariables false
set_option linter.unusedSimpArgs false
theorem eltI_any (S S' : Nat → Prop) (w w' : World) (x : Int) (cs : List Value) (h : eltI.In S w x cs) : eltI.In S' w' x cs := h
theorem InRow.openI {S : Nat → Prop} {w : World} {l : List Int} {a : Option Addr} (h : InRow eltI S w l a) : ∃ b o : Nat, (∀ k, k < l.length → a = some ⟨b, o, none⟩) ∧ ∀ k, k < l.length → w.cell? ⟨b, o + k, none⟩ = some (.int .i64 (l.getD k 0)) := by
  rcases Nat.eq_zero_or_pos l.length with h0 | h0
  · exact ⟨0, 0, fun k hk => by omega, fun k hk => by omega⟩
  · obtain ⟨b, o, _, ha, _⟩ := h 0 h0
    refine ⟨b, o, fun _ _ => ha, fun k hk => ?_⟩
    obtain ⟨b', o', cs, ha', _, h1, h2⟩ := h k hk
    rw [ha] at ha'
    simp only [Option.some.injEq, Addr.mk.injEq, and_true] at ha'
    obtain ⟨rfl, rfl⟩ := ha'
    have h1' : cs = [.int .i64 l[k]] := h1
    subst h1'
    have := h2 0 (by decide)
    simpa [eltI, hk] using this
theorem InRow.dropI {S : Nat → Prop} {w : World} {l : List Int} {a : Option Addr} {k c : Nat} (h : InRow eltI S w l a) (hk : k ≤ l.length) (hc : l.length ≤ c) : InRow eltI S w (l.drop k) (slA a k 1 c) := fun i hi => by
  rw [List.length_drop] at hi
  obtain ⟨b, o, cs, ha, hs, h1, h2⟩ := h (k + i) (by omega)
  subst ha
  refine ⟨b, o + k, cs, by rw [slA_some (by omega), Nat.mul_one], hs, by rw [List.getElem_drop]; exact h1, fun j hj => ?_⟩
  rw [← h2 j hj, Nat.add_mul]
  have e : eltI.k = 1 := rfl
  simp only [e, Nat.mul_one, Nat.add_assoc]
/-- The matcher at the block 'g': what is bound, in the order in which it was; 'C': the blocks of its own. -/
structure MatIn (w : World) (g : Nat) (st : List Bd) (C : Nat → Prop) (mb : Nat) (es : Array MapEntry) (cl : Nat) (a : Option Addr) (c : Nat) (ps : List Value) : Prop where
  blk : Blk w g 89 #[.map (some mb), .slice a st.length c]
  map : ObjAt w mb (.map es cl)
  ent : ImE es cl ((st.map (·.var)).zip ps)
  nd : (st.map (·.var)).Nodup
  row : RowE eltI w 0 3 a c st.length (st.map (·.var))
  len : ps.length = st.length
  ptr : ∀ i, i < st.length → InTp (fun b => C b ∧ b ≠ g ∧ b ≠ mb ∧ (Value.slice a st.length c).ownBlock ≠ some b) w (dget st i).t (ps.getD i undef)
  i64 : ∀ x ∈ st, I64 x.var
  sz : ∀ x ∈ st, x.t.size ≤ 4294967296
  cg : C g
  cmb : C mb
  crow : ∀ b, (Value.slice a st.length c).ownBlock = some b → C b
  clt : ∀ b, C b → b < w.heap.size
def MatAt (w : World) (g : Nat) (st : List Bd) (C : Nat → Prop) : Prop := ∃ mb es cl a c ps, MatIn w g st C mb es cl a c ps
section
variable {w w' : World} {g : Nat} {st : List Bd} {C S : Nat → Prop} {mb : Nat} {es : Array MapEntry} {cl : Nat} {a : Option Addr} {c : Nat} {ps : List Value}
theorem MatIn.gmb (h : MatIn w g st C mb es cl a c ps) : g ≠ mb := h.map.neBlk h.blk
theorem MatIn.rowg (h : MatIn w g st C mb es cl a c ps) : (Value.slice a st.length c).ownBlock ≠ some g := h.row.neBlk h.blk (by decide)
theorem MatIn.rowmb (h : MatIn w g st C mb es cl a c ps) : (Value.slice a st.length c).ownBlock ≠ some mb := h.row.neMap h.map
theorem MatIn.cap (h : MatIn w g st C mb es cl a c ps) : st.length ≤ c ∧ c ≤ maxLen := ⟨h.row.inRow.2.2.1, h.row.inRow.2.2.2⟩
theorem MatIn.chg (h : MatIn w g st C mb es cl a c ps) (hc : Chg S w w') (hS : ∀ b, C b → ¬ S b) : MatIn w' g st C mb es cl a c ps where
  blk := chg_blk h.blk hc (hS _ h.cg)
  map := h.map.chg hc (hS _ h.cmb)
  ent := h.ent
  nd := h.nd
  row := h.row.chgOwn (fun S w w' x cs q => eltI_any S S w w' x cs q) hc (fun b q => hS b (h.crow b q))
  len := h.len
  ptr := fun i hi => (h.ptr i hi).chg hc (fun b q => hS b q.1)
  i64 := h.i64
  sz := h.sz
  cg := h.cg
  cmb := h.cmb
  crow := h.crow
  clt := fun b q => Nat.lt_of_lt_of_le (h.clt b q) hc.size
theorem MatAt.chg (h : MatAt w g st C) (hc : Chg S w w') (hS : ∀ b, C b → ¬ S b) : MatAt w' g st C := by
  obtain ⟨mb, es, cl, a, c, ps, h⟩ := h
  exact ⟨mb, es, cl, a, c, ps, h.chg hc hS⟩
theorem MatAt.below (h : MatAt w g st C) (hb : Below w.heap.size w w') : MatAt w' g st C := h.chg (S := fun _ => False) (.ofBelow hb) (fun _ _ => id)
theorem MatAt.clt (h : MatAt w g st C) : ∀ b, C b → b < w.heap.size := by
  obtain ⟨mb, es, cl, a, c, ps, h⟩ := h
  exact h.clt
theorem MatAt.lt (h : MatAt w g st C) : g < w.heap.size := by
  obtain ⟨mb, es, cl, a, c, ps, h⟩ := h
  exact h.blk.lt
theorem MatAt.nd (h : MatAt w g st C) : (st.map (·.var)).Nodup := by
  obtain ⟨mb, es, cl, a, c, ps, h⟩ := h
  exact h.nd
end
theorem imDel_mid {Z : List (Int × Value)} {m k : Nat} {v : Int} (hn : (Z.map (·.1)).Nodup) (h : m + k < Z.length) (hv : v = Z[m + k].1) : imDel (Z.take m ++ Z.drop (m + k)) v = Z.take m ++ Z.drop (m + (k + 1)) := by
  have hd : Z.drop (m + k) = Z[m + k] :: Z.drop (m + k + 1) := List.drop_eq_getElem_cons h
  have hne : ∀ x ∈ Z.take m, x.1 ≠ v := by
    intro x hx e
    obtain ⟨i, hi, rfl⟩ := List.getElem_of_mem hx
    rw [List.length_take] at hi
    rw [List.getElem_take] at e
    have := List.pairwise_iff_getElem.1 hn i (m + k) (by simp; omega) (by simp; omega) (by omega)
    rw [List.getElem_map, List.getElem_map] at this
    exact this (e.trans hv)
  have hf : ∀ (l r : List (Int × Value)) (i : Nat), (∀ x ∈ l, x.1 ≠ v) → imFind (l ++ (v, Z[m + k].2) :: r) v i = some (i + l.length, Z[m + k].2) := by
    intro l r
    induction l with
    | nil => intro i _; simp [imFind]
    | cons x l ih =>
      intro i hx
      rw [List.cons_append, imFind, if_neg (fun e => hx x (by simp) e.symm), ih (i + 1) (fun y hy => hx y (by simp [hy]))]
      simp; omega
  have e : Z[m + k] = (v, Z[m + k].2) := by rw [hv]
  unfold imDel
  rw [hd, e, hf _ _ 0 hne]
  simp only [List.length_take, Nat.zero_add]
  rw [List.eraseIdx_append_of_length_le (by rw [List.length_take]; exact Nat.le_refl _)]
  rw [List.length_take, Nat.sub_self, List.eraseIdx_cons_zero, Nat.add_assoc]
theorem zip_take {α β : Type} : ∀ (l : List α) (r : List β) (k : Nat), (l.zip r).take k = (l.take k).zip (r.take k)
  | [], _, k => by simp
  | _ :: _, [], k => by simp
  | x :: l, y :: r, 0 => by simp
  | x :: l, y :: r, k + 1 => by simp [zip_take l r k]
theorem getD_take {ps : List Value} {m i : Nat} (h : i < m) : (ps.take m).getD i undef = ps.getD i undef := by
  simp [List.getD_eq_getElem?_getD, List.getElem?_take, h]
theorem dget_take {st : List Bd} {m i : Nat} (h : i < m) : dget (st.take m) i = dget st i := by
  unfold dget
  simp [List.getD_eq_getElem?_getD, List.getElem?_take, h]
/-- Back to the first 'm'. -/
theorem MatIn.back {w w' : World} {g : Nat} {st : List Bd} {C : Nat → Prop} {mb : Nat} {es es' : Array MapEntry} {cl cl' : Nat} {a : Option Addr} {c : Nat} {ps : List Value} {m : Nat} (h : MatIn w g st C mb es cl a c ps) (hm : m ≤ st.length)
    (hB : Blk w' g 89 #[.map (some mb), .slice a m c]) (hM : ObjAt w' mb (.map es' cl')) (hE : ImE es' cl' (((st.map (·.var)).zip ps).take m)) (hc : Chg (fun b => b = g ∨ b = mb) w w') : MatIn w' g (st.take m) C mb es' cl' a c (ps.take m) where
  blk := by rw [List.length_take, Nat.min_eq_left hm]; exact hB
  map := hM
  ent := by rw [List.map_take, ← zip_take]; exact hE
  nd := by rw [List.map_take]; exact (List.take_sublist _ _).nodup h.nd
  row := by
    have h1 := h.row.chgOwn (fun S w w' x cs q => eltI_any S S w w' x cs q) hc (fun b q => by
      rintro (rfl | rfl)
      · exact h.rowg q
      · exact h.rowmb q)
    have h2 := h1.take m hm (fun S w x cs q S' => q)
    rw [List.length_take, Nat.min_eq_left hm, List.map_take]; exact h2
  len := by rw [List.length_take, List.length_take, h.len]
  ptr := fun i hi => by
    rw [List.length_take] at hi
    rw [dget_take (by omega), getD_take (by omega)]
    refine ((h.ptr i (by omega)).chg hc (fun b q => ?_)).mono (fun b q _ => ⟨q.1, q.2.1, q.2.2.1, ?_⟩)
    · rintro (e | e)
      · exact q.2.1 e
      · exact q.2.2.1 e
    · intro e
      apply q.2.2.2
      cases a with
      | none => cases e
      | some p => exact e
  i64 := fun x hx => h.i64 x (List.mem_of_mem_take hx)
  sz := fun x hx => h.sz x (List.mem_of_mem_take hx)
  cg := h.cg
  cmb := h.cmb
  crow := fun b q => h.crow b (by cases a with
    | none => cases q
    | some p => exact q)
  clt := fun b q => Nat.lt_of_lt_of_le (h.clt b q) hc.size
end Go.Proofs.Ytnmopmdpnpcdhaa

/- Terms whose variables have no arguments. -/
namespace Go.Proofs.Ytnmopmdpnpcdhaa
open Go.RowKit Go
set_option linter.unusedVariables false
set_option linter.unusedSimpArgs false
mutual
def T.plain : T → Bool
  | .mk f l => T.plainL l && (decide (0 ≤ f) || l.isEmpty)
def T.plainL : List T → Bool
  | [] => true
  | t :: r => t.plain && T.plainL r
end
theorem plainL_mem : ∀ {l : List T}, T.plainL l = true ↔ ∀ t ∈ l, t.plain = true
  | [] => by simp [T.plainL]
  | t :: r => by rw [T.plainL, Bool.and_eq_true, plainL_mem (l := r)]; simp
theorem plain_all {f : Int} {l : List T} (h : ∀ i, i < l.length → (tget l i).plain = true) : (T.mk f l).plain = (decide (0 ≤ f) || l.isEmpty) := by
  rw [T.plain, plainL_mem.2 (fun t ht => ?_), Bool.true_and]
  obtain ⟨i, hi, rfl⟩ := List.getElem_of_mem ht
  have := h i hi
  rwa [tget_lt hi] at this
theorem plain_no {f : Int} {l : List T} {k : Nat} (hk : k < l.length) (h : (tget l k).plain = false) : (T.mk f l).plain = false := by
  rw [T.plain]
  have : T.plainL l = false := by
    rw [Bool.eq_false_iff]; intro hp
    rw [plainL_mem.1 hp _ (tget_mem hk)] at h; cases h
  rw [this]; rfl
theorem plain_var {f : Int} {l : List T} (h1 : f < 0) (h2 : 0 < l.length) : (T.mk f l).plain = false := by
  rw [T.plain, decide_eq_false (by omega), Bool.false_or]
  have : l.isEmpty = false := by cases l with | nil => simp at h2 | cons _ _ => rfl
  rw [this, Bool.and_false]
theorem plain_yes {f : Int} {l : List T} (h0 : ¬ (f < 0 ∧ 0 < l.length)) (h : ∀ i, i < l.length → (tget l i).plain = true) : (T.mk f l).plain = true := by
  rw [plain_all h, Bool.or_eq_true, decide_eq_true_eq]
  rcases Int.lt_or_le f 0 with q | q
  · right
    have : l.length = 0 := by omega
    rw [List.length_eq_zero_iff.1 this]; rfl
  · exact .inl q
end Go.Proofs.Ytnmopmdpnpcdhaa

/- Operations, one law a kind and type. -/
namespace Go.Proofs.Ytnmopmdpnpcdhaa
open Go.RowKit Go
set_option linter.unusedVariables false
set_option linter.unusedSimpArgs false
set_option maxRecDepth 100000
theorem box_58 {w : World} {a : Act} {K : Act → World → Prop} {Q : Exit → Act → World → Prop} {o : Oper} {x : Operand} {c0 c1 : Value} (ho : o.op = .box 58 x) (hx : a.eval x = .agg #[c0, c1]) (hK : K (a.put o.dst (.pointer (some ⟨w.heap.size, 0, none⟩))) (w.alloc (.cells #[c0, c1] 58))) : o.wp Try.prog a w K Q := by
  unfold Oper.wp execOp
  simp only [ho, hx]
  go_simp
  exact hK
theorem eqlp_78 {w : World} {a : Act} {K : Act → World → Prop} {Q : Exit → Act → World → Prop} {o : Oper} {x y : Operand} {p : Addr} (ho : o.op = .binOp .eql 78 x y 78) (hx : a.eval x = .pointer (some p)) (hy : a.eval y = .pointer none) (hK : K (a.put o.dst (.bool false)) w) : o.wp Try.prog a w K Q := by
  unfold Oper.wp execOp
  simp only [ho, hx, hy]
  go_simp
  exact hK
theorem ld_58 {w : World} {a : Act} {K : Act → World → Prop} {Q : Exit → Act → World → Prop} {o : Oper} {x : Operand} {b p : Nat} {c0 c1 : Value} (ho : o.op = .load 58 x) (hx : a.eval x = .pointer (some ⟨b, p, none⟩)) (h0 : w.cell? ⟨b, p, none⟩ = some c0) (h1 : w.cell? ⟨b, p + 1, none⟩ = some c1) (hK : K (a.put o.dst (.agg #[c0, c1])) w) : o.wp Try.prog a w K Q := by
  unfold Oper.wp execOp
  simp only [ho, hx]
  go_simp
  exact hK
theorem alloc_58 {w : World} {a : Act} {K : Act → World → Prop} {Q : Exit → Act → World → Prop} {o : Oper} (ho : o.op = .alloc 58) (hK : K (a.put o.dst (.pointer (some ⟨w.heap.size, 0, none⟩))) (w.alloc (.cells #[.int .i64 0, .slice none 0 0] 58))) : o.wp Try.prog a w K Q := by
  unfold Oper.wp execOp
  simp only [ho]
  go_simp
  exact hK
theorem st_58 {w : World} {a : Act} {K : Act → World → Prop} {Q : Exit → Act → World → Prop} {o : Oper} {x y : Operand} {g p : Nat} {ty : TypeId} {cs : Array Value} {c0 c1 : Value} (ho : o.op = .store 58 x y) (hx : a.eval x = .pointer (some ⟨g, p, none⟩)) (hy : a.eval y = .agg #[c0, c1]) (k0 : c0.oneCell' = true) (k1 : c1.oneCell' = true) (hB : Blk w g ty cs) (hp : p + 1 < cs.size) (hK : ∀ v, K (a.put o.dst v) ((w.setCell ⟨g, p, none⟩ c0).setCell ⟨g, p + 1, none⟩ c1)) : o.wp Try.prog a w K Q := by
  have h0 := (hB.cell (p)).trans (Array.getElem?_eq_getElem (by first | omega | (simp; omega)))
  have f0 := hB.frozen (p)
  have hB := hB.set_ (p) c0
  have h1 := (hB.cell (p + 1)).trans (Array.getElem?_eq_getElem (by first | omega | (simp; omega)))
  have f1 := hB.frozen (p + 1)
  have s0 := fun w a m => run_store Try.prog w a c0 m k0
  have s1 := fun w a m => run_store Try.prog w a c1 m k1
  clear hB
  unfold Oper.wp execOp
  simp only [ho, hx, hy]
  go_simp
  exact hK _
theorem build_121_0_1 {w : World} {a : Act} {K : Act → World → Prop} {Q : Exit → Act → World → Prop} {o : Oper} {x0 x1 : Operand} {c0 : Option Addr} {c1 : Option Addr} (ho : o.op = .build 121 #[(0, x0), (1, x1)]) (h0 : a.eval x0 = .pointer c0) (h1 : a.eval x1 = .pointer c1) (hK : K (a.put o.dst (.agg #[.pointer c0, .pointer c1])) w) : o.wp Try.prog a w K Q := by
  unfold Oper.wp execOp
  simp only [ho, List.map_toArray, List.map_cons, List.map_nil, h0, h1]
  go_simp
  exact hK
theorem row_122_1 {w : World} {a : Act} {K : Act → World → Prop} {Q : Exit → Act → World → Prop} {o : Oper} {x0 : Operand} {c0 c1 : Value} (ho : o.op = .buildSlice 122 1 #[(0, x0)]) (h0 : a.eval x0 = .agg #[c0, c1]) (hK : K (a.put o.dst (.slice (some ⟨w.heap.size, 0, none⟩) 1 1)) (w.alloc (.cells #[c0, c1] 121))) : o.wp Try.prog a w K Q := by
  unfold Oper.wp execOp
  simp only [ho, List.map_toArray, List.map_cons, List.map_nil, h0]
  go_simp
  exact hK
theorem len_122 {w : World} {a : Act} {K : Act → World → Prop} {Q : Exit → Act → World → Prop} {o : Oper} {x : Operand} {r : Option Addr} {n c : Nat} (ho : o.op = .call { callee := .builtin .len, args := #[x], argTypes := #[122] }) (hx : a.eval x = .slice r n c) (hK : K (a.put o.dst (.int .i64 n)) w) : o.wp Try.prog a w K Q := by
  unfold Oper.wp execOp
  simp only [ho, resolve, List.map_toArray, List.map_cons, List.map_nil, hx]
  go_simp
  exact hK
theorem gtr_3 {w : World} {a : Act} {K : Act → World → Prop} {Q : Exit → Act → World → Prop} {o : Oper} {x y : Operand} {m n : Int} (ho : o.op = .binOp .gtr 3 x y 3) (hx : a.eval x = .int .i64 m) (hy : a.eval y = .int .i64 n) (hK : K (a.put o.dst (.bool (decide (n < m)))) w) : o.wp Try.prog a w K Q := by
  unfold Oper.wp execOp
  simp only [ho, hx, hy]
  go_simp
  exact hK
theorem subb_3 {w : World} {a : Act} {K : Act → World → Prop} {Q : Exit → Act → World → Prop} {o : Oper} {x y : Operand} {m n r : Int} (ho : o.op = .binOp .sub 3 x y 3) (hx : a.eval x = .int .i64 m) (hy : a.eval y = .int .i64 n) (hr : IntKind.i64.wrap (m - n) = r) (hK : K (a.put o.dst (.int .i64 r)) w) : o.wp Try.prog a w K Q := by
  subst hr
  unfold Oper.wp execOp
  simp only [ho, hx, hy]
  go_simp
  exact hK
theorem ix_122 {w : World} {a : Act} {K : Act → World → Prop} {Q : Exit → Act → World → Prop} {o : Oper} {x y : Operand} {r : Option Addr} {b p n c k : Nat} (ho : o.op = .indexAddr 122 x y) (hx : a.eval x = .slice r n c) (hr : r = some ⟨b, p, none⟩) (hy : a.eval y = .int .i64 (k : Int)) (hk : k < n) (hK : K (a.put o.dst (.pointer (some ⟨b, p + k * 2, none⟩))) w) : o.wp Try.prog a w K Q := by
  subst hr
  have h0 : (0 : Int) ≤ (k : Int) := by omega
  have h1 : (k : Int) < (n : Int) := by omega
  unfold Oper.wp execOp
  simp only [ho, hx, hy]
  go_simp
  exact hK
theorem ld_121 {w : World} {a : Act} {K : Act → World → Prop} {Q : Exit → Act → World → Prop} {o : Oper} {x : Operand} {b p : Nat} {c0 c1 : Value} (ho : o.op = .load 121 x) (hx : a.eval x = .pointer (some ⟨b, p, none⟩)) (h0 : w.cell? ⟨b, p, none⟩ = some c0) (h1 : w.cell? ⟨b, p + 1, none⟩ = some c1) (hK : K (a.put o.dst (.agg #[c0, c1])) w) : o.wp Try.prog a w K Q := by
  unfold Oper.wp execOp
  simp only [ho, hx]
  go_simp
  exact hK
theorem alloc_121 {w : World} {a : Act} {K : Act → World → Prop} {Q : Exit → Act → World → Prop} {o : Oper} (ho : o.op = .alloc 121) (hK : K (a.put o.dst (.pointer (some ⟨w.heap.size, 0, none⟩))) (w.alloc (.cells #[.pointer none, .pointer none] 121))) : o.wp Try.prog a w K Q := by
  unfold Oper.wp execOp
  simp only [ho]
  go_simp
  exact hK
theorem st_121 {w : World} {a : Act} {K : Act → World → Prop} {Q : Exit → Act → World → Prop} {o : Oper} {x y : Operand} {g p : Nat} {ty : TypeId} {cs : Array Value} {c0 c1 : Value} (ho : o.op = .store 121 x y) (hx : a.eval x = .pointer (some ⟨g, p, none⟩)) (hy : a.eval y = .agg #[c0, c1]) (k0 : c0.oneCell' = true) (k1 : c1.oneCell' = true) (hB : Blk w g ty cs) (hp : p + 1 < cs.size) (hK : ∀ v, K (a.put o.dst v) ((w.setCell ⟨g, p, none⟩ c0).setCell ⟨g, p + 1, none⟩ c1)) : o.wp Try.prog a w K Q := by
  have h0 := (hB.cell (p)).trans (Array.getElem?_eq_getElem (by first | omega | (simp; omega)))
  have f0 := hB.frozen (p)
  have hB := hB.set_ (p) c0
  have h1 := (hB.cell (p + 1)).trans (Array.getElem?_eq_getElem (by first | omega | (simp; omega)))
  have f1 := hB.frozen (p + 1)
  have s0 := fun w a m => run_store Try.prog w a c0 m k0
  have s1 := fun w a m => run_store Try.prog w a c1 m k1
  clear hB
  unfold Oper.wp execOp
  simp only [ho, hx, hy]
  go_simp
  exact hK _
theorem shi_122 {w : World} {a : Act} {K : Act → World → Prop} {Q : Exit → Act → World → Prop} {o : Oper} {x hi : Operand} {r : Option Addr} {n c k : Nat} (ho : o.op = .slice 122 x none (some hi) none) (hx : a.eval x = .slice r n c) (hl : a.eval hi = .int .i64 (k : Int)) (hk : k ≤ c) (hK : K (a.put o.dst (.slice r k c)) w) : o.wp Try.prog a w K Q := by
  have h0 : (0 : Int) ≤ (k : Int) := by omega
  have h1 : (k : Int) ≤ (c : Int) := by omega
  unfold Oper.wp execOp
  simp only [ho, hx, hl, Option.map_some, Option.map_none]
  go_simp
  exact hK
theorem fld_121_0 {w : World} {a : Act} {K : Act → World → Prop} {Q : Exit → Act → World → Prop} {o : Oper} {x : Operand} {b p : Nat} (ho : o.op = .fieldAddr 121 x 0) (hx : a.eval x = .pointer (some ⟨b, p, none⟩)) (hK : K (a.put o.dst (.pointer (some ⟨b, p, none⟩))) w) : o.wp Try.prog a w K Q := by
  unfold Oper.wp execOp
  simp only [ho, hx]
  go_simp
  exact hK
theorem ld_103 {w : World} {a : Act} {K : Act → World → Prop} {Q : Exit → Act → World → Prop} {o : Oper} {x : Operand} {p : Addr} {v : Value} (ho : o.op = .load 103 x) (hx : a.eval x = .pointer (some p)) (hc : w.cell? p = some v) (hK : K (a.put o.dst (v)) w) : o.wp Try.prog a w K Q := by
  unfold Oper.wp execOp
  simp only [ho, hx]
  go_simp
  exact hK
theorem nilCheck_ {w : World} {a : Act} {K : Act → World → Prop} {Q : Exit → Act → World → Prop} {o : Oper} {x : Operand} {p : Addr} (ho : o.op = .nilCheck x) (hx : a.eval x = .pointer (some p)) (hK : K (a.put o.dst (.pointer (some p))) w) : o.wp Try.prog a w K Q := by
  unfold Oper.wp execOp
  simp only [ho, hx]
  go_simp
  exact hK
theorem fld_58_0 {w : World} {a : Act} {K : Act → World → Prop} {Q : Exit → Act → World → Prop} {o : Oper} {x : Operand} {b p : Nat} (ho : o.op = .fieldAddr 58 x 0) (hx : a.eval x = .pointer (some ⟨b, p, none⟩)) (hK : K (a.put o.dst (.pointer (some ⟨b, p, none⟩))) w) : o.wp Try.prog a w K Q := by
  unfold Oper.wp execOp
  simp only [ho, hx]
  go_simp
  exact hK
theorem ld_3 {w : World} {a : Act} {K : Act → World → Prop} {Q : Exit → Act → World → Prop} {o : Oper} {x : Operand} {p : Addr} {v : Value} (ho : o.op = .load 3 x) (hx : a.eval x = .pointer (some p)) (hc : w.cell? p = some v) (hK : K (a.put o.dst (v)) w) : o.wp Try.prog a w K Q := by
  unfold Oper.wp execOp
  simp only [ho, hx]
  go_simp
  exact hK
theorem lss_3 {w : World} {a : Act} {K : Act → World → Prop} {Q : Exit → Act → World → Prop} {o : Oper} {x y : Operand} {m n : Int} (ho : o.op = .binOp .lss 3 x y 3) (hx : a.eval x = .int .i64 m) (hy : a.eval y = .int .i64 n) (hK : K (a.put o.dst (.bool (decide (m < n)))) w) : o.wp Try.prog a w K Q := by
  unfold Oper.wp execOp
  simp only [ho, hx, hy]
  go_simp
  exact hK
theorem fld_89_0 {w : World} {a : Act} {K : Act → World → Prop} {Q : Exit → Act → World → Prop} {o : Oper} {x : Operand} {b p : Nat} (ho : o.op = .fieldAddr 89 x 0) (hx : a.eval x = .pointer (some ⟨b, p, none⟩)) (hK : K (a.put o.dst (.pointer (some ⟨b, p, none⟩))) w) : o.wp Try.prog a w K Q := by
  unfold Oper.wp execOp
  simp only [ho, hx]
  go_simp
  exact hK
theorem ld_87 {w : World} {a : Act} {K : Act → World → Prop} {Q : Exit → Act → World → Prop} {o : Oper} {x : Operand} {p : Addr} {v : Value} (ho : o.op = .load 87 x) (hx : a.eval x = .pointer (some p)) (hc : w.cell? p = some v) (hK : K (a.put o.dst (v)) w) : o.wp Try.prog a w K Q := by
  unfold Oper.wp execOp
  simp only [ho, hx]
  go_simp
  exact hK
theorem eqlp_103 {w : World} {a : Act} {K : Act → World → Prop} {Q : Exit → Act → World → Prop} {o : Oper} {x y : Operand} {p : Addr} (ho : o.op = .binOp .eql 103 x y 103) (hx : a.eval x = .pointer (some p)) (hy : a.eval y = .pointer none) (hK : K (a.put o.dst (.bool false)) w) : o.wp Try.prog a w K Q := by
  unfold Oper.wp execOp
  simp only [ho, hx, hy]
  go_simp
  exact hK
theorem eqln_103 {w : World} {a : Act} {K : Act → World → Prop} {Q : Exit → Act → World → Prop} {o : Oper} {x y : Operand} (ho : o.op = .binOp .eql 103 x y 103) (hx : a.eval x = .pointer none) (hy : a.eval y = .pointer none) (hK : K (a.put o.dst (.bool true)) w) : o.wp Try.prog a w K Q := by
  unfold Oper.wp execOp
  simp only [ho, hx, hy]
  go_simp
  exact hK
theorem fld_121_1 {w : World} {a : Act} {K : Act → World → Prop} {Q : Exit → Act → World → Prop} {o : Oper} {x : Operand} {b p : Nat} (ho : o.op = .fieldAddr 121 x 1) (hx : a.eval x = .pointer (some ⟨b, p, none⟩)) (hK : K (a.put o.dst (.pointer (some ⟨b, p + 1, none⟩))) w) : o.wp Try.prog a w K Q := by
  unfold Oper.wp execOp
  simp only [ho, hx]
  go_simp
  exact hK
theorem fld_89_1 {w : World} {a : Act} {K : Act → World → Prop} {Q : Exit → Act → World → Prop} {o : Oper} {x : Operand} {b p : Nat} (ho : o.op = .fieldAddr 89 x 1) (hx : a.eval x = .pointer (some ⟨b, p, none⟩)) (hK : K (a.put o.dst (.pointer (some ⟨b, p + 1, none⟩))) w) : o.wp Try.prog a w K Q := by
  unfold Oper.wp execOp
  simp only [ho, hx]
  go_simp
  exact hK
theorem ld_36 {w : World} {a : Act} {K : Act → World → Prop} {Q : Exit → Act → World → Prop} {o : Oper} {x : Operand} {p : Addr} {v : Value} (ho : o.op = .load 36 x) (hx : a.eval x = .pointer (some p)) (hc : w.cell? p = some v) (hK : K (a.put o.dst (v)) w) : o.wp Try.prog a w K Q := by
  unfold Oper.wp execOp
  simp only [ho, hx]
  go_simp
  exact hK
theorem row_36_1 {w : World} {a : Act} {K : Act → World → Prop} {Q : Exit → Act → World → Prop} {o : Oper} {x0 : Operand} {c0 : Int} (ho : o.op = .buildSlice 36 1 #[(0, x0)]) (h0 : a.eval x0 = .int .i64 c0) (hK : K (a.put o.dst (.slice (some ⟨w.heap.size, 0, none⟩) 1 1)) (w.alloc (.cells #[.int .i64 c0] 3))) : o.wp Try.prog a w K Q := by
  unfold Oper.wp execOp
  simp only [ho, List.map_toArray, List.map_cons, List.map_nil, h0]
  go_simp
  exact hK
theorem st_36 {w : World} {a : Act} {K : Act → World → Prop} {Q : Exit → Act → World → Prop} {o : Oper} {x y : Operand} {g p : Nat} {ty : TypeId} {cs : Array Value} {c0a : Option Addr} {c0n c0c : Nat} (ho : o.op = .store 36 x y) (hx : a.eval x = .pointer (some ⟨g, p, none⟩)) (hy : a.eval y = .slice c0a c0n c0c) (hB : Blk w g ty cs) (hp : p + 0 < cs.size) (hK : ∀ v, K (a.put o.dst v) (w.setCell ⟨g, p, none⟩ (.slice c0a c0n c0c))) : o.wp Try.prog a w K Q := by
  have h0 := (hB.cell (p)).trans (Array.getElem?_eq_getElem (by first | omega | (simp; omega)))
  have f0 := hB.frozen (p)
  clear hB
  unfold Oper.wp execOp
  simp only [ho, hx, hy]
  go_simp
  exact hK _
theorem neq_3 {w : World} {a : Act} {K : Act → World → Prop} {Q : Exit → Act → World → Prop} {o : Oper} {x y : Operand} {m n : Int} (ho : o.op = .binOp .neq 3 x y 3) (hx : a.eval x = .int .i64 m) (hy : a.eval y = .int .i64 n) (hK : K (a.put o.dst (.bool (m != n))) w) : o.wp Try.prog a w K Q := by
  unfold Oper.wp execOp
  simp only [ho, hx, hy]
  go_simp
  exact hK
theorem fld_58_1 {w : World} {a : Act} {K : Act → World → Prop} {Q : Exit → Act → World → Prop} {o : Oper} {x : Operand} {b p : Nat} (ho : o.op = .fieldAddr 58 x 1) (hx : a.eval x = .pointer (some ⟨b, p, none⟩)) (hK : K (a.put o.dst (.pointer (some ⟨b, p + 1, none⟩))) w) : o.wp Try.prog a w K Q := by
  unfold Oper.wp execOp
  simp only [ho, hx]
  go_simp
  exact hK
theorem ld_56 {w : World} {a : Act} {K : Act → World → Prop} {Q : Exit → Act → World → Prop} {o : Oper} {x : Operand} {p : Addr} {v : Value} (ho : o.op = .load 56 x) (hx : a.eval x = .pointer (some p)) (hc : w.cell? p = some v) (hK : K (a.put o.dst (v)) w) : o.wp Try.prog a w K Q := by
  unfold Oper.wp execOp
  simp only [ho, hx]
  go_simp
  exact hK
theorem len_56 {w : World} {a : Act} {K : Act → World → Prop} {Q : Exit → Act → World → Prop} {o : Oper} {x : Operand} {r : Option Addr} {n c : Nat} (ho : o.op = .call { callee := .builtin .len, args := #[x], argTypes := #[56] }) (hx : a.eval x = .slice r n c) (hK : K (a.put o.dst (.int .i64 n)) w) : o.wp Try.prog a w K Q := by
  unfold Oper.wp execOp
  simp only [ho, resolve, List.map_toArray, List.map_cons, List.map_nil, hx]
  go_simp
  exact hK
theorem geq_3 {w : World} {a : Act} {K : Act → World → Prop} {Q : Exit → Act → World → Prop} {o : Oper} {x y : Operand} {m n : Int} (ho : o.op = .binOp .geq 3 x y 3) (hx : a.eval x = .int .i64 m) (hy : a.eval y = .int .i64 n) (hK : K (a.put o.dst (.bool (decide (n ≤ m)))) w) : o.wp Try.prog a w K Q := by
  unfold Oper.wp execOp
  simp only [ho, hx, hy]
  go_simp
  exact hK
theorem ix_56 {w : World} {a : Act} {K : Act → World → Prop} {Q : Exit → Act → World → Prop} {o : Oper} {x y : Operand} {r : Option Addr} {b p n c k : Nat} (ho : o.op = .indexAddr 56 x y) (hx : a.eval x = .slice r n c) (hr : r = some ⟨b, p, none⟩) (hy : a.eval y = .int .i64 (k : Int)) (hk : k < n) (hK : K (a.put o.dst (.pointer (some ⟨b, p + k * 2, none⟩))) w) : o.wp Try.prog a w K Q := by
  subst hr
  have h0 : (0 : Int) ≤ (k : Int) := by omega
  have h1 : (k : Int) < (n : Int) := by omega
  unfold Oper.wp execOp
  simp only [ho, hx, hy]
  go_simp
  exact hK
theorem len_36 {w : World} {a : Act} {K : Act → World → Prop} {Q : Exit → Act → World → Prop} {o : Oper} {x : Operand} {r : Option Addr} {n c : Nat} (ho : o.op = .call { callee := .builtin .len, args := #[x], argTypes := #[36] }) (hx : a.eval x = .slice r n c) (hK : K (a.put o.dst (.int .i64 n)) w) : o.wp Try.prog a w K Q := by
  unfold Oper.wp execOp
  simp only [ho, resolve, List.map_toArray, List.map_cons, List.map_nil, hx]
  go_simp
  exact hK
theorem slo_36 {w : World} {a : Act} {K : Act → World → Prop} {Q : Exit → Act → World → Prop} {o : Oper} {x lo : Operand} {r : Option Addr} {n c k : Nat} (ho : o.op = .slice 36 x (some lo) none none) (hx : a.eval x = .slice r n c) (hl : a.eval lo = .int .i64 (k : Int)) (hk : k ≤ n) (hc : n ≤ c) (hK : K (a.put o.dst (.slice (slA r k 1 c) (n - k) (c - k))) w) : o.wp Try.prog a w K Q := by
  have h0 : (0 : Int) ≤ (k : Int) := by omega
  have h1 : (k : Int) ≤ (n : Int) := by omega
  unfold slA at hK
  simp only [Nat.mul_one] at hK
  unfold Oper.wp execOp
  simp only [ho, hx, hl, Option.map_some, Option.map_none]
  go_simp
  exact hK
theorem ix_36 {w : World} {a : Act} {K : Act → World → Prop} {Q : Exit → Act → World → Prop} {o : Oper} {x y : Operand} {r : Option Addr} {b p n c k : Nat} (ho : o.op = .indexAddr 36 x y) (hx : a.eval x = .slice r n c) (hr : r = some ⟨b, p, none⟩) (hy : a.eval y = .int .i64 (k : Int)) (hk : k < n) (hK : K (a.put o.dst (.pointer (some ⟨b, p + k, none⟩))) w) : o.wp Try.prog a w K Q := by
  subst hr
  have h0 : (0 : Int) ≤ (k : Int) := by omega
  have h1 : (k : Int) < (n : Int) := by omega
  unfold Oper.wp execOp
  simp only [ho, hx, hy]
  go_simp
  exact hK
theorem addb_3 {w : World} {a : Act} {K : Act → World → Prop} {Q : Exit → Act → World → Prop} {o : Oper} {x y : Operand} {m n r : Int} (ho : o.op = .binOp .add 3 x y 3) (hx : a.eval x = .int .i64 m) (hy : a.eval y = .int .i64 n) (hr : IntKind.i64.wrap (m + n) = r) (hK : K (a.put o.dst (.int .i64 r)) w) : o.wp Try.prog a w K Q := by
  subst hr
  unfold Oper.wp execOp
  simp only [ho, hx, hy]
  go_simp
  exact hK
theorem shi_36 {w : World} {a : Act} {K : Act → World → Prop} {Q : Exit → Act → World → Prop} {o : Oper} {x hi : Operand} {r : Option Addr} {n c k : Nat} (ho : o.op = .slice 36 x none (some hi) none) (hx : a.eval x = .slice r n c) (hl : a.eval hi = .int .i64 (k : Int)) (hk : k ≤ c) (hK : K (a.put o.dst (.slice r k c)) w) : o.wp Try.prog a w K Q := by
  have h0 : (0 : Int) ≤ (k : Int) := by omega
  have h1 : (k : Int) ≤ (c : Int) := by omega
  unfold Oper.wp execOp
  simp only [ho, hx, hl, Option.map_some, Option.map_none]
  go_simp
  exact hK
theorem box_60 {w : World} {a : Act} {K : Act → World → Prop} {Q : Exit → Act → World → Prop} {o : Oper} {x : Operand} {c0 c1 c2 c3 c4 : Value} (ho : o.op = .box 60 x) (hx : a.eval x = .agg #[c0, c1, c2, c3, c4]) (hK : K (a.put o.dst (.pointer (some ⟨w.heap.size, 0, none⟩))) (w.alloc (.cells #[c0, c1, c2, c3, c4] 60))) : o.wp Try.prog a w K Q := by
  unfold Oper.wp execOp
  simp only [ho, hx]
  go_simp
  exact hK
theorem neqp_78 {w : World} {a : Act} {K : Act → World → Prop} {Q : Exit → Act → World → Prop} {o : Oper} {x y : Operand} {p : Addr} (ho : o.op = .binOp .neq 78 x y 78) (hx : a.eval x = .pointer (some p)) (hy : a.eval y = .pointer none) (hK : K (a.put o.dst (.bool true)) w) : o.wp Try.prog a w K Q := by
  unfold Oper.wp execOp
  simp only [ho, hx, hy]
  go_simp
  exact hK
theorem ld_60 {w : World} {a : Act} {K : Act → World → Prop} {Q : Exit → Act → World → Prop} {o : Oper} {x : Operand} {b p : Nat} {c0 c1 c2 c3 c4 : Value} (ho : o.op = .load 60 x) (hx : a.eval x = .pointer (some ⟨b, p, none⟩)) (h0 : w.cell? ⟨b, p, none⟩ = some c0) (h1 : w.cell? ⟨b, p + 1, none⟩ = some c1) (h2 : w.cell? ⟨b, p + 2, none⟩ = some c2) (h3 : w.cell? ⟨b, p + 3, none⟩ = some c3) (h4 : w.cell? ⟨b, p + 4, none⟩ = some c4) (hK : K (a.put o.dst (.agg #[c0, c1, c2, c3, c4])) w) : o.wp Try.prog a w K Q := by
  unfold Oper.wp execOp
  simp only [ho, hx]
  go_simp
  exact hK
theorem fld_60_0 {w : World} {a : Act} {K : Act → World → Prop} {Q : Exit → Act → World → Prop} {o : Oper} {x : Operand} {b p : Nat} (ho : o.op = .fieldAddr 60 x 0) (hx : a.eval x = .pointer (some ⟨b, p, none⟩)) (hK : K (a.put o.dst (.pointer (some ⟨b, p, none⟩))) w) : o.wp Try.prog a w K Q := by
  unfold Oper.wp execOp
  simp only [ho, hx]
  go_simp
  exact hK
theorem ld_4 {w : World} {a : Act} {K : Act → World → Prop} {Q : Exit → Act → World → Prop} {o : Oper} {x : Operand} {p : Addr} {v : Value} (ho : o.op = .load 4 x) (hx : a.eval x = .pointer (some p)) (hc : w.cell? p = some v) (hK : K (a.put o.dst (v)) w) : o.wp Try.prog a w K Q := by
  unfold Oper.wp execOp
  simp only [ho, hx]
  go_simp
  exact hK
theorem neq_4 {w : World} {a : Act} {K : Act → World → Prop} {Q : Exit → Act → World → Prop} {o : Oper} {x y : Operand} {m n : Bool} (ho : o.op = .binOp .neq 4 x y 4) (hx : a.eval x = .bool m) (hy : a.eval y = .bool n) (hK : K (a.put o.dst (.bool (m != n))) w) : o.wp Try.prog a w K Q := by
  unfold Oper.wp execOp
  simp only [ho, hx, hy]
  go_simp
  exact hK
theorem fld_60_2 {w : World} {a : Act} {K : Act → World → Prop} {Q : Exit → Act → World → Prop} {o : Oper} {x : Operand} {b p : Nat} (ho : o.op = .fieldAddr 60 x 2) (hx : a.eval x = .pointer (some ⟨b, p, none⟩)) (hK : K (a.put o.dst (.pointer (some ⟨b, p + 3, none⟩))) w) : o.wp Try.prog a w K Q := by
  unfold Oper.wp execOp
  simp only [ho, hx]
  go_simp
  exact hK
theorem fld_60_1 {w : World} {a : Act} {K : Act → World → Prop} {Q : Exit → Act → World → Prop} {o : Oper} {x : Operand} {b p : Nat} (ho : o.op = .fieldAddr 60 x 1) (hx : a.eval x = .pointer (some ⟨b, p, none⟩)) (hK : K (a.put o.dst (.pointer (some ⟨b, p + 1, none⟩))) w) : o.wp Try.prog a w K Q := by
  unfold Oper.wp execOp
  simp only [ho, hx]
  go_simp
  exact hK
theorem build_89_0 {w : World} {a : Act} {K : Act → World → Prop} {Q : Exit → Act → World → Prop} {o : Oper} {x0 : Operand} {c0 : Option Nat} (ho : o.op = .build 89 #[(0, x0)]) (h0 : a.eval x0 = .map c0) (hK : K (a.put o.dst (.agg #[.map c0, .slice none 0 0])) w) : o.wp Try.prog a w K Q := by
  unfold Oper.wp execOp
  simp only [ho, List.map_toArray, List.map_cons, List.map_nil, h0]
  go_simp
  exact hK
theorem box_89 {w : World} {a : Act} {K : Act → World → Prop} {Q : Exit → Act → World → Prop} {o : Oper} {x : Operand} {c0 c1 : Value} (ho : o.op = .box 89 x) (hx : a.eval x = .agg #[c0, c1]) (hK : K (a.put o.dst (.pointer (some ⟨w.heap.size, 0, none⟩))) (w.alloc (.cells #[c0, c1] 89))) : o.wp Try.prog a w K Q := by
  unfold Oper.wp execOp
  simp only [ho, hx]
  go_simp
  exact hK
theorem eql_3 {w : World} {a : Act} {K : Act → World → Prop} {Q : Exit → Act → World → Prop} {o : Oper} {x y : Operand} {m n : Int} (ho : o.op = .binOp .eql 3 x y 3) (hx : a.eval x = .int .i64 m) (hy : a.eval y = .int .i64 n) (hK : K (a.put o.dst (.bool (m == n))) w) : o.wp Try.prog a w K Q := by
  unfold Oper.wp execOp
  simp only [ho, hx, hy]
  go_simp
  exact hK
theorem build_58_0 {w : World} {a : Act} {K : Act → World → Prop} {Q : Exit → Act → World → Prop} {o : Oper} {x0 : Operand} {c0 : Int} (ho : o.op = .build 58 #[(0, x0)]) (h0 : a.eval x0 = .int .i64 c0) (hK : K (a.put o.dst (.agg #[.int .i64 c0, .slice none 0 0])) w) : o.wp Try.prog a w K Q := by
  unfold Oper.wp execOp
  simp only [ho, List.map_toArray, List.map_cons, List.map_nil, h0]
  go_simp
  exact hK
theorem st_56 {w : World} {a : Act} {K : Act → World → Prop} {Q : Exit → Act → World → Prop} {o : Oper} {x y : Operand} {g p : Nat} {ty : TypeId} {cs : Array Value} {c0a : Option Addr} {c0n c0c : Nat} (ho : o.op = .store 56 x y) (hx : a.eval x = .pointer (some ⟨g, p, none⟩)) (hy : a.eval y = .slice c0a c0n c0c) (hB : Blk w g ty cs) (hp : p + 0 < cs.size) (hK : ∀ v, K (a.put o.dst v) (w.setCell ⟨g, p, none⟩ (.slice c0a c0n c0c))) : o.wp Try.prog a w K Q := by
  have h0 := (hB.cell (p)).trans (Array.getElem?_eq_getElem (by first | omega | (simp; omega)))
  have f0 := hB.frozen (p)
  clear hB
  unfold Oper.wp execOp
  simp only [ho, hx, hy]
  go_simp
  exact hK _
theorem box_3 {w : World} {a : Act} {K : Act → World → Prop} {Q : Exit → Act → World → Prop} {o : Oper} {x : Operand} {c0 : Int} (ho : o.op = .box 3 x) (hx : a.eval x = .int .i64 c0) (hK : K (a.put o.dst (.pointer (some ⟨w.heap.size, 0, none⟩))) (w.alloc (.cells #[.int .i64 c0] 3))) : o.wp Try.prog a w K Q := by
  unfold Oper.wp execOp
  simp only [ho, hx]
  go_simp
  exact hK
theorem alloc_3 {w : World} {a : Act} {K : Act → World → Prop} {Q : Exit → Act → World → Prop} {o : Oper} (ho : o.op = .alloc 3) (hK : K (a.put o.dst (.pointer (some ⟨w.heap.size, 0, none⟩))) (w.alloc (.cells #[.int .i64 0] 3))) : o.wp Try.prog a w K Q := by
  unfold Oper.wp execOp
  simp only [ho]
  go_simp
  exact hK
theorem st_3 {w : World} {a : Act} {K : Act → World → Prop} {Q : Exit → Act → World → Prop} {o : Oper} {x y : Operand} {g p : Nat} {ty : TypeId} {cs : Array Value} {c0 : Int} (ho : o.op = .store 3 x y) (hx : a.eval x = .pointer (some ⟨g, p, none⟩)) (hy : a.eval y = .int .i64 c0) (hB : Blk w g ty cs) (hp : p + 0 < cs.size) (hK : ∀ v, K (a.put o.dst v) (w.setCell ⟨g, p, none⟩ (.int .i64 c0))) : o.wp Try.prog a w K Q := by
  have h0 := (hB.cell (p)).trans (Array.getElem?_eq_getElem (by first | omega | (simp; omega)))
  have f0 := hB.frozen (p)
  clear hB
  unfold Oper.wp execOp
  simp only [ho, hx, hy]
  go_simp
  exact hK _
theorem alloc_102 {w : World} {a : Act} {K : Act → World → Prop} {Q : Exit → Act → World → Prop} {o : Oper} (ho : o.op = .alloc 102) (hK : K (a.put o.dst (.pointer (some ⟨w.heap.size, 0, none⟩))) (w.alloc (.cells #[.nilFunc] 102))) : o.wp Try.prog a w K Q := by
  unfold Oper.wp execOp
  simp only [ho]
  go_simp
  exact hK
theorem st_102 {w : World} {a : Act} {K : Act → World → Prop} {Q : Exit → Act → World → Prop} {o : Oper} {x y : Operand} {g p : Nat} {ty : TypeId} {cs : Array Value} {c0f : Fn} {c0x c0y : Array Value} (ho : o.op = .store 102 x y) (hx : a.eval x = .pointer (some ⟨g, p, none⟩)) (hy : a.eval y = .func c0f c0x c0y) (hB : Blk w g ty cs) (hp : p + 0 < cs.size) (hK : ∀ v, K (a.put o.dst v) (w.setCell ⟨g, p, none⟩ (.func c0f c0x c0y))) : o.wp Try.prog a w K Q := by
  have h0 := (hB.cell (p)).trans (Array.getElem?_eq_getElem (by first | omega | (simp; omega)))
  have f0 := hB.frozen (p)
  have s0 := fun w a m => run_store Try.prog w a (.func c0f c0x c0y) m rfl
  clear hB
  unfold Oper.wp execOp
  simp only [ho, hx, hy]
  go_simp
  exact hK _
theorem ld_102 {w : World} {a : Act} {K : Act → World → Prop} {Q : Exit → Act → World → Prop} {o : Oper} {x : Operand} {p : Addr} {v : Value} (ho : o.op = .load 102 x) (hx : a.eval x = .pointer (some p)) (hc : w.cell? p = some v) (hK : K (a.put o.dst (v)) w) : o.wp Try.prog a w K Q := by
  unfold Oper.wp execOp
  simp only [ho, hx]
  go_simp
  exact hK
theorem negb_3 {w : World} {a : Act} {K : Act → World → Prop} {Q : Exit → Act → World → Prop} {o : Oper} {x : Operand} {m r : Int} (ho : o.op = .unOp .neg 3 x) (hx : a.eval x = .int .i64 m) (hr : IntKind.i64.wrap (-m) = r) (hK : K (a.put o.dst (.int .i64 r)) w) : o.wp Try.prog a w K Q := by
  subst hr
  unfold Oper.wp execOp
  simp only [ho, hx]
  go_simp
  exact hK
theorem len_86 {w : World} {a : Act} {K : Act → World → Prop} {Q : Exit → Act → World → Prop} {o : Oper} {x : Operand} {r : Option Addr} {n c : Nat} (ho : o.op = .call { callee := .builtin .len, args := #[x], argTypes := #[86] }) (hx : a.eval x = .slice r n c) (hK : K (a.put o.dst (.int .i64 n)) w) : o.wp Try.prog a w K Q := by
  unfold Oper.wp execOp
  simp only [ho, resolve, List.map_toArray, List.map_cons, List.map_nil, hx]
  go_simp
  exact hK
theorem leq_3 {w : World} {a : Act} {K : Act → World → Prop} {Q : Exit → Act → World → Prop} {o : Oper} {x y : Operand} {m n : Int} (ho : o.op = .binOp .leq 3 x y 3) (hx : a.eval x = .int .i64 m) (hy : a.eval y = .int .i64 n) (hK : K (a.put o.dst (.bool (decide (m ≤ n)))) w) : o.wp Try.prog a w K Q := by
  unfold Oper.wp execOp
  simp only [ho, hx, hy]
  go_simp
  exact hK
theorem ix_86 {w : World} {a : Act} {K : Act → World → Prop} {Q : Exit → Act → World → Prop} {o : Oper} {x y : Operand} {r : Option Addr} {b p n c k : Nat} (ho : o.op = .indexAddr 86 x y) (hx : a.eval x = .slice r n c) (hr : r = some ⟨b, p, none⟩) (hy : a.eval y = .int .i64 (k : Int)) (hk : k < n) (hK : K (a.put o.dst (.pointer (some ⟨b, p + k * 5, none⟩))) w) : o.wp Try.prog a w K Q := by
  subst hr
  have h0 : (0 : Int) ≤ (k : Int) := by omega
  have h1 : (k : Int) < (n : Int) := by omega
  unfold Oper.wp execOp
  simp only [ho, hx, hy]
  go_simp
  exact hK
theorem eql_4 {w : World} {a : Act} {K : Act → World → Prop} {Q : Exit → Act → World → Prop} {o : Oper} {x y : Operand} {m n : Bool} (ho : o.op = .binOp .eql 4 x y 4) (hx : a.eval x = .bool m) (hy : a.eval y = .bool n) (hK : K (a.put o.dst (.bool (m == n))) w) : o.wp Try.prog a w K Q := by
  unfold Oper.wp execOp
  simp only [ho, hx, hy]
  go_simp
  exact hK
theorem alloc_60 {w : World} {a : Act} {K : Act → World → Prop} {Q : Exit → Act → World → Prop} {o : Oper} (ho : o.op = .alloc 60) (hK : K (a.put o.dst (.pointer (some ⟨w.heap.size, 0, none⟩))) (w.alloc (.cells #[.bool false, .int .i64 0, .slice none 0 0, .int .i64 0, .slice none 0 0] 60))) : o.wp Try.prog a w K Q := by
  unfold Oper.wp execOp
  simp only [ho]
  go_simp
  exact hK
theorem build_60_0_1_2 {w : World} {a : Act} {K : Act → World → Prop} {Q : Exit → Act → World → Prop} {o : Oper} {x0 x1 x2 : Operand} {c0 : Bool} {c1 c2 : Value} {c3 c4 : Value} (ho : o.op = .build 60 #[(0, x0), (1, x1), (2, x2)]) (h0 : a.eval x0 = .bool c0) (h1 : a.eval x1 = .agg #[c1, c2]) (h2 : a.eval x2 = .agg #[c3, c4]) (hK : K (a.put o.dst (.agg #[.bool c0, c1, c2, c3, c4])) w) : o.wp Try.prog a w K Q := by
  unfold Oper.wp execOp
  simp only [ho, List.map_toArray, List.map_cons, List.map_nil, h0, h1, h2]
  go_simp
  exact hK
theorem st_60 {w : World} {a : Act} {K : Act → World → Prop} {Q : Exit → Act → World → Prop} {o : Oper} {x y : Operand} {g p : Nat} {ty : TypeId} {cs : Array Value} {c0 c1 c2 c3 c4 : Value} (ho : o.op = .store 60 x y) (hx : a.eval x = .pointer (some ⟨g, p, none⟩)) (hy : a.eval y = .agg #[c0, c1, c2, c3, c4]) (k0 : c0.oneCell' = true) (k1 : c1.oneCell' = true) (k2 : c2.oneCell' = true) (k3 : c3.oneCell' = true) (k4 : c4.oneCell' = true) (hB : Blk w g ty cs) (hp : p + 4 < cs.size) (hK : ∀ v, K (a.put o.dst v) (((((w.setCell ⟨g, p, none⟩ c0).setCell ⟨g, p + 1, none⟩ c1).setCell ⟨g, p + 2, none⟩ c2).setCell ⟨g, p + 3, none⟩ c3).setCell ⟨g, p + 4, none⟩ c4)) : o.wp Try.prog a w K Q := by
  have h0 := (hB.cell (p)).trans (Array.getElem?_eq_getElem (by first | omega | (simp; omega)))
  have f0 := hB.frozen (p)
  have hB := hB.set_ (p) c0
  have h1 := (hB.cell (p + 1)).trans (Array.getElem?_eq_getElem (by first | omega | (simp; omega)))
  have f1 := hB.frozen (p + 1)
  have hB := hB.set_ (p + 1) c1
  have h2 := (hB.cell (p + 2)).trans (Array.getElem?_eq_getElem (by first | omega | (simp; omega)))
  have f2 := hB.frozen (p + 2)
  have hB := hB.set_ (p + 2) c2
  have h3 := (hB.cell (p + 3)).trans (Array.getElem?_eq_getElem (by first | omega | (simp; omega)))
  have f3 := hB.frozen (p + 3)
  have hB := hB.set_ (p + 3) c3
  have h4 := (hB.cell (p + 4)).trans (Array.getElem?_eq_getElem (by first | omega | (simp; omega)))
  have f4 := hB.frozen (p + 4)
  have s0 := fun w a m => run_store Try.prog w a c0 m k0
  have s1 := fun w a m => run_store Try.prog w a c1 m k1
  have s2 := fun w a m => run_store Try.prog w a c2 m k2
  have s3 := fun w a m => run_store Try.prog w a c3 m k3
  have s4 := fun w a m => run_store Try.prog w a c4 m k4
  clear hB
  unfold Oper.wp execOp
  simp only [ho, hx, hy]
  go_simp
  exact hK _
theorem len_29 {w : World} {a : Act} {K : Act → World → Prop} {Q : Exit → Act → World → Prop} {o : Oper} {x : Operand} {r : Option Addr} {n c : Nat} (ho : o.op = .call { callee := .builtin .len, args := #[x], argTypes := #[29] }) (hx : a.eval x = .slice r n c) (hK : K (a.put o.dst (.int .i64 n)) w) : o.wp Try.prog a w K Q := by
  unfold Oper.wp execOp
  simp only [ho, resolve, List.map_toArray, List.map_cons, List.map_nil, hx]
  go_simp
  exact hK
theorem ix_29 {w : World} {a : Act} {K : Act → World → Prop} {Q : Exit → Act → World → Prop} {o : Oper} {x y : Operand} {r : Option Addr} {b p n c k : Nat} (ho : o.op = .indexAddr 29 x y) (hx : a.eval x = .slice r n c) (hr : r = some ⟨b, p, none⟩) (hy : a.eval y = .int .i64 (k : Int)) (hk : k < n) (hK : K (a.put o.dst (.pointer (some ⟨b, p + k * 5, none⟩))) w) : o.wp Try.prog a w K Q := by
  subst hr
  have h0 : (0 : Int) ≤ (k : Int) := by omega
  have h1 : (k : Int) < (n : Int) := by omega
  unfold Oper.wp execOp
  simp only [ho, hx, hy]
  go_simp
  exact hK
theorem row_29_1 {w : World} {a : Act} {K : Act → World → Prop} {Q : Exit → Act → World → Prop} {o : Oper} {x0 : Operand} {c0 c1 c2 c3 c4 : Value} (ho : o.op = .buildSlice 29 1 #[(0, x0)]) (h0 : a.eval x0 = .agg #[c0, c1, c2, c3, c4]) (hK : K (a.put o.dst (.slice (some ⟨w.heap.size, 0, none⟩) 1 1)) (w.alloc (.cells #[c0, c1, c2, c3, c4] 60))) : o.wp Try.prog a w K Q := by
  unfold Oper.wp execOp
  simp only [ho, List.map_toArray, List.map_cons, List.map_nil, h0]
  go_simp
  exact hK
theorem st_4 {w : World} {a : Act} {K : Act → World → Prop} {Q : Exit → Act → World → Prop} {o : Oper} {x y : Operand} {g p : Nat} {ty : TypeId} {cs : Array Value} {c0 : Bool} (ho : o.op = .store 4 x y) (hx : a.eval x = .pointer (some ⟨g, p, none⟩)) (hy : a.eval y = .bool c0) (hB : Blk w g ty cs) (hp : p + 0 < cs.size) (hK : ∀ v, K (a.put o.dst v) (w.setCell ⟨g, p, none⟩ (.bool c0))) : o.wp Try.prog a w K Q := by
  have h0 := (hB.cell (p)).trans (Array.getElem?_eq_getElem (by first | omega | (simp; omega)))
  have f0 := hB.frozen (p)
  clear hB
  unfold Oper.wp execOp
  simp only [ho, hx, hy]
  go_simp
  exact hK _
theorem shm_29 {w : World} {a : Act} {K : Act → World → Prop} {Q : Exit → Act → World → Prop} {o : Oper} {x hi mx : Operand} {r : Option Addr} {n c k m : Nat} (ho : o.op = .slice 29 x none (some hi) (some mx)) (hx : a.eval x = .slice r n c) (hl : a.eval hi = .int .i64 (k : Int)) (hm : a.eval mx = .int .i64 (m : Int)) (hk : k ≤ m) (hc : m ≤ c) (hK : K (a.put o.dst (.slice r k m)) w) : o.wp Try.prog a w K Q := by
  have h0 : (0 : Int) ≤ (k : Int) := by omega
  have h1 : (k : Int) ≤ (m : Int) := by omega
  have h2 : (m : Int) ≤ (c : Int) := by omega
  have h3 : (0 : Int) ≤ (m : Int) := by omega
  unfold Oper.wp execOp
  simp only [ho, hx, hl, hm, Option.map_some, Option.map_none]
  go_simp
  exact hK
theorem slo_29 {w : World} {a : Act} {K : Act → World → Prop} {Q : Exit → Act → World → Prop} {o : Oper} {x lo : Operand} {r : Option Addr} {n c k : Nat} (ho : o.op = .slice 29 x (some lo) none none) (hx : a.eval x = .slice r n c) (hl : a.eval lo = .int .i64 (k : Int)) (hk : k ≤ n) (hc : n ≤ c) (hK : K (a.put o.dst (.slice (slA r k 5 c) (n - k) (c - k))) w) : o.wp Try.prog a w K Q := by
  have h0 : (0 : Int) ≤ (k : Int) := by omega
  have h1 : (k : Int) ≤ (n : Int) := by omega
  unfold slA at hK
  unfold Oper.wp execOp
  simp only [ho, hx, hl, Option.map_some, Option.map_none]
  go_simp
  exact hK
theorem shi_29 {w : World} {a : Act} {K : Act → World → Prop} {Q : Exit → Act → World → Prop} {o : Oper} {x hi : Operand} {r : Option Addr} {n c k : Nat} (ho : o.op = .slice 29 x none (some hi) none) (hx : a.eval x = .slice r n c) (hl : a.eval hi = .int .i64 (k : Int)) (hk : k ≤ c) (hK : K (a.put o.dst (.slice r k c)) w) : o.wp Try.prog a w K Q := by
  have h0 : (0 : Int) ≤ (k : Int) := by omega
  have h1 : (k : Int) ≤ (c : Int) := by omega
  unfold Oper.wp execOp
  simp only [ho, hx, hl, Option.map_some, Option.map_none]
  go_simp
  exact hK
theorem alloc_40 {w : World} {a : Act} {K : Act → World → Prop} {Q : Exit → Act → World → Prop} {o : Oper} (ho : o.op = .alloc 40) (hK : K (a.put o.dst (.pointer (some ⟨w.heap.size, 0, none⟩))) (w.alloc (.cells #[.int .i64 0, .slice none 0 0, .slice none 0 0, .slice none 0 0, .slice none 0 0, .slice none 0 0] 40))) : o.wp Try.prog a w K Q := by
  unfold Oper.wp execOp
  simp only [ho]
  go_simp
  exact hK
theorem build_40_ {w : World} {a : Act} {K : Act → World → Prop} {Q : Exit → Act → World → Prop} {o : Oper}   (ho : o.op = .build 40 #[])  (hK : K (a.put o.dst (.agg #[.int .i64 0, .slice none 0 0, .slice none 0 0, .slice none 0 0, .slice none 0 0, .slice none 0 0])) w) : o.wp Try.prog a w K Q := by
  unfold Oper.wp execOp
  simp only [ho, List.map_toArray, List.map_cons, List.map_nil, ]
  go_simp
  exact hK
theorem st_40 {w : World} {a : Act} {K : Act → World → Prop} {Q : Exit → Act → World → Prop} {o : Oper} {x y : Operand} {g p : Nat} {ty : TypeId} {cs : Array Value} {c0 c1 c2 c3 c4 c5 : Value} (ho : o.op = .store 40 x y) (hx : a.eval x = .pointer (some ⟨g, p, none⟩)) (hy : a.eval y = .agg #[c0, c1, c2, c3, c4, c5]) (k0 : c0.oneCell' = true) (k1 : c1.oneCell' = true) (k2 : c2.oneCell' = true) (k3 : c3.oneCell' = true) (k4 : c4.oneCell' = true) (k5 : c5.oneCell' = true) (hB : Blk w g ty cs) (hp : p + 5 < cs.size) (hK : ∀ v, K (a.put o.dst v) ((((((w.setCell ⟨g, p, none⟩ c0).setCell ⟨g, p + 1, none⟩ c1).setCell ⟨g, p + 2, none⟩ c2).setCell ⟨g, p + 3, none⟩ c3).setCell ⟨g, p + 4, none⟩ c4).setCell ⟨g, p + 5, none⟩ c5)) : o.wp Try.prog a w K Q := by
  have h0 := (hB.cell (p)).trans (Array.getElem?_eq_getElem (by first | omega | (simp; omega)))
  have f0 := hB.frozen (p)
  have hB := hB.set_ (p) c0
  have h1 := (hB.cell (p + 1)).trans (Array.getElem?_eq_getElem (by first | omega | (simp; omega)))
  have f1 := hB.frozen (p + 1)
  have hB := hB.set_ (p + 1) c1
  have h2 := (hB.cell (p + 2)).trans (Array.getElem?_eq_getElem (by first | omega | (simp; omega)))
  have f2 := hB.frozen (p + 2)
  have hB := hB.set_ (p + 2) c2
  have h3 := (hB.cell (p + 3)).trans (Array.getElem?_eq_getElem (by first | omega | (simp; omega)))
  have f3 := hB.frozen (p + 3)
  have hB := hB.set_ (p + 3) c3
  have h4 := (hB.cell (p + 4)).trans (Array.getElem?_eq_getElem (by first | omega | (simp; omega)))
  have f4 := hB.frozen (p + 4)
  have hB := hB.set_ (p + 4) c4
  have h5 := (hB.cell (p + 5)).trans (Array.getElem?_eq_getElem (by first | omega | (simp; omega)))
  have f5 := hB.frozen (p + 5)
  have s0 := fun w a m => run_store Try.prog w a c0 m k0
  have s1 := fun w a m => run_store Try.prog w a c1 m k1
  have s2 := fun w a m => run_store Try.prog w a c2 m k2
  have s3 := fun w a m => run_store Try.prog w a c3 m k3
  have s4 := fun w a m => run_store Try.prog w a c4 m k4
  have s5 := fun w a m => run_store Try.prog w a c5 m k5
  clear hB
  unfold Oper.wp execOp
  simp only [ho, hx, hy]
  go_simp
  exact hK _
theorem eql_35 {w : World} {a : Act} {K : Act → World → Prop} {Q : Exit → Act → World → Prop} {o : Oper} {x y : Operand} {m n : Int} (ho : o.op = .binOp .eql 35 x y 35) (hx : a.eval x = .int .i64 m) (hy : a.eval y = .int .i64 n) (hK : K (a.put o.dst (.bool (m == n))) w) : o.wp Try.prog a w K Q := by
  unfold Oper.wp execOp
  simp only [ho, hx, hy]
  go_simp
  exact hK
theorem neq_35 {w : World} {a : Act} {K : Act → World → Prop} {Q : Exit → Act → World → Prop} {o : Oper} {x y : Operand} {m n : Int} (ho : o.op = .binOp .neq 35 x y 35) (hx : a.eval x = .int .i64 m) (hy : a.eval y = .int .i64 n) (hK : K (a.put o.dst (.bool (m != n))) w) : o.wp Try.prog a w K Q := by
  unfold Oper.wp execOp
  simp only [ho, hx, hy]
  go_simp
  exact hK
theorem build_40_0_1_2_5 {w : World} {a : Act} {K : Act → World → Prop} {Q : Exit → Act → World → Prop} {o : Oper} {x0 x1 x2 x3 : Operand} {c0 : Int} {c1a : Option Addr} {c1n c1c : Nat} {c2a : Option Addr} {c2n c2c : Nat} {c5a : Option Addr} {c5n c5c : Nat} (ho : o.op = .build 40 #[(0, x0), (1, x1), (2, x2), (5, x3)]) (h0 : a.eval x0 = .int .i64 c0) (h1 : a.eval x1 = .slice c1a c1n c1c) (h2 : a.eval x2 = .slice c2a c2n c2c) (h3 : a.eval x3 = .slice c5a c5n c5c) (hK : K (a.put o.dst (.agg #[.int .i64 c0, .slice c1a c1n c1c, .slice c2a c2n c2c, .slice none 0 0, .slice none 0 0, .slice c5a c5n c5c])) w) : o.wp Try.prog a w K Q := by
  unfold Oper.wp execOp
  simp only [ho, List.map_toArray, List.map_cons, List.map_nil, h0, h1, h2, h3]
  go_simp
  exact hK
theorem build_76_0_1 {w : World} {a : Act} {K : Act → World → Prop} {Q : Exit → Act → World → Prop} {o : Oper} {x0 x1 : Operand} {c0 : Bool} {c1 : Bool} (ho : o.op = .build 76 #[(0, x0), (1, x1)]) (h0 : a.eval x0 = .bool c0) (h1 : a.eval x1 = .bool c1) (hK : K (a.put o.dst (.agg #[.bool c0, .bool c1])) w) : o.wp Try.prog a w K Q := by
  unfold Oper.wp execOp
  simp only [ho, List.map_toArray, List.map_cons, List.map_nil, h0, h1]
  go_simp
  exact hK
theorem aix_76 {w : World} {a : Act} {K : Act → World → Prop} {Q : Exit → Act → World → Prop} {o : Oper} {x y : Operand} {b0 b1 : Bool} {k : Nat} (ho : o.op = .index 76 x y) (hx : a.eval x = .agg #[.bool b0, .bool b1]) (hy : a.eval y = .int .i64 (k : Int)) (hk : k < 2) (hK : K (a.put o.dst (.bool (bif decide (k = 0) then b0 else b1))) w) : o.wp Try.prog a w K Q := by
  obtain rfl | rfl : k = 0 ∨ k = 1 := by omega
  · skip
    unfold Oper.wp execOp
    simp only [ho, hx, hy]
    go_simp
    exact hK
  unfold Oper.wp execOp
  simp only [ho, hx, hy]
  go_simp
  exact hK
theorem build_81_0_1_2_3 {w : World} {a : Act} {K : Act → World → Prop} {Q : Exit → Act → World → Prop} {o : Oper} {x0 x1 x2 x3 : Operand} {c0a : Option Addr} {c0n c0c : Nat} {c1a : Option Addr} {c1n c1c : Nat} {c2a : Option Addr} {c2n c2c : Nat} {c3 : Option Addr} (ho : o.op = .build 81 #[(0, x0), (1, x1), (2, x2), (3, x3)]) (h0 : a.eval x0 = .slice c0a c0n c0c) (h1 : a.eval x1 = .slice c1a c1n c1c) (h2 : a.eval x2 = .slice c2a c2n c2c) (h3 : a.eval x3 = .pointer c3) (hK : K (a.put o.dst (.agg #[.slice c0a c0n c0c, .slice c1a c1n c1c, .slice c2a c2n c2c, .pointer c3, .int .i64 0])) w) : o.wp Try.prog a w K Q := by
  unfold Oper.wp execOp
  simp only [ho, List.map_toArray, List.map_cons, List.map_nil, h0, h1, h2, h3]
  go_simp
  exact hK
theorem box_81 {w : World} {a : Act} {K : Act → World → Prop} {Q : Exit → Act → World → Prop} {o : Oper} {x : Operand} {c0 c1 c2 c3 c4 : Value} (ho : o.op = .box 81 x) (hx : a.eval x = .agg #[c0, c1, c2, c3, c4]) (hK : K (a.put o.dst (.pointer (some ⟨w.heap.size, 0, none⟩))) (w.alloc (.cells #[c0, c1, c2, c3, c4] 81))) : o.wp Try.prog a w K Q := by
  unfold Oper.wp execOp
  simp only [ho, hx]
  go_simp
  exact hK
theorem fld_81_2 {w : World} {a : Act} {K : Act → World → Prop} {Q : Exit → Act → World → Prop} {o : Oper} {x : Operand} {b p : Nat} (ho : o.op = .fieldAddr 81 x 2) (hx : a.eval x = .pointer (some ⟨b, p, none⟩)) (hK : K (a.put o.dst (.pointer (some ⟨b, p + 2, none⟩))) w) : o.wp Try.prog a w K Q := by
  unfold Oper.wp execOp
  simp only [ho, hx]
  go_simp
  exact hK
theorem ld_37 {w : World} {a : Act} {K : Act → World → Prop} {Q : Exit → Act → World → Prop} {o : Oper} {x : Operand} {p : Addr} {v : Value} (ho : o.op = .load 37 x) (hx : a.eval x = .pointer (some p)) (hc : w.cell? p = some v) (hK : K (a.put o.dst (v)) w) : o.wp Try.prog a w K Q := by
  unfold Oper.wp execOp
  simp only [ho, hx]
  go_simp
  exact hK
theorem ix_37 {w : World} {a : Act} {K : Act → World → Prop} {Q : Exit → Act → World → Prop} {o : Oper} {x y : Operand} {r : Option Addr} {b p n c k : Nat} (ho : o.op = .indexAddr 37 x y) (hx : a.eval x = .slice r n c) (hr : r = some ⟨b, p, none⟩) (hy : a.eval y = .int .i64 (k : Int)) (hk : k < n) (hK : K (a.put o.dst (.pointer (some ⟨b, p + k, none⟩))) w) : o.wp Try.prog a w K Q := by
  subst hr
  have h0 : (0 : Int) ≤ (k : Int) := by omega
  have h1 : (k : Int) < (n : Int) := by omega
  unfold Oper.wp execOp
  simp only [ho, hx, hy]
  go_simp
  exact hK
theorem fld_81_3 {w : World} {a : Act} {K : Act → World → Prop} {Q : Exit → Act → World → Prop} {o : Oper} {x : Operand} {b p : Nat} (ho : o.op = .fieldAddr 81 x 3) (hx : a.eval x = .pointer (some ⟨b, p, none⟩)) (hK : K (a.put o.dst (.pointer (some ⟨b, p + 3, none⟩))) w) : o.wp Try.prog a w K Q := by
  unfold Oper.wp execOp
  simp only [ho, hx]
  go_simp
  exact hK
theorem ld_78 {w : World} {a : Act} {K : Act → World → Prop} {Q : Exit → Act → World → Prop} {o : Oper} {x : Operand} {p : Addr} {v : Value} (ho : o.op = .load 78 x) (hx : a.eval x = .pointer (some p)) (hc : w.cell? p = some v) (hK : K (a.put o.dst (v)) w) : o.wp Try.prog a w K Q := by
  unfold Oper.wp execOp
  simp only [ho, hx]
  go_simp
  exact hK
theorem row_36_2 {w : World} {a : Act} {K : Act → World → Prop} {Q : Exit → Act → World → Prop} {o : Oper} {x0 x1 : Operand} {c0 : Int} {c1 : Int} (ho : o.op = .buildSlice 36 2 #[(0, x0), (1, x1)]) (h0 : a.eval x0 = .int .i64 c0) (h1 : a.eval x1 = .int .i64 c1) (hK : K (a.put o.dst (.slice (some ⟨w.heap.size, 0, none⟩) 2 2)) (w.alloc (.cells #[.int .i64 c0, .int .i64 c1] 3))) : o.wp Try.prog a w K Q := by
  unfold Oper.wp execOp
  simp only [ho, List.map_toArray, List.map_cons, List.map_nil, h0, h1]
  go_simp
  exact hK
theorem len_45 {w : World} {a : Act} {K : Act → World → Prop} {Q : Exit → Act → World → Prop} {o : Oper} {x : Operand} {r : Option Addr} {n c : Nat} (ho : o.op = .call { callee := .builtin .len, args := #[x], argTypes := #[45] }) (hx : a.eval x = .slice r n c) (hK : K (a.put o.dst (.int .i64 n)) w) : o.wp Try.prog a w K Q := by
  unfold Oper.wp execOp
  simp only [ho, resolve, List.map_toArray, List.map_cons, List.map_nil, hx]
  go_simp
  exact hK
theorem ix_45 {w : World} {a : Act} {K : Act → World → Prop} {Q : Exit → Act → World → Prop} {o : Oper} {x y : Operand} {r : Option Addr} {b p n c k : Nat} (ho : o.op = .indexAddr 45 x y) (hx : a.eval x = .slice r n c) (hr : r = some ⟨b, p, none⟩) (hy : a.eval y = .int .i64 (k : Int)) (hk : k < n) (hK : K (a.put o.dst (.pointer (some ⟨b, p + k, none⟩))) w) : o.wp Try.prog a w K Q := by
  subst hr
  have h0 : (0 : Int) ≤ (k : Int) := by omega
  have h1 : (k : Int) < (n : Int) := by omega
  unfold Oper.wp execOp
  simp only [ho, hx, hy]
  go_simp
  exact hK
theorem ld_29 {w : World} {a : Act} {K : Act → World → Prop} {Q : Exit → Act → World → Prop} {o : Oper} {x : Operand} {p : Addr} {v : Value} (ho : o.op = .load 29 x) (hx : a.eval x = .pointer (some p)) (hc : w.cell? p = some v) (hK : K (a.put o.dst (v)) w) : o.wp Try.prog a w K Q := by
  unfold Oper.wp execOp
  simp only [ho, hx]
  go_simp
  exact hK
theorem ext2_0 {w : World} {a : Act} {K : Act → World → Prop} {Q : Exit → Act → World → Prop} {o : Oper} {x : Operand} {v0 v1 : Value} (ho : o.op = .extract x 0) (hx : a.eval x = .tuple #[v0, v1]) (hK : K (a.put o.dst (v0)) w) : o.wp Try.prog a w K Q := by
  unfold Oper.wp execOp
  simp only [ho, hx]
  go_simp
  exact hK
theorem ext2_1 {w : World} {a : Act} {K : Act → World → Prop} {Q : Exit → Act → World → Prop} {o : Oper} {x : Operand} {v0 v1 : Value} (ho : o.op = .extract x 1) (hx : a.eval x = .tuple #[v0, v1]) (hK : K (a.put o.dst (v1)) w) : o.wp Try.prog a w K Q := by
  unfold Oper.wp execOp
  simp only [ho, hx]
  go_simp
  exact hK
theorem fld_40_1 {w : World} {a : Act} {K : Act → World → Prop} {Q : Exit → Act → World → Prop} {o : Oper} {x : Operand} {b p : Nat} (ho : o.op = .fieldAddr 40 x 1) (hx : a.eval x = .pointer (some ⟨b, p, none⟩)) (hK : K (a.put o.dst (.pointer (some ⟨b, p + 1, none⟩))) w) : o.wp Try.prog a w K Q := by
  unfold Oper.wp execOp
  simp only [ho, hx]
  go_simp
  exact hK
theorem ld_40 {w : World} {a : Act} {K : Act → World → Prop} {Q : Exit → Act → World → Prop} {o : Oper} {x : Operand} {b p : Nat} {c0 c1 c2 c3 c4 c5 : Value} (ho : o.op = .load 40 x) (hx : a.eval x = .pointer (some ⟨b, p, none⟩)) (h0 : w.cell? ⟨b, p, none⟩ = some c0) (h1 : w.cell? ⟨b, p + 1, none⟩ = some c1) (h2 : w.cell? ⟨b, p + 2, none⟩ = some c2) (h3 : w.cell? ⟨b, p + 3, none⟩ = some c3) (h4 : w.cell? ⟨b, p + 4, none⟩ = some c4) (h5 : w.cell? ⟨b, p + 5, none⟩ = some c5) (hK : K (a.put o.dst (.agg #[c0, c1, c2, c3, c4, c5])) w) : o.wp Try.prog a w K Q := by
  unfold Oper.wp execOp
  simp only [ho, hx]
  go_simp
  exact hK
theorem box_45 {w : World} {a : Act} {K : Act → World → Prop} {Q : Exit → Act → World → Prop} {o : Oper} {x : Operand} {c0a : Option Addr} {c0n c0c : Nat} (ho : o.op = .box 45 x) (hx : a.eval x = .slice c0a c0n c0c) (hK : K (a.put o.dst (.pointer (some ⟨w.heap.size, 0, none⟩))) (w.alloc (.cells #[.slice c0a c0n c0c] 45))) : o.wp Try.prog a w K Q := by
  unfold Oper.wp execOp
  simp only [ho, hx]
  go_simp
  exact hK
theorem box_29 {w : World} {a : Act} {K : Act → World → Prop} {Q : Exit → Act → World → Prop} {o : Oper} {x : Operand} {c0a : Option Addr} {c0n c0c : Nat} (ho : o.op = .box 29 x) (hx : a.eval x = .slice c0a c0n c0c) (hK : K (a.put o.dst (.pointer (some ⟨w.heap.size, 0, none⟩))) (w.alloc (.cells #[.slice c0a c0n c0c] 29))) : o.wp Try.prog a w K Q := by
  unfold Oper.wp execOp
  simp only [ho, hx]
  go_simp
  exact hK
theorem row_68_2 {w : World} {a : Act} {K : Act → World → Prop} {Q : Exit → Act → World → Prop} {o : Oper} {x0 x1 : Operand} {c0f : Fn} {c0x c0y : Array Value} {c1f : Fn} {c1x c1y : Array Value} (ho : o.op = .buildSlice 68 2 #[(0, x0), (1, x1)]) (h0 : a.eval x0 = .func c0f c0x c0y) (h1 : a.eval x1 = .func c1f c1x c1y) (hK : K (a.put o.dst (.slice (some ⟨w.heap.size, 0, none⟩) 2 2)) (w.alloc (.cells #[.func c0f c0x c0y, .func c1f c1x c1y] 67))) : o.wp Try.prog a w K Q := by
  unfold Oper.wp execOp
  simp only [ho, List.map_toArray, List.map_cons, List.map_nil, h0, h1]
  go_simp
  exact hK
theorem len_68 {w : World} {a : Act} {K : Act → World → Prop} {Q : Exit → Act → World → Prop} {o : Oper} {x : Operand} {r : Option Addr} {n c : Nat} (ho : o.op = .call { callee := .builtin .len, args := #[x], argTypes := #[68] }) (hx : a.eval x = .slice r n c) (hK : K (a.put o.dst (.int .i64 n)) w) : o.wp Try.prog a w K Q := by
  unfold Oper.wp execOp
  simp only [ho, resolve, List.map_toArray, List.map_cons, List.map_nil, hx]
  go_simp
  exact hK
theorem ix_68 {w : World} {a : Act} {K : Act → World → Prop} {Q : Exit → Act → World → Prop} {o : Oper} {x y : Operand} {r : Option Addr} {b p n c k : Nat} (ho : o.op = .indexAddr 68 x y) (hx : a.eval x = .slice r n c) (hr : r = some ⟨b, p, none⟩) (hy : a.eval y = .int .i64 (k : Int)) (hk : k < n) (hK : K (a.put o.dst (.pointer (some ⟨b, p + k, none⟩))) w) : o.wp Try.prog a w K Q := by
  subst hr
  have h0 : (0 : Int) ≤ (k : Int) := by omega
  have h1 : (k : Int) < (n : Int) := by omega
  unfold Oper.wp execOp
  simp only [ho, hx, hy]
  go_simp
  exact hK
theorem ld_67 {w : World} {a : Act} {K : Act → World → Prop} {Q : Exit → Act → World → Prop} {o : Oper} {x : Operand} {p : Addr} {v : Value} (ho : o.op = .load 67 x) (hx : a.eval x = .pointer (some p)) (hc : w.cell? p = some v) (hK : K (a.put o.dst (v)) w) : o.wp Try.prog a w K Q := by
  unfold Oper.wp execOp
  simp only [ho, hx]
  go_simp
  exact hK
theorem row_47_1 {w : World} {a : Act} {K : Act → World → Prop} {Q : Exit → Act → World → Prop} {o : Oper} {x0 : Operand} {c0 c1 c2 c3 c4 c5 : Value} (ho : o.op = .buildSlice 47 1 #[(0, x0)]) (h0 : a.eval x0 = .agg #[c0, c1, c2, c3, c4, c5]) (hK : K (a.put o.dst (.slice (some ⟨w.heap.size, 0, none⟩) 1 1)) (w.alloc (.cells #[c0, c1, c2, c3, c4, c5] 40))) : o.wp Try.prog a w K Q := by
  unfold Oper.wp execOp
  simp only [ho, List.map_toArray, List.map_cons, List.map_nil, h0]
  go_simp
  exact hK
theorem fld_40_5 {w : World} {a : Act} {K : Act → World → Prop} {Q : Exit → Act → World → Prop} {o : Oper} {x : Operand} {b p : Nat} (ho : o.op = .fieldAddr 40 x 5) (hx : a.eval x = .pointer (some ⟨b, p, none⟩)) (hK : K (a.put o.dst (.pointer (some ⟨b, p + 5, none⟩))) w) : o.wp Try.prog a w K Q := by
  unfold Oper.wp execOp
  simp only [ho, hx]
  go_simp
  exact hK
theorem st_29 {w : World} {a : Act} {K : Act → World → Prop} {Q : Exit → Act → World → Prop} {o : Oper} {x y : Operand} {g p : Nat} {ty : TypeId} {cs : Array Value} {c0a : Option Addr} {c0n c0c : Nat} (ho : o.op = .store 29 x y) (hx : a.eval x = .pointer (some ⟨g, p, none⟩)) (hy : a.eval y = .slice c0a c0n c0c) (hB : Blk w g ty cs) (hp : p + 0 < cs.size) (hK : ∀ v, K (a.put o.dst v) (w.setCell ⟨g, p, none⟩ (.slice c0a c0n c0c))) : o.wp Try.prog a w K Q := by
  have h0 := (hB.cell (p)).trans (Array.getElem?_eq_getElem (by first | omega | (simp; omega)))
  have f0 := hB.frozen (p)
  clear hB
  unfold Oper.wp execOp
  simp only [ho, hx, hy]
  go_simp
  exact hK _
theorem ld_45 {w : World} {a : Act} {K : Act → World → Prop} {Q : Exit → Act → World → Prop} {o : Oper} {x : Operand} {p : Addr} {v : Value} (ho : o.op = .load 45 x) (hx : a.eval x = .pointer (some p)) (hc : w.cell? p = some v) (hK : K (a.put o.dst (v)) w) : o.wp Try.prog a w K Q := by
  unfold Oper.wp execOp
  simp only [ho, hx]
  go_simp
  exact hK
theorem fld_81_0 {w : World} {a : Act} {K : Act → World → Prop} {Q : Exit → Act → World → Prop} {o : Oper} {x : Operand} {b p : Nat} (ho : o.op = .fieldAddr 81 x 0) (hx : a.eval x = .pointer (some ⟨b, p, none⟩)) (hK : K (a.put o.dst (.pointer (some ⟨b, p, none⟩))) w) : o.wp Try.prog a w K Q := by
  unfold Oper.wp execOp
  simp only [ho, hx]
  go_simp
  exact hK
theorem fld_81_1 {w : World} {a : Act} {K : Act → World → Prop} {Q : Exit → Act → World → Prop} {o : Oper} {x : Operand} {b p : Nat} (ho : o.op = .fieldAddr 81 x 1) (hx : a.eval x = .pointer (some ⟨b, p, none⟩)) (hK : K (a.put o.dst (.pointer (some ⟨b, p + 1, none⟩))) w) : o.wp Try.prog a w K Q := by
  unfold Oper.wp execOp
  simp only [ho, hx]
  go_simp
  exact hK
theorem fld_81_4 {w : World} {a : Act} {K : Act → World → Prop} {Q : Exit → Act → World → Prop} {o : Oper} {x : Operand} {b p : Nat} (ho : o.op = .fieldAddr 81 x 4) (hx : a.eval x = .pointer (some ⟨b, p, none⟩)) (hK : K (a.put o.dst (.pointer (some ⟨b, p + 4, none⟩))) w) : o.wp Try.prog a w K Q := by
  unfold Oper.wp execOp
  simp only [ho, hx]
  go_simp
  exact hK
theorem row_45_1 {w : World} {a : Act} {K : Act → World → Prop} {Q : Exit → Act → World → Prop} {o : Oper} {x0 : Operand} {c0a : Option Addr} {c0n c0c : Nat} (ho : o.op = .buildSlice 45 1 #[(0, x0)]) (h0 : a.eval x0 = .slice c0a c0n c0c) (hK : K (a.put o.dst (.slice (some ⟨w.heap.size, 0, none⟩) 1 1)) (w.alloc (.cells #[.slice c0a c0n c0c] 29))) : o.wp Try.prog a w K Q := by
  unfold Oper.wp execOp
  simp only [ho, List.map_toArray, List.map_cons, List.map_nil, h0]
  go_simp
  exact hK
theorem row_56_1 {w : World} {a : Act} {K : Act → World → Prop} {Q : Exit → Act → World → Prop} {o : Oper} {x0 : Operand} {c0 c1 : Value} (ho : o.op = .buildSlice 56 1 #[(0, x0)]) (h0 : a.eval x0 = .agg #[c0, c1]) (hK : K (a.put o.dst (.slice (some ⟨w.heap.size, 0, none⟩) 1 1)) (w.alloc (.cells #[c0, c1] 58))) : o.wp Try.prog a w K Q := by
  unfold Oper.wp execOp
  simp only [ho, List.map_toArray, List.map_cons, List.map_nil, h0]
  go_simp
  exact hK
theorem build_58_0_1 {w : World} {a : Act} {K : Act → World → Prop} {Q : Exit → Act → World → Prop} {o : Oper} {x0 x1 : Operand} {c0 : Int} {c1a : Option Addr} {c1n c1c : Nat} (ho : o.op = .build 58 #[(0, x0), (1, x1)]) (h0 : a.eval x0 = .int .i64 c0) (h1 : a.eval x1 = .slice c1a c1n c1c) (hK : K (a.put o.dst (.agg #[.int .i64 c0, .slice c1a c1n c1c])) w) : o.wp Try.prog a w K Q := by
  unfold Oper.wp execOp
  simp only [ho, List.map_toArray, List.map_cons, List.map_nil, h0, h1]
  go_simp
  exact hK
theorem build_60_1 {w : World} {a : Act} {K : Act → World → Prop} {Q : Exit → Act → World → Prop} {o : Oper} {x0 : Operand} {c1 c2 : Value} (ho : o.op = .build 60 #[(1, x0)]) (h0 : a.eval x0 = .agg #[c1, c2]) (hK : K (a.put o.dst (.agg #[.bool false, c1, c2, .int .i64 0, .slice none 0 0])) w) : o.wp Try.prog a w K Q := by
  unfold Oper.wp execOp
  simp only [ho, List.map_toArray, List.map_cons, List.map_nil, h0]
  go_simp
  exact hK
theorem build_60_0_1 {w : World} {a : Act} {K : Act → World → Prop} {Q : Exit → Act → World → Prop} {o : Oper} {x0 x1 : Operand} {c0 : Bool} {c1 c2 : Value} (ho : o.op = .build 60 #[(0, x0), (1, x1)]) (h0 : a.eval x0 = .bool c0) (h1 : a.eval x1 = .agg #[c1, c2]) (hK : K (a.put o.dst (.agg #[.bool c0, c1, c2, .int .i64 0, .slice none 0 0])) w) : o.wp Try.prog a w K Q := by
  unfold Oper.wp execOp
  simp only [ho, List.map_toArray, List.map_cons, List.map_nil, h0, h1]
  go_simp
  exact hK
theorem row_29_2 {w : World} {a : Act} {K : Act → World → Prop} {Q : Exit → Act → World → Prop} {o : Oper} {x0 x1 : Operand} {c0 c1 c2 c3 c4 : Value} {c5 c6 c7 c8 c9 : Value} (ho : o.op = .buildSlice 29 2 #[(0, x0), (1, x1)]) (h0 : a.eval x0 = .agg #[c0, c1, c2, c3, c4]) (h1 : a.eval x1 = .agg #[c5, c6, c7, c8, c9]) (hK : K (a.put o.dst (.slice (some ⟨w.heap.size, 0, none⟩) 2 2)) (w.alloc (.cells #[c0, c1, c2, c3, c4, c5, c6, c7, c8, c9] 60))) : o.wp Try.prog a w K Q := by
  unfold Oper.wp execOp
  simp only [ho, List.map_toArray, List.map_cons, List.map_nil, h0, h1]
  go_simp
  exact hK
theorem fld_40_0 {w : World} {a : Act} {K : Act → World → Prop} {Q : Exit → Act → World → Prop} {o : Oper} {x : Operand} {b p : Nat} (ho : o.op = .fieldAddr 40 x 0) (hx : a.eval x = .pointer (some ⟨b, p, none⟩)) (hK : K (a.put o.dst (.pointer (some ⟨b, p, none⟩))) w) : o.wp Try.prog a w K Q := by
  unfold Oper.wp execOp
  simp only [ho, hx]
  go_simp
  exact hK
theorem ld_35 {w : World} {a : Act} {K : Act → World → Prop} {Q : Exit → Act → World → Prop} {o : Oper} {x : Operand} {p : Addr} {v : Value} (ho : o.op = .load 35 x) (hx : a.eval x = .pointer (some p)) (hc : w.cell? p = some v) (hK : K (a.put o.dst (v)) w) : o.wp Try.prog a w K Q := by
  unfold Oper.wp execOp
  simp only [ho, hx]
  go_simp
  exact hK
theorem len_47 {w : World} {a : Act} {K : Act → World → Prop} {Q : Exit → Act → World → Prop} {o : Oper} {x : Operand} {r : Option Addr} {n c : Nat} (ho : o.op = .call { callee := .builtin .len, args := #[x], argTypes := #[47] }) (hx : a.eval x = .slice r n c) (hK : K (a.put o.dst (.int .i64 n)) w) : o.wp Try.prog a w K Q := by
  unfold Oper.wp execOp
  simp only [ho, resolve, List.map_toArray, List.map_cons, List.map_nil, hx]
  go_simp
  exact hK
theorem ix_47 {w : World} {a : Act} {K : Act → World → Prop} {Q : Exit → Act → World → Prop} {o : Oper} {x y : Operand} {r : Option Addr} {b p n c k : Nat} (ho : o.op = .indexAddr 47 x y) (hx : a.eval x = .slice r n c) (hr : r = some ⟨b, p, none⟩) (hy : a.eval y = .int .i64 (k : Int)) (hk : k < n) (hK : K (a.put o.dst (.pointer (some ⟨b, p + k * 6, none⟩))) w) : o.wp Try.prog a w K Q := by
  subst hr
  have h0 : (0 : Int) ≤ (k : Int) := by omega
  have h1 : (k : Int) < (n : Int) := by omega
  unfold Oper.wp execOp
  simp only [ho, hx, hy]
  go_simp
  exact hK
end Go.Proofs.Ytnmopmdpnpcdhaa

/- Copies of terms: the program and the document. -/
namespace Go.Proofs.Ytnmopmdpnpcdhaa
open Go.RowKit Go
set_option linter.unusedVariables false
set_option linter.unusedSimpArgs false
theorem len_le_sizeL (l : List T) : l.length ≤ T.sizeL l := by
  induction l with
  | nil => simp [T.sizeL]
  | cons t r ih => simp only [List.length_cons, T.sizeL]; have : 1 ≤ t.size := by rw [T.size_eq]; omega
                   omega
theorem take_snocT {l : List T} {k : Nat} (h : k < l.length) : l.take k ++ [tget l k] = l.take (k + 1) := by
  rw [List.take_succ_eq_append_getElem h, tget_lt h]
theorem size_at {l : List T} {k N : Nat} {f : Int} (h : k < l.length) (hz : (T.mk f l).size ≤ N) : (tget l k).size ≤ N := by
  have h1 := T.size_le_sizeL (tget_mem h)
  simp only [T.size] at hz
  omega
set_option maxRecDepth 100000 in
theorem copy_any : ∀ (t : T) (w : World) (v : Value), t.size ≤ 4294967296 → IsT w t v → Calls Try.prog 49 #[v] w (Ret fun v' w' => NewT w w' t v' ∧ Below w.heap.size w w') := by
  refine T.ind (fun f l ih => ?_)
  intro w v hz hv
  have hlen := len_le_sizeL l
  have hz' := hz
  simp only [T.size] at hz'
  obtain ⟨hf, a, c, rfl, hc, hm, hl⟩ := hv
  refine Calls.walk (l := [.agg #[.int .i64 f, .slice a l.length c]]) Try.func49 rfl (by kernel_rfl) ?_
  refine WC.sub (K' := [(0, .agg #[.int .i64 f, .slice a l.length c])]) ⟨rfl, trivial⟩ ?_
  refine WC.seq ?_
  refine WC.region ?_
  refine WL.step (post := NewBlk w 58 #[.int .i64 f, .slice a l.length c]) rfl rfl rfl (fun za zC zh zk => box_58 rfl (zh.ev rfl) (zk _ _ (newBlk _ _ _))) ?_
  rintro _ w1 ⟨g2, rfl, hg3, hB4, hb5, hz6⟩
  have hl7 : w.heap.size ≤ g2 := by omega
  refine WL.step (post := NewBlk w1 58 #[.int .i64 0, .slice none 0 0]) rfl rfl rfl (fun za zC zh zk => alloc_58 rfl (zk _ _ (newBlk _ _ _))) ?_
  rintro _ w8 ⟨g9, rfl, hg10, hB11, hb12, hz13⟩
  have hl14 : g2 < g9 := by have z1 := hB4.lt; omega
  have hl15 : w.heap.size ≤ g9 := by have z2 := (hb5).size; omega
  refine WL.nil ?_
  refine WE.next ?_
  refine WC.seq ?_
  refine WC.region ?_
  refine WL.val _ rfl rfl rfl (fun za zC zh zk => fld_58_0 rfl (zh.ev rfl) zk) ?_
  have hB16 := hB4.below hb12
  refine WL.val _ rfl rfl rfl (fun za zC zh zk => ld_3 rfl (zh.ev rfl) ((hB16.cell 0).trans rfl) zk) ?_
  refine WL.val (.agg #[.int .i64 f, .slice none 0 0]) rfl rfl rfl (fun za zC zh zk => build_58_0 rfl (zh.ev rfl) zk) ?_
  refine WL.step (post := NewBlk w8 58 #[.int .i64 0, .slice none 0 0]) rfl rfl rfl (fun za zC zh zk => alloc_58 rfl (zk _ _ (newBlk _ _ _))) ?_
  rintro _ w17 ⟨g18, rfl, hg19, hB20, hb21, hz22⟩
  have hl23 : g2 < g18 := by have z1 := hB16.lt; omega
  have hl24 : g9 < g18 := by have z1 := hB11.lt; omega
  have hb25 : Below w.heap.size w w8 := (bstep hb5 hb12)
  have hl26 : w.heap.size ≤ g18 := by have z2 := (hb25).size; omega
  refine WL.step (post := fun _ w' => Upd g18 w17 w' ∧ Blk w' g18 58 #[.int .i64 f, .slice none 0 0]) rfl rfl rfl (fun za zC zh zk => st_58 rfl (zh.ev rfl) (zh.ev rfl) rfl rfl hB20 (by first | decide | simp) (fun v => zk v _ ⟨(Upd.at_ _ _ _ _).trans (Upd.at_ _ _ _ _), (hB20.set_ 0 _).set_ 1 _⟩)) ?_
  rintro v30 w27 ⟨hu28, hB29⟩
  have hb31 : Below w.heap.size w w17 := (bstep hb25 hb21)
  have hb32 := upd_below hb31 hu28 (by omega)
  have hB33 := hB16.below hb21
  have hB34 := upd_blk hB33 hu28 (by omega)
  have hB35 := hB11.below hb21
  have hB36 := upd_blk hB35 hu28 (by omega)
  refine WL.nil ?_
  refine WE.next ?_
  refine WC.seq ?_
  refine WC.seq ?_
  refine WC.region ?_
  refine WL.val _ rfl rfl rfl (fun za zC zh zk => fld_58_1 rfl (zh.ev rfl) zk) ?_
  refine WL.val _ rfl rfl rfl (fun za zC zh zk => ld_56 rfl (zh.ev rfl) ((hB34.cell 1).trans rfl) zk) ?_
  refine WL.val (.int .i64 (((l.length : Nat) : Int))) rfl rfl rfl (fun za zC zh zk => len_56 rfl (zh.ev rfl) zk) ?_
  refine WL.val (.bool ((decide ((0 : Int) < (((l.length : Nat) : Int) : Int))))) rfl rfl rfl (fun za zC zh zk => gtr_3 rfl (zh.ev rfl) (zh.ev rfl) zk) ?_
  refine WL.nil ?_
  refine WE.next ?_
  refine WC.cond rfl (fun h37 => ?_) (fun h37 => ?_)
  · have h37 : (0 : Int) < (((l.length : Nat) : Int) : Int) := by simpa using h37
    refine WC.region ?_
    refine WL.val _ rfl rfl rfl (fun za zC zh zk => fld_58_1 rfl (zh.ev rfl) zk) ?_
    refine WL.val _ rfl rfl rfl (fun za zC zh zk => ld_56 rfl (zh.ev rfl) ((hB34.cell 1).trans rfl) zk) ?_
    refine WL.val (.int .i64 (((l.length : Nat) : Int))) rfl rfl rfl (fun za zC zh zk => len_56 rfl (zh.ev rfl) zk) ?_
    refine WL.step (post := fun v w' => ∃ g, v = .slice (some ⟨g, 0, none⟩) l.length l.length ∧ w27.heap.size = g ∧ Blk w' g 58 (madeCells (Value.cells (.agg #[.int .i64 0, .slice none 0 0])) (l.length * 2)) ∧ Below w27.heap.size w27 w') rfl rfl rfl (fun za zC zh zk => wp_mkE (z := .agg #[.int .i64 0, .slice none 0 0]) (size := 2) (bytes := 32) Try.underlying56 (by kernel_rfl) (by decide) rfl (zh.ev rfl) (zh.ev rfl) (by omega) (zk _ _ ⟨_, rfl, rfl, Blk.new' rfl, balloc _ _⟩)) ?_
    rintro _ w38 ⟨g39, rfl, hg40, hB41, hb42⟩
    have hl44 : g2 < g39 := by have z1 := hB34.lt; omega
    have hl45 : g9 < g39 := by have z1 := hB36.lt; omega
    have hl46 : g18 < g39 := by have z1 := hB29.lt; omega
    have hl47 : w.heap.size ≤ g39 := by have z2 := (hb32).size; omega
    have hM43 : MRow eltT w38 g39 g39 58 l.length (madeCells (Value.cells (.agg #[.int .i64 0, .slice none 0 0])) (l.length * 2)).toList [] := MRow.startT hB41 (Nat.le_refl _)
    refine WL.val _ rfl rfl rfl (fun za zC zh zk => fld_58_1 rfl (zh.ev rfl) zk) ?_
    have hB48 := hB29.below hb42
    refine WL.step (post := fun _ w' => Upd g18 w38 w' ∧ Blk w' g18 58 #[.int .i64 f, .slice ((some ⟨g39, 0, none⟩)) l.length l.length]) rfl rfl rfl (fun za zC zh zk => st_56 rfl (zh.ev rfl) (zh.ev rfl) hB48 (by first | decide | simp) (fun v => zk v _ ⟨Upd.at_ _ _ _ _, hB48.set_ 1 _⟩)) ?_
    rintro v52 w49 ⟨hu50, hB51⟩
    have hb53 : Below w.heap.size w w38 := (bstep hb32 hb42)
    have hb54 := upd_below hb53 hu50 (by omega)
    have hB55 := hB34.below hb42
    have hB56 := upd_blk hB55 hu50 (by omega)
    have hB57 := hB36.below hb42
    have hB58 := upd_blk hB57 hu50 (by omega)
    have ho59 := hM43.upd hu50 (by omega)
    refine WL.nil ?_
    refine WE.next ?_
    refine WC.seq ?_
    refine WC.seq ?_
    refine WC.region ?_
    refine WL.val _ rfl rfl rfl (fun za zC zh zk => fld_58_1 rfl (zh.ev rfl) zk) ?_
    refine WL.val _ rfl rfl rfl (fun za zC zh zk => ld_56 rfl (zh.ev rfl) ((hB56.cell 1).trans rfl) zk) ?_
    refine WL.val (.int .i64 (((l.length : Nat) : Int))) rfl rfl rfl (fun za zC zh zk => len_56 rfl (zh.ev rfl) zk) ?_
    refine WL.mv rfl rfl rfl rfl rfl ?_
    refine WL.nil ?_
    refine WE.next ?_
    refine WC.block ?_
    refine WC.loop (X := Nat) (fun k => l.length - k) (fun k => [(0, .agg #[.int .i64 f, .slice a l.length c]), (1, .pointer (some ⟨g2, 0, none⟩)), (2, .pointer (some ⟨g9, 0, none⟩)), (3, .pointer (some ⟨g18, 0, none⟩)), (12, .bool ((decide ((0 : Int) < (((l.length : Nat) : Int) : Int))))), (19, .slice a l.length c), (20, .int .i64 (((l.length : Nat) : Int))), (21, .int .i64 (((k : Nat) : Int)))]) (fun k w60 => k ≤ l.length ∧ Below w.heap.size w w60 ∧ Blk w60 g2 58 #[.int .i64 f, .slice a l.length c] ∧ Blk w60 g9 58 #[.int .i64 0, .slice none 0 0] ∧ Blk w60 g18 58 #[.int .i64 f, .slice ((some ⟨g39, 0, none⟩)) l.length l.length] ∧ MRow eltT (w60) g39 g39 58 l.length (madeCells (Value.cells (.agg #[.int .i64 0, .slice none 0 0])) (l.length * 2)).toList (l.take k)) 0 ⟨rfl, rfl, rfl, rfl, rfl, rfl, rfl, rfl, trivial⟩ ?_ ?_
    · exact ⟨Nat.zero_le _, hb54, hB56, hB58, hB51, ho59⟩
    · rintro k w60 ⟨hk, hb61, hB62, hB63, hB64, ho65⟩
      have hgl := ho65.lt
      refine WC.seq ?_
      refine WC.region ?_
      refine WL.val (.bool ((decide ((((k : Nat) : Int) : Int) < (((l.length : Nat) : Int) : Int))))) rfl rfl rfl (fun za zC zh zk => lss_3 rfl (zh.ev rfl) (zh.ev rfl) zk) ?_
      refine WL.nil ?_
      refine WE.next ?_
      refine WC.seq ?_
      refine WC.cond rfl (fun h66 => ?_) (fun h66 => ?_)
      · have h66 : (((k : Nat) : Int) : Int) < (((l.length : Nat) : Int) : Int) := by simpa using h66
        refine WC.skip ?_
        refine WE.next ?_
        refine WC.seq ?_
        refine WC.block ?_
        refine WC.seq ?_
        refine WC.region ?_
        refine WL.mv rfl rfl rfl rfl rfl ?_
        obtain ⟨b67, o68, A69, C70, ha71, hc72⟩ := IsTs.open hl
        refine WL.val _ rfl rfl rfl (fun za zC zh zk => ix_56 (k := k) rfl (zh.ev rfl) (ha71 k (by first | omega | (simp; omega))) (zh.ev rfl) (by first | omega | (simp; omega)) zk) ?_
        refine WL.val _ rfl rfl rfl (fun za zC zh zk => ld_58 rfl (zh.ev rfl) (bkeeps hb61 _ _ (hc72 k (by first | omega | (simp; omega))).1) (bkeeps hb61 _ _ (hc72 k (by first | omega | (simp; omega))).2.1) zk) ?_
        refine WL.step (post := NewBlk w60 58 #[.int .i64 0, .slice none 0 0]) rfl rfl rfl (fun za zC zh zk => alloc_58 rfl (zk _ _ (newBlk _ _ _))) ?_
        rintro _ w73 ⟨g74, rfl, hg75, hB76, hb77, hz78⟩
        have hl79 : g2 < g74 := by have z1 := hB62.lt; omega
        have hl80 : g9 < g74 := by have z1 := hB63.lt; omega
        have hl81 : g18 < g74 := by have z1 := hB64.lt; omega
        have hl82 : w.heap.size ≤ g74 := by have z2 := (hb61).size; omega
        have hl83 : w60.heap.size ≤ g74 := by omega
        refine WL.asg rfl rfl rfl rfl rfl ?_
        refine WL.step (post := fun _ w' => Upd g74 w73 w' ∧ Blk w' g74 58 #[.int .i64 ((tget l k).f), .slice ((A69 k)) ((tget l k).args.length) ((C70 k))]) rfl rfl rfl (fun za zC zh zk => st_58 rfl (zh.ev rfl) (zh.ev rfl) rfl rfl hB76 (by first | decide | simp) (fun v => zk v _ ⟨(Upd.at_ _ _ _ _).trans (Upd.at_ _ _ _ _), (hB76.set_ 0 _).set_ 1 _⟩)) ?_
        rintro v87 w84 ⟨hu85, hB86⟩
        have hb88 : Below w.heap.size w w73 := (bstep hb61 hb77)
        have hb89 := upd_below hb88 hu85 (by omega)
        have hb90 := upd_below hb77 hu85 (by omega)
        have hB91 := hB62.below hb77
        have hB92 := upd_blk hB91 hu85 (by omega)
        have hB93 := hB63.below hb77
        have hB94 := upd_blk hB93 hu85 (by omega)
        have hB95 := hB64.below hb77
        have hB96 := upd_blk hB95 hu85 (by omega)
        refine WL.nil ?_
        refine WE.next ?_
        have ho97 := ho65.below hb90
        have hSlt : ∀ b, (fun b => b = g39) b → b < w84.heap.size := fun b e => e ▸ ho97.lt
        have hgl : g39 < w84.heap.size := ho97.lt
        refine WC.tail1 (S := ((fun b => b = g39))) [(true, .val (.pointer (some ⟨g18, 1, none⟩))), (true, .val (.slice ((some ⟨g39, 0, none⟩)) l.length l.length)), (true, .val (.int .i64 (((k : Nat) : Int)))), (true, .val (.agg #[.int .i64 ((tget l k).f), .slice ((A69 k)) ((tget l k).args.length) ((C70 k))])), (true, .mem (fun v w' => NewT w84 w' ((tget l k)) v) (fun v w w' hc h => InT.chg h hc (fun b hb hs => by have z := hSlt b hs; omega))), (true, .val (.pointer (some ⟨g39, 0 + k * 2, none⟩))), (true, .val undef)] [(0, .agg #[.int .i64 f, .slice a l.length c]), (1, .pointer (some ⟨g2, 0, none⟩)), (2, .pointer (some ⟨g9, 0, none⟩)), (3, .pointer (some ⟨g18, 0, none⟩)), (4, .int .i64 (((k : Nat) : Int))), (5, .pointer (some ⟨g74, 0, none⟩)), (12, .bool ((decide ((0 : Int) < (((l.length : Nat) : Int) : Int))))), (19, .slice a l.length c), (20, .int .i64 (((l.length : Nat) : Int))), (21, .int .i64 (((k : Nat) : Int))), (22, .bool ((decide ((((k : Nat) : Int) : Int) < (((l.length : Nat) : Int) : Int)))))] 6 (fun wz => MRow eltT wz g39 g39 58 l.length (madeCells (Value.cells (.agg #[.int .i64 0, .slice none 0 0])) (l.length * 2)).toList ((l.take k ++ [tget l k]))) (fun w w' hb h => h.below hb) ⟨rfl, rfl, rfl, rfl, rfl, rfl, rfl, rfl, rfl, rfl, rfl, trivial⟩ (by kernel_rfl) (by kernel_rfl) (by kernel_rfl) (by kernel_rfl) ?_ ?_
        · refine ⟨.inl ⟨rfl, true, .none rfl, (fun gg b h => by cases h), fun h w => optUndef h, fun zβ za zw zc => ?_⟩, ?_⟩
          · exact fld_58_1 rfl (zc.kn.ev rfl) ⟨_, rfl, Below.refl _ _, optDef zβ rfl⟩
          refine ⟨.inl ⟨rfl, true, .none rfl, (fun gg b h => by cases h), fun h w => optUndef h, fun zβ za zw zc => ?_⟩, ?_⟩
          · exact ld_56 rfl ((evt za 26).trans (optSVal (zc.dep 0 26 (by kernel_rfl) (by decide)) rfl rfl)) (bkeeps (zc.early (by kernel_rfl)) _ _ ((hB96.cell 1).trans rfl)) ⟨_, rfl, Below.refl _ _, optDef zβ rfl⟩
          refine ⟨.inl ⟨rfl, true, .none rfl, (fun gg b h => by cases h), fun h w => optUndef h, fun zβ za zw zc => ?_⟩, ?_⟩
          · exact wp_move rfl (zc.kn.ev rfl) ⟨_, rfl, Below.refl _ _, optDef zβ rfl⟩
          refine ⟨.inl ⟨rfl, true, .none rfl, (fun gg b h => by cases h), fun h w => optUndef h, fun zβ za zw zc => ?_⟩, ?_⟩
          · exact ld_58 rfl (zc.kn.ev rfl) (bkeeps (zc.early (by kernel_rfl)) _ _ ((hB86.cell 0).trans rfl)) (bkeeps (zc.early (by kernel_rfl)) _ _ ((hB86.cell 1).trans rfl)) ⟨_, rfl, Below.refl _ _, optDef zβ rfl⟩
          refine ⟨.inl ⟨rfl, true, .none rfl, (fun gg b h => by cases h), fun h w => optUndef h, fun zβ za zw zc => ?_⟩, ?_⟩
          · exact wp_call (by kernel_rfl) rfl (hv1 ((evt za 29).trans (optSVal (zc.dep 3 29 (by kernel_rfl) (by decide)) rfl rfl))) (ih _ (tget_mem (by omega)) _ _ (size_at (by omega) hz) (IsT.below (bstep hb89 (zc.early (by kernel_rfl))) (hc72 k (by first | omega | (simp; omega))).2.2)) (fun v w' h => ⟨v, rfl, h.2, optDef zβ (InT.mono (fun b hb _ => Nat.le_trans (zc.early (by kernel_rfl)).size hb) h.1)⟩)
          refine ⟨.inl ⟨rfl, true, .none rfl, (fun gg b h => by cases h), fun h w => optUndef h, fun zβ za zw zc => ?_⟩, ?_⟩
          · exact ix_56 (k := k) rfl ((evt za 27).trans (optSVal (zc.dep 1 27 (by kernel_rfl) (by decide)) rfl rfl)) rfl ((evt za 28).trans (optSVal (zc.dep 2 28 (by kernel_rfl) (by decide)) rfl rfl)) (by first | omega | (simp; omega)) ⟨_, rfl, Below.refl _ _, optDef zβ rfl⟩
          refine ⟨.inr ⟨rfl, rfl, fun za zw zc => ?_⟩, ?_⟩
          · have zv := (optSMem (zc.dep 4 30 (by kernel_rfl) (by decide)) rfl rfl)
            obtain ⟨_, a1, c1, e1, _⟩ := zv.form
            rw [e1] at zv
            have zm := ho97.below zc.below
            obtain ⟨cs, hB, hsz⟩ := zm.blkT (k := k) (by simp; omega) (by omega)
            exact st_58 rfl ((evt za 31).trans (optSVal (zc.dep 5 31 (by kernel_rfl) (by decide)) rfl rfl)) ((evt za 30).trans e1) rfl rfl hB hsz (fun v => ⟨v, rfl, zm.storeT (k := k) (by simp; omega) (by omega) (zv.mono (fun b hb _ => by (try dsimp only at *); omega)), .ofUpd ((Upd.at_ _ _ _ _).trans (Upd.at_ _ _ _ _)) rfl⟩)
          exact trivial
        · intro za w98 zh hG99 hc100 zu
          have hb101 := chg_below hb89 hc100 (fun b hb => (by (try dsimp only at *); omega))
          have hB102 := chg_blk hB92 hc100 (by (try dsimp only at *); omega)
          have hB103 := chg_blk hB94 hc100 (by (try dsimp only at *); omega)
          have hB104 := chg_blk hB96 hc100 (by (try dsimp only at *); omega)
          have hB105 := chg_blk hB86 hc100 (by (try dsimp only at *); omega)
          clear zu
          refine WE.go zh ?_
          refine WE.blockNormal ?_
          refine WE.next ?_
          refine WC.region ?_
          refine WL.val (.int .i64 ((((k + 1) : Nat) : Int))) rfl rfl rfl (fun za zC zh zk => addb_3 rfl (zh.ev rfl) (zh.ev rfl) (wrap_eq (by omega) (by omega) (by omega)) zk) ?_
          refine WL.mv rfl rfl rfl rfl rfl ?_
          refine WL.nil ?_
          refine WE.round (k + 1) ⟨rfl, rfl, rfl, rfl, rfl, rfl, rfl, rfl, trivial⟩ ?_ ?_
          · exact ⟨by omega, hb101, hB102, hB103, hB104, (by rw [← take_snocT (by omega)]; exact hG99)⟩
          · omega
      · have h66 : ¬ ((((k : Nat) : Int) : Int) < (((l.length : Nat) : Int) : Int)) := by simpa using h66
        refine WC.exit ?_
        refine WE.thenExit ?_
        refine WE.thenExit ?_
        refine WE.blockIs rfl ?_
        refine WE.next ?_
        refine WC.seq ?_
        refine WC.region ?_
        refine WL.val _ rfl rfl rfl (fun za zC zh zk => ld_58 rfl (zh.ev rfl) ((hB64.cell 0).trans rfl) ((hB64.cell 1).trans rfl) zk) ?_
        refine WL.step (post := fun _ w' => Upd g9 w60 w' ∧ Blk w' g9 58 #[.int .i64 f, .slice ((some ⟨g39, 0, none⟩)) l.length l.length]) rfl rfl rfl (fun za zC zh zk => st_58 rfl (zh.ev rfl) (zh.ev rfl) rfl rfl hB63 (by first | decide | simp) (fun v => zk v _ ⟨(Upd.at_ _ _ _ _).trans (Upd.at_ _ _ _ _), (hB63.set_ 0 _).set_ 1 _⟩)) ?_
        rintro v109 w106 ⟨hu107, hB108⟩
        have hb110 := upd_below hb61 hu107 (by omega)
        have hB111 := upd_blk hB62 hu107 (by omega)
        have hB112 := upd_blk hB64 hu107 (by omega)
        have ho113 := ho65.upd hu107 (by omega)
        refine WL.nil ?_
        refine WE.next ?_
        refine WC.ret ?_
        refine WE.retAny (v := .agg #[.int .i64 f, .slice ((some ⟨g39, 0, none⟩)) l.length l.length]) (fun za zh => ?_) ?_
        · have z0 : za.tmps[2]?.getD undef = .pointer (some ⟨g9, 0, none⟩) := by rw [← Array.getD_eq_getD_getElem?]; exact zh.knows 2 _ rfl
          have y0 : w106.cell? ⟨g9, 0, none⟩ = some (.int .i64 f) := ((hB108.cell 0).trans rfl)
          have y1 : w106.cell? ⟨g9, 1, none⟩ = some (.slice ((some ⟨g39, 0, none⟩)) l.length l.length) := ((hB108.cell 1).trans rfl)
          simp [results, Try.results49, z0, y0, y1, go_sem]
        · have z := ho113
          rw [List.take_of_length_le (by omega)] at z
          have hgz := (hb110).size
          exact ⟨_, rfl, newT_mk hf rfl (Nat.le_refl _) (by unfold maxLen; omega) (z.inRow.mono (by decide) (fun b hb _ => by omega)), hb110⟩
  · have h37 : ¬ ((0 : Int) < (((l.length : Nat) : Int) : Int)) := by simpa using h37
    refine WC.skip ?_
    refine WE.next ?_
    refine WC.seq ?_
    refine WC.seq ?_
    refine WC.region ?_
    refine WL.val _ rfl rfl rfl (fun za zC zh zk => fld_58_1 rfl (zh.ev rfl) zk) ?_
    refine WL.val _ rfl rfl rfl (fun za zC zh zk => ld_56 rfl (zh.ev rfl) ((hB34.cell 1).trans rfl) zk) ?_
    refine WL.val (.int .i64 (((l.length : Nat) : Int))) rfl rfl rfl (fun za zC zh zk => len_56 rfl (zh.ev rfl) zk) ?_
    refine WL.mv rfl rfl rfl rfl rfl ?_
    refine WL.nil ?_
    refine WE.next ?_
    refine WC.block ?_
    refine WC.loop (X := Unit) (fun _ => 0) (fun _ => [(0, .agg #[.int .i64 f, .slice a l.length c]), (1, .pointer (some ⟨g2, 0, none⟩)), (2, .pointer (some ⟨g9, 0, none⟩)), (3, .pointer (some ⟨g18, 0, none⟩)), (12, .bool ((decide ((0 : Int) < (((l.length : Nat) : Int) : Int))))), (19, .slice a l.length c), (20, .int .i64 (((l.length : Nat) : Int))), (21, .int .i64 0)]) (fun _ w114 => True ∧ Below w.heap.size w w114 ∧ Blk w114 g2 58 #[.int .i64 f, .slice a l.length c] ∧ Blk w114 g9 58 #[.int .i64 0, .slice none 0 0] ∧ Blk w114 g18 58 #[.int .i64 f, .slice none 0 0]) (()) ⟨rfl, rfl, rfl, rfl, rfl, rfl, rfl, rfl, trivial⟩ ?_ ?_
    · exact ⟨trivial, hb32, hB34, hB36, hB29⟩
    · rintro _ w114 ⟨_, hb115, hB116, hB117, hB118⟩
      refine WC.seq ?_
      refine WC.region ?_
      refine WL.val (.bool ((decide ((0 : Int) < (((l.length : Nat) : Int) : Int))))) rfl rfl rfl (fun za zC zh zk => lss_3 rfl (zh.ev rfl) (zh.ev rfl) zk) ?_
      refine WL.nil ?_
      refine WE.next ?_
      refine WC.seq ?_
      refine WC.condF rfl (decide_eq_false (by omega)) ?_
      refine WC.exit ?_
      refine WE.thenExit ?_
      refine WE.thenExit ?_
      refine WE.blockIs rfl ?_
      refine WE.next ?_
      refine WC.seq ?_
      refine WC.region ?_
      refine WL.val _ rfl rfl rfl (fun za zC zh zk => ld_58 rfl (zh.ev rfl) ((hB118.cell 0).trans rfl) ((hB118.cell 1).trans rfl) zk) ?_
      refine WL.step (post := fun _ w' => Upd g9 w114 w' ∧ Blk w' g9 58 #[.int .i64 f, .slice none 0 0]) rfl rfl rfl (fun za zC zh zk => st_58 rfl (zh.ev rfl) (zh.ev rfl) rfl rfl hB117 (by first | decide | simp) (fun v => zk v _ ⟨(Upd.at_ _ _ _ _).trans (Upd.at_ _ _ _ _), (hB117.set_ 0 _).set_ 1 _⟩)) ?_
      rintro v122 w119 ⟨hu120, hB121⟩
      have hb123 := upd_below hb115 hu120 (by omega)
      have hB124 := upd_blk hB116 hu120 (by omega)
      have hB125 := upd_blk hB118 hu120 (by omega)
      refine WL.nil ?_
      refine WE.next ?_
      refine WC.ret ?_
      refine WE.retAny (v := .agg #[.int .i64 f, .slice none 0 0]) (fun za zh => ?_) ?_
      · have z0 : za.tmps[2]?.getD undef = .pointer (some ⟨g9, 0, none⟩) := by rw [← Array.getD_eq_getD_getElem?]; exact zh.knows 2 _ rfl
        have y0 : w119.cell? ⟨g9, 0, none⟩ = some (.int .i64 f) := ((hB121.cell 0).trans rfl)
        have y1 : w119.cell? ⟨g9, 1, none⟩ = some (.slice none 0 0) := ((hB121.cell 1).trans rfl)
        simp [results, Try.results49, z0, y0, y1, go_sem]
      · have e : l = [] := List.length_eq_zero_iff.1 (by omega)
        subst e
        exact ⟨_, rfl, newT_leaf hf, hb123⟩
end Go.Proofs.Ytnmopmdpnpcdhaa

/- Literals, clauses: how they lie in memory. -/
namespace Go.Proofs.Ytnmopmdpnpcdhaa
open Go.RowKit Go
set_option linter.unusedVariables false
set_option linter.unusedSimpArgs false
/-- A literal. -/
structure Li where
  neg : Bool
  l : T
  r : T
instance : Inhabited Li := ⟨⟨false, .mk 0 [], .mk 0 []⟩⟩
def Li.size (x : Li) : Nat := x.l.size + x.r.size
theorem InT.parts {S : Nat → Prop} {w : World} {t : T} {u v : Value} (h : InT S w t (.agg #[u, v])) : ∃ (a : Option Addr) (c : Nat), u = .int .i64 t.f ∧ v = .slice a t.args.length c := by
  obtain ⟨_, a, c, e, _⟩ := h.form
  simp only [Value.agg.injEq, Array.mk.injEq, List.cons.injEq, and_true] at e
  exact ⟨a, c, e.1, e.2⟩
def eltL : Elt Li where
  k := 5
  In := fun S w x cs => ∃ u1 u2 u3 u4, cs = [.bool x.neg, u1, u2, u3, u4] ∧ InT S w x.l (.agg #[u1, u2]) ∧ InT S w x.r (.agg #[u3, u4])
  keep := fun hb ⟨u1, u2, u3, u4, e, h0, h⟩ => ⟨u1, u2, u3, u4, e, h0.keep hb, h.keep hb⟩
  mono := fun hb ⟨u1, u2, u3, u4, e, h0, h⟩ => ⟨u1, u2, u3, u4, e, h0.mono hb, h.mono hb⟩
  len := fun ⟨_, _, _, _, e, _⟩ => by rw [e]; rfl
  one := fun ⟨u1, u2, u3, u4, e, h0, h⟩ x hx => by
    obtain ⟨a1, c1, rfl, rfl⟩ := h0.parts
    obtain ⟨a2, c2, rfl, rfl⟩ := h.parts
    rw [e] at hx
    simp only [List.mem_cons, List.not_mem_nil, or_false] at hx
    rcases hx with rfl | rfl | rfl | rfl | rfl <;> rfl
def lget (l : List Li) (k : Nat) : Li := l.getD k default
theorem lget_lt {l : List Li} {k : Nat} (h : k < l.length) : lget l k = l[k] := by simp [lget, h]
theorem lget_mem {l : List Li} {k : Nat} (h : k < l.length) : lget l k ∈ l := by rw [lget_lt h]; exact List.getElem_mem h
theorem take_snocL {l : List Li} {k : Nat} (h : k < l.length) : l.take k ++ [lget l k] = l.take (k + 1) := by
  rw [List.take_succ_eq_append_getElem h, lget_lt h]
theorem InRow.openL {S : Nat → Prop} {w : World} {l : List Li} {a : Option Addr} (h : InRow eltL S w l a) : ∃ (b o : Nat) (A : Nat → Option Addr) (C : Nat → Nat) (A2 : Nat → Option Addr) (C2 : Nat → Nat), (∀ k, k < l.length → a = some ⟨b, o, none⟩) ∧
    ∀ k, k < l.length → w.cell? ⟨b, o + k * 5, none⟩ = some (.bool (lget l k).neg) ∧ w.cell? ⟨b, o + k * 5 + 1, none⟩ = some (.int .i64 (lget l k).l.f) ∧ w.cell? ⟨b, o + k * 5 + 2, none⟩ = some (.slice (A k) (lget l k).l.args.length (C k)) ∧
      w.cell? ⟨b, o + k * 5 + 3, none⟩ = some (.int .i64 (lget l k).r.f) ∧ w.cell? ⟨b, o + k * 5 + 4, none⟩ = some (.slice (A2 k) (lget l k).r.args.length (C2 k)) ∧
      InT S w (lget l k).l (.agg #[.int .i64 (lget l k).l.f, .slice (A k) (lget l k).l.args.length (C k)]) ∧ InT S w (lget l k).r (.agg #[.int .i64 (lget l k).r.f, .slice (A2 k) (lget l k).r.args.length (C2 k)]) := by
  rcases Nat.eq_zero_or_pos l.length with h0 | h0
  · exact ⟨0, 0, fun _ => none, fun _ => 0, fun _ => none, fun _ => 0, fun k hk => by omega, fun k hk => by omega⟩
  · obtain ⟨b, o, _, ha, _⟩ := h 0 h0
    have key : ∀ k, k < l.length → ∃ p : (Option Addr × Nat) × (Option Addr × Nat), w.cell? ⟨b, o + k * 5, none⟩ = some (.bool (lget l k).neg) ∧ w.cell? ⟨b, o + k * 5 + 1, none⟩ = some (.int .i64 (lget l k).l.f) ∧ w.cell? ⟨b, o + k * 5 + 2, none⟩ = some (.slice p.1.1 (lget l k).l.args.length p.1.2) ∧
      w.cell? ⟨b, o + k * 5 + 3, none⟩ = some (.int .i64 (lget l k).r.f) ∧ w.cell? ⟨b, o + k * 5 + 4, none⟩ = some (.slice p.2.1 (lget l k).r.args.length p.2.2) ∧
      InT S w (lget l k).l (.agg #[.int .i64 (lget l k).l.f, .slice p.1.1 (lget l k).l.args.length p.1.2]) ∧ InT S w (lget l k).r (.agg #[.int .i64 (lget l k).r.f, .slice p.2.1 (lget l k).r.args.length p.2.2]) := by
      intro k hk
      obtain ⟨b', o', cs, ha', _, ⟨u1, u2, u3, u4, rfl, h1, h2⟩, h3⟩ := h k hk
      rw [ha] at ha'
      simp only [Option.some.injEq, Addr.mk.injEq, and_true] at ha'
      obtain ⟨rfl, rfl⟩ := ha'
      obtain ⟨p1, q1, rfl, rfl⟩ := h1.parts
      obtain ⟨p2, q2, rfl, rfl⟩ := h2.parts
      rw [lget_lt hk]
      exact ⟨((p1, q1), (p2, q2)), h3 0 (by decide), h3 1 (by decide), h3 2 (by decide), h3 3 (by decide), h3 4 (by decide), h1, h2⟩
    have : Inhabited ((Option Addr × Nat) × (Option Addr × Nat)) := ⟨((none, 0), (none, 0))⟩
    obtain ⟨F, hF⟩ := Go.Deep.choose_lt key
    exact ⟨b, o, fun k => (F k).1.1, fun k => (F k).1.2, fun k => (F k).2.1, fun k => (F k).2.2, fun _ _ => ha, hF⟩
/-- A clause that came in. -/
abbrev IsLs (w : World) (l : List Li) (a : Option Addr) : Prop := InRow eltL (fun _ => True) w l a
/-- A clause that came in: it lies in memory, is no longer than that, its terms are no larger. -/
structure IsCl (w : World) (s : List Li) (a : Option Addr) (c : Nat) : Prop where
  rows : IsLs w s a
  len : s.length ≤ c
  cap : c ≤ maxLen
  small : s.length ≤ 4294967296
  partsL : ∀ b ∈ s, b.l.size ≤ 4294967296
  partsR : ∀ b ∈ s, b.r.size ≤ 4294967296
theorem IsCl.below {w w' : World} {s : List Li} {a : Option Addr} {c : Nat} (h : IsCl w s a c) (hb : Below w.heap.size w w') : IsCl w' s a c := ⟨h.rows.below hb, h.len, h.cap, h.small, h.partsL, h.partsR⟩
theorem IsCl.pl {w : World} {s : List Li} {a : Option Addr} {c k : Nat} (h : IsCl w s a c) (hk : k < s.length) : (lget s k).l.size ≤ 4294967296 := h.partsL _ (lget_mem hk)
theorem IsCl.pr {w : World} {s : List Li} {a : Option Addr} {c k : Nat} (h : IsCl w s a c) (hk : k < s.length) : (lget s k).r.size ≤ 4294967296 := h.partsR _ (lget_mem hk)
/-- A literal in memory. -/
def IsLi (w : World) (x : Li) (v : Value) : Prop := ∃ u1 u2 u3 u4, v = .agg #[.bool x.neg, u1, u2, u3, u4] ∧ IsT w x.l (.agg #[u1, u2]) ∧ IsT w x.r (.agg #[u3, u4])
theorem IsLi.below {w w' : World} {x : Li} {v : Value} (hb : Below w.heap.size w w') (h : IsLi w x v) : IsLi w' x v := by
  obtain ⟨u1, u2, u3, u4, e, h1, h2⟩ := h
  exact ⟨u1, u2, u3, u4, e, h1.below hb, h2.below hb⟩
theorem isLi_mk {w : World} {x : Li} {a1 a2 : Option Addr} {c1 c2 : Nat} (h1 : IsT w x.l (.agg #[.int .i64 x.l.f, .slice a1 x.l.args.length c1])) (h2 : IsT w x.r (.agg #[.int .i64 x.r.f, .slice a2 x.r.args.length c2])) : IsLi w x (.agg #[.bool x.neg, .int .i64 x.l.f, .slice a1 x.l.args.length c1, .int .i64 x.r.f, .slice a2 x.r.args.length c2]) := ⟨_, _, _, _, rfl, h1, h2⟩
theorem IsLi.form {w : World} {x : Li} {v : Value} (h : IsLi w x v) : ∃ (a1 a2 : Option Addr) (c1 c2 : Nat), v = .agg #[.bool x.neg, .int .i64 x.l.f, .slice a1 x.l.args.length c1, .int .i64 x.r.f, .slice a2 x.r.args.length c2] ∧
    IsT w x.l (.agg #[.int .i64 x.l.f, .slice a1 x.l.args.length c1]) ∧ IsT w x.r (.agg #[.int .i64 x.r.f, .slice a2 x.r.args.length c2]) := by
  obtain ⟨u1, u2, u3, u4, e, h1, h2⟩ := h
  obtain ⟨p1, q1, rfl, rfl⟩ := h1.cells
  obtain ⟨p2, q2, rfl, rfl⟩ := h2.cells
  exact ⟨p1, p2, q1, q2, e, h1, h2⟩
/-- A literal in memory, made since. -/
def NewL (w0 w : World) (x : Li) (v : Value) : Prop := ∃ u1 u2 u3 u4, v = .agg #[.bool x.neg, u1, u2, u3, u4] ∧ InT (fun b => w0.heap.size ≤ b) w x.l (.agg #[u1, u2]) ∧ InT (fun b => w0.heap.size ≤ b) w x.r (.agg #[u3, u4])
/-- A literal in memory, in blocks of 'S'. -/
def LiIn (S : Nat → Prop) (w : World) (x : Li) (v : Value) : Prop := ∃ u1 u2 u3 u4, v = .agg #[.bool x.neg, u1, u2, u3, u4] ∧ InT S w x.l (.agg #[u1, u2]) ∧ InT S w x.r (.agg #[u3, u4])
theorem LiIn.keep {S : Nat → Prop} {w w' : World} {x : Li} {v : Value} (hb : ∀ (p : Addr) (y : Value), S p.block → w.cell? p = some y → w'.cell? p = some y) (h : LiIn S w x v) : LiIn S w' x v := by
  obtain ⟨u1, u2, u3, u4, e, h1, h2⟩ := h
  exact ⟨u1, u2, u3, u4, e, h1.keep hb, h2.keep hb⟩
theorem LiIn.mono {S S' : Nat → Prop} {w : World} {x : Li} {v : Value} (hb : ∀ b, S b → b < w.heap.size → S' b) (h : LiIn S w x v) : LiIn S' w x v := by
  obtain ⟨u1, u2, u3, u4, e, h1, h2⟩ := h
  exact ⟨u1, u2, u3, u4, e, h1.mono hb, h2.mono hb⟩
theorem LiIn.parts {S : Nat → Prop} {w : World} {x : Li} {v : Value} (h : LiIn S w x v) : ∃ (a1 a2 : Option Addr) (c1 c2 : Nat), v = .agg #[.bool x.neg, .int .i64 x.l.f, .slice a1 x.l.args.length c1, .int .i64 x.r.f, .slice a2 x.r.args.length c2] := by
  obtain ⟨u1, u2, u3, u4, e, h1, h2⟩ := h
  obtain ⟨p1, q1, rfl, rfl⟩ := h1.parts
  obtain ⟨p2, q2, rfl, rfl⟩ := h2.parts
  exact ⟨p1, p2, q1, q2, e⟩
theorem LiIn.two {S : Nat → Prop} {w : World} {x : Li} {v0 v1 v2 v3 v4 : Value} (h : LiIn S w x (.agg #[v0, v1, v2, v3, v4])) : InT S w x.l (.agg #[v1, v2]) ∧ InT S w x.r (.agg #[v3, v4]) := by
  obtain ⟨u1, u2, u3, u4, e, h1, h2⟩ := h
  simp only [Value.agg.injEq, Array.mk.injEq, List.cons.injEq, and_true] at e
  obtain ⟨rfl, rfl, rfl, rfl, rfl⟩ := e
  exact ⟨h1, h2⟩
theorem NewL.below {w0 w w' : World} {x : Li} {v : Value} (h : NewL w0 w x v) (hb : Below w.heap.size w w') : NewL w0 w' x v := by
  obtain ⟨u1, u2, u3, u4, e, h1, h2⟩ := h
  exact ⟨u1, u2, u3, u4, e, h1.below hb, h2.below hb⟩
theorem NewL.chg {S : Nat → Prop} {w0 w w' : World} {x : Li} {v : Value} (h : NewL w0 w x v) (hc : Chg S w w') (hS : ∀ b, w0.heap.size ≤ b → ¬ S b) : NewL w0 w' x v := by
  obtain ⟨u1, u2, u3, u4, e, h1, h2⟩ := h
  exact ⟨u1, u2, u3, u4, e, h1.chg hc hS, h2.chg hc hS⟩
theorem NewL.older {w0 w1 w : World} {x : Li} {v : Value} (h : NewL w1 w x v) (hl : w0.heap.size ≤ w1.heap.size) : NewL w0 w x v := by
  obtain ⟨u1, u2, u3, u4, e, h1, h2⟩ := h
  exact ⟨u1, u2, u3, u4, e, h1.mono (fun b hb _ => Nat.le_trans hl hb), h2.mono (fun b hb _ => Nat.le_trans hl hb)⟩
theorem NewL.parts {w0 w : World} {x : Li} {v : Value} (h : NewL w0 w x v) : ∃ (a1 a2 : Option Addr) (c1 c2 : Nat), v = .agg #[.bool x.neg, .int .i64 x.l.f, .slice a1 x.l.args.length c1, .int .i64 x.r.f, .slice a2 x.r.args.length c2] := by
  obtain ⟨u1, u2, u3, u4, e, h1, h2⟩ := h
  obtain ⟨p1, q1, rfl, rfl⟩ := h1.parts
  obtain ⟨p2, q2, rfl, rfl⟩ := h2.parts
  exact ⟨p1, p2, q1, q2, e⟩
theorem NewL.elt {w0 w : World} {x : Li} {v0 v1 v2 v3 v4 : Value} (h : NewL w0 w x (.agg #[v0, v1, v2, v3, v4])) : eltL.In (fun b => w0.heap.size ≤ b) w x [v0, v1, v2, v3, v4] := by
  obtain ⟨u1, u2, u3, u4, e, h1, h2⟩ := h
  simp only [Value.agg.injEq, Array.mk.injEq, List.cons.injEq, and_true] at e
  obtain ⟨rfl, rfl, rfl, rfl, rfl⟩ := e
  exact ⟨_, _, _, _, rfl, h1, h2⟩
theorem newL_mk {w0 w : World} {x : Li} {u1 u2 u3 u4 : Value} (h1 : NewT w0 w x.l (.agg #[u1, u2])) (h2 : NewT w0 w x.r (.agg #[u3, u4])) : NewL w0 w x (.agg #[.bool x.neg, u1, u2, u3, u4]) := ⟨_, _, _, _, rfl, h1, h2⟩
/-- A box in which a new literal lies. -/
def LiBox (w0 w : World) (g ty : Nat) (x : Li) : Prop := ∃ (a1 a2 : Option Addr) (c1 c2 : Nat), Blk w g ty #[.bool x.neg, .int .i64 x.l.f, .slice a1 x.l.args.length c1, .int .i64 x.r.f, .slice a2 x.r.args.length c2] ∧ NewL w0 w x (.agg #[.bool x.neg, .int .i64 x.l.f, .slice a1 x.l.args.length c1, .int .i64 x.r.f, .slice a2 x.r.args.length c2])
theorem LiBox.below {w0 w w' : World} {g ty : Nat} {x : Li} (h : LiBox w0 w g ty x) (hb : Below w.heap.size w w') : LiBox w0 w' g ty x := by
  obtain ⟨a1, a2, c1, c2, h1, h2⟩ := h
  exact ⟨a1, a2, c1, c2, h1.below hb, h2.below hb⟩
/-- A clause in memory, made since. -/
def NewC (w0 w : World) (l : List Li) (a : Option Addr) (c : Nat) : Prop := InRow eltL (fun b => w0.heap.size ≤ b) w l a ∧ l.length ≤ c ∧ c ≤ maxLen
theorem NewC.below {w0 w w' : World} {l : List Li} {a : Option Addr} {c : Nat} (h : NewC w0 w l a c) (hb : Below w.heap.size w w') : NewC w0 w' l a c := ⟨h.1.below hb, h.2⟩
theorem NewC.isLs {w0 w : World} {l : List Li} {a : Option Addr} {c : Nat} (h : NewC w0 w l a c) : IsLs w l a := h.1.mono (by decide) (fun _ _ _ => trivial)
theorem newC_row {w0 w : World} {B e : Nat} {ra : Option Addr} {rc n : Nat} {l : List Li} (h : RowE eltL w B e ra rc n l) (hB : w0.heap.size ≤ B) : n = l.length ∧ NewC w0 w l ra rc := by
  obtain ⟨h1, h2, h3, h4⟩ := h.inRow
  exact ⟨h2, h1.mono (by decide) (fun b hb _ => Nat.le_trans hB hb), by omega, h4⟩
end Go.Proofs.Ytnmopmdpnpcdhaa

namespace Go.Proofs.Ytnmopmdpnpcdhaa
open Go.RowKit Go
set_option linter.unusedVariables false
set_option linter.unusedSimpArgs false
theorem IsTp.of {w : World} {b o : Nat} {a : Option Addr} {c : Nat} {t : T} (h1 : w.cell? ⟨b, o, none⟩ = some (.int .i64 t.f)) (h2 : w.cell? ⟨b, o + 1, none⟩ = some (.slice a t.args.length c)) (h3 : IsT w t (.agg #[.int .i64 t.f, .slice a t.args.length c])) : IsTp w t (.pointer (some ⟨b, o, none⟩)) := ⟨b, o, a, c, rfl, h1, h2, h3⟩
set_option maxRecDepth 100000 in
theorem plainp_any : ∀ (t : T) (w : World) (v : Value), t.size ≤ 4294967296 → IsTp w t v → Calls Try.prog 69 #[v] w (Ret fun v' w' => v' = .bool t.plain ∧ Below w.heap.size w w') := by
 refine T.ind (fun f l ih => ?_)
 intro w v hz hv
 have hlen := len_le_sizeL l
 have hz' := hz
 simp only [T.size] at hz'
 obtain ⟨b, o, a, c, rfl, hc1, hc2, hT⟩ := hv
 obtain ⟨hf, a', c', e', hc, hm, hl⟩ := hT
 obtain ⟨rfl, rfl⟩ : a = a' ∧ c = c' := by simpa using e'
 simp only [T.f_mk, T.args_mk] at hc1 hc2
 refine Calls.walk (l := [.pointer (some ⟨b, o, none⟩)]) Try.func69 rfl (by kernel_rfl) ?_
 refine WC.sub (K' := [(0, .pointer (some ⟨b, o, none⟩))]) ⟨rfl, trivial⟩ ?_
 refine WC.seq (WC.region (WL.asg rfl rfl rfl rfl rfl (WL.nil (WE.next (WC.seq (WC.seq ?_))))))
 refine WC.opt [(true, .val (.pointer (some ⟨b, o, none⟩))), (true, .val (.pointer (some ⟨b, o, none⟩))), (true, .val (.pointer (some ⟨b, o, none⟩))), (true, .val (.int .i64 f)), (true, .val (.bool ((decide ((f : Int) < (0 : Int)))))), (true, .val (.bool ((decide ((f : Int) < (0 : Int)))))), ((true && (decide ((f : Int) < (0 : Int)))), .val (.pointer (some ⟨b, o, none⟩))), ((true && (decide ((f : Int) < (0 : Int)))), .val (.pointer (some ⟨b, o, none⟩))), ((true && (decide ((f : Int) < (0 : Int)))), .val (.pointer (some ⟨b, o + 1, none⟩))), ((true && (decide ((f : Int) < (0 : Int)))), .val (.slice a l.length c)), ((true && (decide ((f : Int) < (0 : Int)))), .val (.int .i64 (((l.length : Nat) : Int)))), ((true && (decide ((f : Int) < (0 : Int)))), .val (.bool ((decide ((0 : Int) < (((l.length : Nat) : Int) : Int)))))), (true, .val (.bool (((decide ((f : Int) < (0 : Int))) && (decide ((0 : Int) < (((l.length : Nat) : Int) : Int)))))))] [(0, .pointer (some ⟨b, o, none⟩)), (2, .bool false)] ⟨rfl, rfl, trivial⟩ (by kernel_rfl) (by kernel_rfl) (by kernel_rfl) ?_ ?_
 ·refine ⟨⟨true, .none rfl, fun h w => optUndef h, fun zβ za zw zc => ?_⟩, ?_⟩
  ·exact wp_move rfl (zc.kn.ev rfl) ⟨_, rfl, Below.refl _ _, optDef zβ rfl⟩
  refine ⟨⟨true, .none rfl, fun h w => optUndef h, fun zβ za zw zc => ?_⟩, ?_⟩
  ·exact nilCheck_ rfl ((evt za 4).trans (optVal (zc.dep 0 4 (by kernel_rfl)) rfl rfl)) ⟨_, rfl, Below.refl _ _, optDef zβ rfl⟩
  refine ⟨⟨true, .none rfl, fun h w => optUndef h, fun zβ za zw zc => ?_⟩, ?_⟩
  ·exact fld_58_0 rfl ((evt za 5).trans (optVal (zc.dep 1 5 (by kernel_rfl)) rfl rfl)) ⟨_, rfl, Below.refl _ _, optDef zβ rfl⟩
  refine ⟨⟨true, .none rfl, fun h w => optUndef h, fun zβ za zw zc => ?_⟩, ?_⟩
  ·exact ld_3 rfl ((evt za 6).trans (optVal (zc.dep 2 6 (by kernel_rfl)) rfl rfl)) (bkeeps zc.below _ _ hc1) ⟨_, rfl, Below.refl _ _, optDef zβ rfl⟩
  refine ⟨⟨true, .none rfl, fun h w => optUndef h, fun zβ za zw zc => ?_⟩, ?_⟩
  ·exact lss_3 rfl ((evt za 7).trans (optVal (zc.dep 3 7 (by kernel_rfl)) rfl rfl)) (zc.kn.ev rfl) ⟨_, rfl, Below.refl _ _, optDef zβ rfl⟩
  refine ⟨⟨true, .none rfl, fun h w => optUndef h, fun zβ za zw zc => ?_⟩, ?_⟩
  ·exact wp_move rfl ((evt za 8).trans (optVal (zc.dep 4 8 (by kernel_rfl)) rfl rfl)) ⟨_, rfl, Below.refl _ _, optDef zβ rfl⟩
  refine ⟨⟨_, .yes (c := (decide ((f : Int) < (0 : Int)))) (d := true) rfl (fun v w h => h), fun h w => optUndef h, fun zβ za zw zc => ?_⟩, ?_⟩
  ·exact wp_move rfl (zc.kn.ev rfl) ⟨_, rfl, Below.refl _ _, optDef zβ rfl⟩
  refine ⟨⟨_, .yes (c := (decide ((f : Int) < (0 : Int)))) (d := true) rfl (fun v w h => h), fun h w => optUndef h, fun zβ za zw zc => ?_⟩, ?_⟩
  ·exact nilCheck_ rfl ((evt za 10).trans (optVal (zc.dep 6 10 (by kernel_rfl)) rfl zβ)) ⟨_, rfl, Below.refl _ _, optDef zβ rfl⟩
  refine ⟨⟨_, .yes (c := (decide ((f : Int) < (0 : Int)))) (d := true) rfl (fun v w h => h), fun h w => optUndef h, fun zβ za zw zc => ?_⟩, ?_⟩
  ·exact fld_58_1 rfl ((evt za 11).trans (optVal (zc.dep 7 11 (by kernel_rfl)) rfl zβ)) ⟨_, rfl, Below.refl _ _, optDef zβ rfl⟩
  refine ⟨⟨_, .yes (c := (decide ((f : Int) < (0 : Int)))) (d := true) rfl (fun v w h => h), fun h w => optUndef h, fun zβ za zw zc => ?_⟩, ?_⟩
  ·exact ld_56 rfl ((evt za 12).trans (optVal (zc.dep 8 12 (by kernel_rfl)) rfl zβ)) (bkeeps zc.below _ _ hc2) ⟨_, rfl, Below.refl _ _, optDef zβ rfl⟩
  refine ⟨⟨_, .yes (c := (decide ((f : Int) < (0 : Int)))) (d := true) rfl (fun v w h => h), fun h w => optUndef h, fun zβ za zw zc => ?_⟩, ?_⟩
  ·exact len_56 rfl ((evt za 13).trans (optVal (zc.dep 9 13 (by kernel_rfl)) rfl zβ)) ⟨_, rfl, Below.refl _ _, optDef zβ rfl⟩
  refine ⟨⟨_, .yes (c := (decide ((f : Int) < (0 : Int)))) (d := true) rfl (fun v w h => h), fun h w => optUndef h, fun zβ za zw zc => ?_⟩, ?_⟩
  ·exact gtr_3 rfl ((evt za 14).trans (optVal (zc.dep 10 14 (by kernel_rfl)) rfl zβ)) (zc.kn.ev rfl) ⟨_, rfl, Below.refl _ _, optDef zβ rfl⟩
  refine ⟨⟨true, .none rfl, fun h w => optUndef h, fun zβ za zw zc => ?_⟩, ?_⟩
  ·exact wp_and rfl ((evt za 9).trans (optVal (zc.dep 5 9 (by kernel_rfl)) rfl rfl)) (fun hp => ((evt za 15).trans (optVal (zc.dep 11 15 (by kernel_rfl)) rfl (bMk zβ hp)))) ⟨_, rfl, Below.refl _ _, optDef zβ rfl⟩
  exact trivial
 ·intro za w1 zh hb2 zu
  have zh := zh.cons (d := 16) (v := .bool (((decide ((f : Int) < (0 : Int))) && (decide ((0 : Int) < (((l.length : Nat) : Int) : Int)))))) (optVal (zu 12 16 (by kernel_rfl)) rfl rfl)
  clear zu
  refine WE.go zh ?_
  refine WE.next ?_
  refine WC.cond rfl (fun h3 => ?_) (fun h3 => ?_)
  ·have h3 : ((f : Int) < (0 : Int)) ∧ ((0 : Int) < (((l.length : Nat) : Int) : Int)) := by simpa using h3
   refine WC.seq (WC.region (WL.asg rfl rfl rfl rfl rfl (WL.nil (WE.next (WC.ret (WE.thenRet (WE.ret1 rfl rfl ?_)))))))
   have z := h3
   exact ⟨_, rfl, congrArg Value.bool (Eq.symm (plain_var (by omega) (by omega))), hb2⟩
  ·have h3 : ¬ (((f : Int) < (0 : Int)) ∧ ((0 : Int) < (((l.length : Nat) : Int) : Int))) := by simpa using h3
   refine WC.skip (WE.next (WC.seq (WC.seq (WC.region (WL.mv rfl rfl rfl rfl rfl ?_)))))
   refine WL.val _ rfl rfl rfl (fun za zC zh zk => nilCheck_ rfl (zh.ev rfl) zk) ?_
   refine WL.val _ rfl rfl rfl (fun za zC zh zk => fld_58_1 rfl (zh.ev rfl) zk) ?_
   refine WL.val _ rfl rfl rfl (fun za zC zh zk => ld_56 rfl (zh.ev rfl) (bkeeps hb2 _ _ hc2) zk) ?_
   refine WL.val (.int .i64 (((l.length : Nat) : Int))) rfl rfl rfl (fun za zC zh zk => len_56 rfl (zh.ev rfl) zk) ?_
   refine WL.mv rfl rfl rfl rfl rfl (WL.nil (WE.next (WC.block ?_)))
   refine WC.loop (X := Nat) (fun k => l.length - k) (fun k => [(0, .pointer (some ⟨b, o, none⟩)), (16, .bool (((decide ((f : Int) < (0 : Int))) && (decide ((0 : Int) < (((l.length : Nat) : Int) : Int)))))), (21, .int .i64 (((l.length : Nat) : Int))), (22, .int .i64 (((k : Nat) : Int)))]) (fun k w4 => k ≤ l.length ∧ (∀ i, i < k → (tget l i).plain = true) ∧ Below w.heap.size w w4) 0 ⟨rfl, rfl, rfl, rfl, trivial⟩ ?_ ?_
   ·exact ⟨Nat.zero_le _, fun i h => absurd h (Nat.not_lt_zero i), hb2⟩
   ·rintro k w4 ⟨hk, hE, hb5⟩
    refine WC.seq (WC.region ?_)
    refine WL.val (.bool ((decide ((((k : Nat) : Int) : Int) < (((l.length : Nat) : Int) : Int))))) rfl rfl rfl (fun za zC zh zk => lss_3 rfl (zh.ev rfl) (zh.ev rfl) zk) ?_
    refine WL.nil (WE.next (WC.seq ?_))
    refine WC.cond rfl (fun h6 => ?_) (fun h6 => ?_)
    ·have h6 : (((k : Nat) : Int) : Int) < (((l.length : Nat) : Int) : Int) := by simpa using h6
     refine WC.skip (WE.next (WC.seq (WC.block (WC.seq (WC.region (WL.mv rfl rfl rfl rfl rfl (WL.asg rfl rfl rfl rfl rfl (WL.nil (WE.next (WC.seq (WC.region (WL.mv rfl rfl rfl rfl rfl ?_))))))))))))
     refine WL.val _ rfl rfl rfl (fun za zC zh zk => nilCheck_ rfl (zh.ev rfl) zk) ?_
     refine WL.val _ rfl rfl rfl (fun za zC zh zk => fld_58_1 rfl (zh.ev rfl) zk) ?_
     refine WL.val _ rfl rfl rfl (fun za zC zh zk => ld_56 rfl (zh.ev rfl) (bkeeps hb5 _ _ hc2) zk) ?_
     refine WL.mv rfl rfl rfl rfl rfl ?_
     obtain ⟨b7, o8, A9, C10, ha11, hc12⟩ := IsTs.open hl
     refine WL.val _ rfl rfl rfl (fun za zC zh zk => ix_56 (k := k) rfl (zh.ev rfl) (ha11 k (by first | omega | (simp; omega))) (zh.ev rfl) (by first | omega | (simp; omega)) zk) ?_
     refine WL.call rfl rfl rfl (fun za zh zC => wp_call (by kernel_rfl) rfl (hv1 (zh.ev rfl))) (ih _ (tget_mem (by omega)) _ _ (size_at (by omega) hz) (IsTp.of (bkeeps hb5 _ _ (hc12 k (by first | omega | (simp; omega))).1) (bkeeps hb5 _ _ (hc12 k (by first | omega | (simp; omega))).2.1) (IsT.below hb5 (hc12 k (by first | omega | (simp; omega))).2.2))) ?_
     rintro _ w14 ⟨rfl, hq13⟩
     refine WL.val (.bool ((!(tget l k).plain))) rfl rfl rfl (fun za zC zh zk => wp_not rfl (zh.ev rfl) zk) ?_
     refine WL.nil (WE.next ?_)
     refine WC.cond rfl (fun h15 => ?_) (fun h15 => ?_)
     ·have h15 : ¬ ((tget l k).plain = true) := by simpa using h15
      refine WC.seq (WC.region (WL.asg rfl rfl rfl rfl rfl (WL.nil (WE.next (WC.ret (WE.blockRet (WE.thenRet (WE.thenRet (WE.blockRet (WE.thenRet (WE.ret1 rfl rfl ?_)))))))))))
      have hb16 : Below w.heap.size w w14 := (bstep hb5 hq13)
      exact ⟨_, rfl, congrArg Value.bool (Eq.symm (plain_no (k := k) (by omega) (by simpa using h15))), hb16⟩
     ·have h15 : ¬ (¬ ((tget l k).plain = true)) := by simpa using h15
      refine WC.skip (WE.blockNormal (WE.next (WC.region ?_)))
      refine WL.val (.int .i64 ((((k + 1) : Nat) : Int))) rfl rfl rfl (fun za zC zh zk => addb_3 rfl (zh.ev rfl) (zh.ev rfl) (wrap_eq (by omega) (by omega) (by omega)) zk) ?_
      refine WL.mv rfl rfl rfl rfl rfl (WL.nil ?_)
      refine WE.round (k + 1) ⟨rfl, rfl, rfl, rfl, trivial⟩ ?_ ?_
      ·have hb17 : Below w.heap.size w w14 := (bstep hb5 hq13)
       exact ⟨by omega, fun i hi => by rcases Nat.lt_or_ge i k with q | q; exact hE i q; (obtain rfl : i = k := by omega); simpa using h15, hb17⟩
      ·omega
    ·have h6 : ¬ ((((k : Nat) : Int) : Int) < (((l.length : Nat) : Int) : Int)) := by simpa using h6
     refine WC.exit (WE.thenExit (WE.thenExit (WE.blockIs rfl (WE.next (WC.seq (WC.region (WL.asg rfl rfl rfl rfl rfl (WL.nil (WE.next (WC.ret (WE.ret1 rfl rfl ?_)))))))))))
     exact ⟨_, rfl, congrArg Value.bool (Eq.symm (plain_yes (by omega) (fun i hi => hE i (by omega)))), hb5⟩
def T.top (t : T) : Bool := decide (t.f = 0) && decide (t.args.length = 0)
def Li.atom (x : Li) : Bool := x.l.top || x.r.top
set_option maxRecDepth 100000 in
theorem atom_any (x : Li) (w : World) (g : Nat) (a1 a2 : Option Addr) (c1 c2 : Nat) (hB : Blk w g 60 #[.bool x.neg, .int .i64 x.l.f, .slice a1 x.l.args.length c1, .int .i64 x.r.f, .slice a2 x.r.args.length c2]) : Calls Try.prog 50 #[.pointer (some ⟨g, 0, none⟩)] w (Ret fun v' w' => v' = .bool x.atom ∧ Below w.heap.size w w') := by
 have hgl := hB.lt
 refine Calls.walk (l := [.pointer (some ⟨g, 0, none⟩)]) Try.func50 rfl (by kernel_rfl) ?_
 refine WC.sub (K' := [(0, .pointer (some ⟨g, 0, none⟩))]) ⟨rfl, trivial⟩ ?_
 refine WC.seq (WC.region (WL.asg rfl rfl rfl rfl rfl (WL.nil (WE.next (WC.seq ?_)))))
 refine WC.opt [(true, .val (.pointer (some ⟨g, 0, none⟩))), (true, .val (.pointer (some ⟨g, 0, none⟩))), (true, .val (.pointer (some ⟨g, 1, none⟩))), (true, .val (.pointer (some ⟨g, 1, none⟩))), (true, .val (.int .i64 x.l.f)), (true, .val (.bool (((x.l.f : Int) == (0 : Int))))), (true, .val (.bool (((x.l.f : Int) == (0 : Int))))), ((true && ((x.l.f : Int) == (0 : Int))), .val (.pointer (some ⟨g, 0, none⟩))), ((true && ((x.l.f : Int) == (0 : Int))), .val (.pointer (some ⟨g, 0, none⟩))), ((true && ((x.l.f : Int) == (0 : Int))), .val (.pointer (some ⟨g, 1, none⟩))), ((true && ((x.l.f : Int) == (0 : Int))), .val (.pointer (some ⟨g, 2, none⟩))), ((true && ((x.l.f : Int) == (0 : Int))), .val (.slice a1 x.l.args.length c1)), ((true && ((x.l.f : Int) == (0 : Int))), .val (.int .i64 (((x.l.args.length : Nat) : Int)))), ((true && ((x.l.f : Int) == (0 : Int))), .val (.bool (((((x.l.args.length : Nat) : Int) : Int) == (0 : Int))))), (true, .val (.bool ((((x.l.f : Int) == (0 : Int)) && ((((x.l.args.length : Nat) : Int) : Int) == (0 : Int)))))), (true, .val (.bool ((((x.l.f : Int) == (0 : Int)) && ((((x.l.args.length : Nat) : Int) : Int) == (0 : Int)))))), ((true && !(((x.l.f : Int) == (0 : Int)) && ((((x.l.args.length : Nat) : Int) : Int) == (0 : Int)))), .val (.pointer (some ⟨g, 0, none⟩))), ((true && !(((x.l.f : Int) == (0 : Int)) && ((((x.l.args.length : Nat) : Int) : Int) == (0 : Int)))), .val (.pointer (some ⟨g, 0, none⟩))), ((true && !(((x.l.f : Int) == (0 : Int)) && ((((x.l.args.length : Nat) : Int) : Int) == (0 : Int)))), .val (.pointer (some ⟨g, 3, none⟩))), ((true && !(((x.l.f : Int) == (0 : Int)) && ((((x.l.args.length : Nat) : Int) : Int) == (0 : Int)))), .val (.pointer (some ⟨g, 3, none⟩))), ((true && !(((x.l.f : Int) == (0 : Int)) && ((((x.l.args.length : Nat) : Int) : Int) == (0 : Int)))), .val (.int .i64 x.r.f)), ((true && !(((x.l.f : Int) == (0 : Int)) && ((((x.l.args.length : Nat) : Int) : Int) == (0 : Int)))), .val (.bool (((x.r.f : Int) == (0 : Int))))), ((true && !(((x.l.f : Int) == (0 : Int)) && ((((x.l.args.length : Nat) : Int) : Int) == (0 : Int)))), .val (.bool (((x.r.f : Int) == (0 : Int))))), (((true && !(((x.l.f : Int) == (0 : Int)) && ((((x.l.args.length : Nat) : Int) : Int) == (0 : Int)))) && ((x.r.f : Int) == (0 : Int))), .val (.pointer (some ⟨g, 0, none⟩))), (((true && !(((x.l.f : Int) == (0 : Int)) && ((((x.l.args.length : Nat) : Int) : Int) == (0 : Int)))) && ((x.r.f : Int) == (0 : Int))), .val (.pointer (some ⟨g, 0, none⟩))), (((true && !(((x.l.f : Int) == (0 : Int)) && ((((x.l.args.length : Nat) : Int) : Int) == (0 : Int)))) && ((x.r.f : Int) == (0 : Int))), .val (.pointer (some ⟨g, 3, none⟩))), (((true && !(((x.l.f : Int) == (0 : Int)) && ((((x.l.args.length : Nat) : Int) : Int) == (0 : Int)))) && ((x.r.f : Int) == (0 : Int))), .val (.pointer (some ⟨g, 4, none⟩))), (((true && !(((x.l.f : Int) == (0 : Int)) && ((((x.l.args.length : Nat) : Int) : Int) == (0 : Int)))) && ((x.r.f : Int) == (0 : Int))), .val (.slice a2 x.r.args.length c2)), (((true && !(((x.l.f : Int) == (0 : Int)) && ((((x.l.args.length : Nat) : Int) : Int) == (0 : Int)))) && ((x.r.f : Int) == (0 : Int))), .val (.int .i64 (((x.r.args.length : Nat) : Int)))), (((true && !(((x.l.f : Int) == (0 : Int)) && ((((x.l.args.length : Nat) : Int) : Int) == (0 : Int)))) && ((x.r.f : Int) == (0 : Int))), .val (.bool (((((x.r.args.length : Nat) : Int) : Int) == (0 : Int))))), ((true && !(((x.l.f : Int) == (0 : Int)) && ((((x.l.args.length : Nat) : Int) : Int) == (0 : Int)))), .val (.bool ((((x.r.f : Int) == (0 : Int)) && ((((x.r.args.length : Nat) : Int) : Int) == (0 : Int)))))), (true, .val (.bool (((((x.l.f : Int) == (0 : Int)) && ((((x.l.args.length : Nat) : Int) : Int) == (0 : Int))) || (((x.r.f : Int) == (0 : Int)) && ((((x.r.args.length : Nat) : Int) : Int) == (0 : Int))))))), (true, .val (.bool (((((x.l.f : Int) == (0 : Int)) && ((((x.l.args.length : Nat) : Int) : Int) == (0 : Int))) || (((x.r.f : Int) == (0 : Int)) && ((((x.r.args.length : Nat) : Int) : Int) == (0 : Int)))))))] [(0, .pointer (some ⟨g, 0, none⟩))] ⟨rfl, trivial⟩ (by kernel_rfl) (by kernel_rfl) (by kernel_rfl) ?_ ?_
 ·refine ⟨⟨true, .none rfl, fun h w => optUndef h, fun zβ za zw zc => ?_⟩, ?_⟩
  ·exact wp_move rfl (zc.kn.ev rfl) ⟨_, rfl, Below.refl _ _, optDef zβ rfl⟩
  refine ⟨⟨true, .none rfl, fun h w => optUndef h, fun zβ za zw zc => ?_⟩, ?_⟩
  ·exact nilCheck_ rfl ((evt za 3).trans (optVal (zc.dep 0 3 (by kernel_rfl)) rfl rfl)) ⟨_, rfl, Below.refl _ _, optDef zβ rfl⟩
  refine ⟨⟨true, .none rfl, fun h w => optUndef h, fun zβ za zw zc => ?_⟩, ?_⟩
  ·exact fld_60_1 rfl ((evt za 4).trans (optVal (zc.dep 1 4 (by kernel_rfl)) rfl rfl)) ⟨_, rfl, Below.refl _ _, optDef zβ rfl⟩
  refine ⟨⟨true, .none rfl, fun h w => optUndef h, fun zβ za zw zc => ?_⟩, ?_⟩
  ·exact fld_58_0 rfl ((evt za 5).trans (optVal (zc.dep 2 5 (by kernel_rfl)) rfl rfl)) ⟨_, rfl, Below.refl _ _, optDef zβ rfl⟩
  refine ⟨⟨true, .none rfl, fun h w => optUndef h, fun zβ za zw zc => ?_⟩, ?_⟩
  ·exact ld_3 rfl ((evt za 6).trans (optVal (zc.dep 3 6 (by kernel_rfl)) rfl rfl)) (bkeeps zc.below _ _ ((hB.cell 1).trans rfl)) ⟨_, rfl, Below.refl _ _, optDef zβ rfl⟩
  refine ⟨⟨true, .none rfl, fun h w => optUndef h, fun zβ za zw zc => ?_⟩, ?_⟩
  ·exact eql_3 rfl ((evt za 7).trans (optVal (zc.dep 4 7 (by kernel_rfl)) rfl rfl)) (zc.kn.ev rfl) ⟨_, rfl, Below.refl _ _, optDef zβ rfl⟩
  refine ⟨⟨true, .none rfl, fun h w => optUndef h, fun zβ za zw zc => ?_⟩, ?_⟩
  ·exact wp_move rfl ((evt za 8).trans (optVal (zc.dep 5 8 (by kernel_rfl)) rfl rfl)) ⟨_, rfl, Below.refl _ _, optDef zβ rfl⟩
  refine ⟨⟨_, .yes (c := ((x.l.f : Int) == (0 : Int))) (d := true) rfl (fun v w h => h), fun h w => optUndef h, fun zβ za zw zc => ?_⟩, ?_⟩
  ·exact wp_move rfl (zc.kn.ev rfl) ⟨_, rfl, Below.refl _ _, optDef zβ rfl⟩
  refine ⟨⟨_, .yes (c := ((x.l.f : Int) == (0 : Int))) (d := true) rfl (fun v w h => h), fun h w => optUndef h, fun zβ za zw zc => ?_⟩, ?_⟩
  ·exact nilCheck_ rfl ((evt za 10).trans (optVal (zc.dep 7 10 (by kernel_rfl)) rfl zβ)) ⟨_, rfl, Below.refl _ _, optDef zβ rfl⟩
  refine ⟨⟨_, .yes (c := ((x.l.f : Int) == (0 : Int))) (d := true) rfl (fun v w h => h), fun h w => optUndef h, fun zβ za zw zc => ?_⟩, ?_⟩
  ·exact fld_60_1 rfl ((evt za 11).trans (optVal (zc.dep 8 11 (by kernel_rfl)) rfl zβ)) ⟨_, rfl, Below.refl _ _, optDef zβ rfl⟩
  refine ⟨⟨_, .yes (c := ((x.l.f : Int) == (0 : Int))) (d := true) rfl (fun v w h => h), fun h w => optUndef h, fun zβ za zw zc => ?_⟩, ?_⟩
  ·exact fld_58_1 rfl ((evt za 12).trans (optVal (zc.dep 9 12 (by kernel_rfl)) rfl zβ)) ⟨_, rfl, Below.refl _ _, optDef zβ rfl⟩
  refine ⟨⟨_, .yes (c := ((x.l.f : Int) == (0 : Int))) (d := true) rfl (fun v w h => h), fun h w => optUndef h, fun zβ za zw zc => ?_⟩, ?_⟩
  ·exact ld_56 rfl ((evt za 13).trans (optVal (zc.dep 10 13 (by kernel_rfl)) rfl zβ)) (bkeeps zc.below _ _ ((hB.cell 2).trans rfl)) ⟨_, rfl, Below.refl _ _, optDef zβ rfl⟩
  refine ⟨⟨_, .yes (c := ((x.l.f : Int) == (0 : Int))) (d := true) rfl (fun v w h => h), fun h w => optUndef h, fun zβ za zw zc => ?_⟩, ?_⟩
  ·exact len_56 rfl ((evt za 14).trans (optVal (zc.dep 11 14 (by kernel_rfl)) rfl zβ)) ⟨_, rfl, Below.refl _ _, optDef zβ rfl⟩
  refine ⟨⟨_, .yes (c := ((x.l.f : Int) == (0 : Int))) (d := true) rfl (fun v w h => h), fun h w => optUndef h, fun zβ za zw zc => ?_⟩, ?_⟩
  ·exact eql_3 rfl ((evt za 15).trans (optVal (zc.dep 12 15 (by kernel_rfl)) rfl zβ)) (zc.kn.ev rfl) ⟨_, rfl, Below.refl _ _, optDef zβ rfl⟩
  refine ⟨⟨true, .none rfl, fun h w => optUndef h, fun zβ za zw zc => ?_⟩, ?_⟩
  ·exact wp_and rfl ((evt za 9).trans (optVal (zc.dep 6 9 (by kernel_rfl)) rfl rfl)) (fun hp => ((evt za 16).trans (optVal (zc.dep 13 16 (by kernel_rfl)) rfl (bMk zβ hp)))) ⟨_, rfl, Below.refl _ _, optDef zβ rfl⟩
  refine ⟨⟨true, .none rfl, fun h w => optUndef h, fun zβ za zw zc => ?_⟩, ?_⟩
  ·exact wp_move rfl ((evt za 17).trans (optVal (zc.dep 14 17 (by kernel_rfl)) rfl rfl)) ⟨_, rfl, Below.refl _ _, optDef zβ rfl⟩
  refine ⟨⟨_, .no (c := (((x.l.f : Int) == (0 : Int)) && ((((x.l.args.length : Nat) : Int) : Int) == (0 : Int)))) (d := true) rfl (fun v w h => h), fun h w => optUndef h, fun zβ za zw zc => ?_⟩, ?_⟩
  ·exact wp_move rfl (zc.kn.ev rfl) ⟨_, rfl, Below.refl _ _, optDef zβ rfl⟩
  refine ⟨⟨_, .no (c := (((x.l.f : Int) == (0 : Int)) && ((((x.l.args.length : Nat) : Int) : Int) == (0 : Int)))) (d := true) rfl (fun v w h => h), fun h w => optUndef h, fun zβ za zw zc => ?_⟩, ?_⟩
  ·exact nilCheck_ rfl ((evt za 19).trans (optVal (zc.dep 16 19 (by kernel_rfl)) rfl zβ)) ⟨_, rfl, Below.refl _ _, optDef zβ rfl⟩
  refine ⟨⟨_, .no (c := (((x.l.f : Int) == (0 : Int)) && ((((x.l.args.length : Nat) : Int) : Int) == (0 : Int)))) (d := true) rfl (fun v w h => h), fun h w => optUndef h, fun zβ za zw zc => ?_⟩, ?_⟩
  ·exact fld_60_2 rfl ((evt za 20).trans (optVal (zc.dep 17 20 (by kernel_rfl)) rfl zβ)) ⟨_, rfl, Below.refl _ _, optDef zβ rfl⟩
  refine ⟨⟨_, .no (c := (((x.l.f : Int) == (0 : Int)) && ((((x.l.args.length : Nat) : Int) : Int) == (0 : Int)))) (d := true) rfl (fun v w h => h), fun h w => optUndef h, fun zβ za zw zc => ?_⟩, ?_⟩
  ·exact fld_58_0 rfl ((evt za 21).trans (optVal (zc.dep 18 21 (by kernel_rfl)) rfl zβ)) ⟨_, rfl, Below.refl _ _, optDef zβ rfl⟩
  refine ⟨⟨_, .no (c := (((x.l.f : Int) == (0 : Int)) && ((((x.l.args.length : Nat) : Int) : Int) == (0 : Int)))) (d := true) rfl (fun v w h => h), fun h w => optUndef h, fun zβ za zw zc => ?_⟩, ?_⟩
  ·exact ld_3 rfl ((evt za 22).trans (optVal (zc.dep 19 22 (by kernel_rfl)) rfl zβ)) (bkeeps zc.below _ _ ((hB.cell 3).trans rfl)) ⟨_, rfl, Below.refl _ _, optDef zβ rfl⟩
  refine ⟨⟨_, .no (c := (((x.l.f : Int) == (0 : Int)) && ((((x.l.args.length : Nat) : Int) : Int) == (0 : Int)))) (d := true) rfl (fun v w h => h), fun h w => optUndef h, fun zβ za zw zc => ?_⟩, ?_⟩
  ·exact eql_3 rfl ((evt za 23).trans (optVal (zc.dep 20 23 (by kernel_rfl)) rfl zβ)) (zc.kn.ev rfl) ⟨_, rfl, Below.refl _ _, optDef zβ rfl⟩
  refine ⟨⟨_, .no (c := (((x.l.f : Int) == (0 : Int)) && ((((x.l.args.length : Nat) : Int) : Int) == (0 : Int)))) (d := true) rfl (fun v w h => h), fun h w => optUndef h, fun zβ za zw zc => ?_⟩, ?_⟩
  ·exact wp_move rfl ((evt za 24).trans (optVal (zc.dep 21 24 (by kernel_rfl)) rfl zβ)) ⟨_, rfl, Below.refl _ _, optDef zβ rfl⟩
  refine ⟨⟨_, .yes (c := ((x.r.f : Int) == (0 : Int))) (d := (true && !(((x.l.f : Int) == (0 : Int)) && ((((x.l.args.length : Nat) : Int) : Int) == (0 : Int))))) rfl (fun v w h => h), fun h w => optUndef h, fun zβ za zw zc => ?_⟩, ?_⟩
  ·exact wp_move rfl (zc.kn.ev rfl) ⟨_, rfl, Below.refl _ _, optDef zβ rfl⟩
  refine ⟨⟨_, .yes (c := ((x.r.f : Int) == (0 : Int))) (d := (true && !(((x.l.f : Int) == (0 : Int)) && ((((x.l.args.length : Nat) : Int) : Int) == (0 : Int))))) rfl (fun v w h => h), fun h w => optUndef h, fun zβ za zw zc => ?_⟩, ?_⟩
  ·exact nilCheck_ rfl ((evt za 26).trans (optVal (zc.dep 23 26 (by kernel_rfl)) rfl zβ)) ⟨_, rfl, Below.refl _ _, optDef zβ rfl⟩
  refine ⟨⟨_, .yes (c := ((x.r.f : Int) == (0 : Int))) (d := (true && !(((x.l.f : Int) == (0 : Int)) && ((((x.l.args.length : Nat) : Int) : Int) == (0 : Int))))) rfl (fun v w h => h), fun h w => optUndef h, fun zβ za zw zc => ?_⟩, ?_⟩
  ·exact fld_60_2 rfl ((evt za 27).trans (optVal (zc.dep 24 27 (by kernel_rfl)) rfl zβ)) ⟨_, rfl, Below.refl _ _, optDef zβ rfl⟩
  refine ⟨⟨_, .yes (c := ((x.r.f : Int) == (0 : Int))) (d := (true && !(((x.l.f : Int) == (0 : Int)) && ((((x.l.args.length : Nat) : Int) : Int) == (0 : Int))))) rfl (fun v w h => h), fun h w => optUndef h, fun zβ za zw zc => ?_⟩, ?_⟩
  ·exact fld_58_1 rfl ((evt za 28).trans (optVal (zc.dep 25 28 (by kernel_rfl)) rfl zβ)) ⟨_, rfl, Below.refl _ _, optDef zβ rfl⟩
  refine ⟨⟨_, .yes (c := ((x.r.f : Int) == (0 : Int))) (d := (true && !(((x.l.f : Int) == (0 : Int)) && ((((x.l.args.length : Nat) : Int) : Int) == (0 : Int))))) rfl (fun v w h => h), fun h w => optUndef h, fun zβ za zw zc => ?_⟩, ?_⟩
  ·exact ld_56 rfl ((evt za 29).trans (optVal (zc.dep 26 29 (by kernel_rfl)) rfl zβ)) (bkeeps zc.below _ _ ((hB.cell 4).trans rfl)) ⟨_, rfl, Below.refl _ _, optDef zβ rfl⟩
  refine ⟨⟨_, .yes (c := ((x.r.f : Int) == (0 : Int))) (d := (true && !(((x.l.f : Int) == (0 : Int)) && ((((x.l.args.length : Nat) : Int) : Int) == (0 : Int))))) rfl (fun v w h => h), fun h w => optUndef h, fun zβ za zw zc => ?_⟩, ?_⟩
  ·exact len_56 rfl ((evt za 30).trans (optVal (zc.dep 27 30 (by kernel_rfl)) rfl zβ)) ⟨_, rfl, Below.refl _ _, optDef zβ rfl⟩
  refine ⟨⟨_, .yes (c := ((x.r.f : Int) == (0 : Int))) (d := (true && !(((x.l.f : Int) == (0 : Int)) && ((((x.l.args.length : Nat) : Int) : Int) == (0 : Int))))) rfl (fun v w h => h), fun h w => optUndef h, fun zβ za zw zc => ?_⟩, ?_⟩
  ·exact eql_3 rfl ((evt za 31).trans (optVal (zc.dep 28 31 (by kernel_rfl)) rfl zβ)) (zc.kn.ev rfl) ⟨_, rfl, Below.refl _ _, optDef zβ rfl⟩
  refine ⟨⟨_, .no (c := (((x.l.f : Int) == (0 : Int)) && ((((x.l.args.length : Nat) : Int) : Int) == (0 : Int)))) (d := true) rfl (fun v w h => h), fun h w => optUndef h, fun zβ za zw zc => ?_⟩, ?_⟩
  ·exact wp_and rfl ((evt za 25).trans (optVal (zc.dep 22 25 (by kernel_rfl)) rfl zβ)) (fun hp => ((evt za 32).trans (optVal (zc.dep 29 32 (by kernel_rfl)) rfl (bMk zβ hp)))) ⟨_, rfl, Below.refl _ _, optDef zβ rfl⟩
  refine ⟨⟨true, .none rfl, fun h w => optUndef h, fun zβ za zw zc => ?_⟩, ?_⟩
  ·exact wp_or rfl ((evt za 18).trans (optVal (zc.dep 15 18 (by kernel_rfl)) rfl rfl)) (fun hp => ((evt za 33).trans (optVal (zc.dep 30 33 (by kernel_rfl)) rfl (bMkN zβ hp)))) ⟨_, rfl, Below.refl _ _, optDef zβ rfl⟩
  refine ⟨⟨true, .none rfl, fun h w => optUndef h, fun zβ za zw zc => ?_⟩, ?_⟩
  ·exact wp_assign rfl ((evt za 34).trans (optVal (zc.dep 31 34 (by kernel_rfl)) rfl rfl)) ⟨_, rfl, Below.refl _ _, optDef zβ rfl⟩
  exact trivial
 ·intro za w1 zh hb2 zu
  have zh := zh.cons (d := 2) (v := .bool (((((x.l.f : Int) == (0 : Int)) && ((((x.l.args.length : Nat) : Int) : Int) == (0 : Int))) || (((x.r.f : Int) == (0 : Int)) && ((((x.r.args.length : Nat) : Int) : Int) == (0 : Int)))))) (optVal (zu 32 2 (by kernel_rfl)) rfl rfl)
  clear zu
  refine WE.go zh ?_
  refine WE.next (WC.ret (WE.ret1 rfl rfl ?_))
  exact ⟨_, rfl, congrArg Value.bool (by rw [Bool.eq_iff_iff]; simp [Li.atom, T.top]), hb2⟩
end Go.Proofs.Ytnmopmdpnpcdhaa
