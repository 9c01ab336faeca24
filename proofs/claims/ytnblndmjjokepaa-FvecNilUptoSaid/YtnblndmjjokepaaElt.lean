/- Elements of rows that are made: what lies in them lies in blocks that are told. -/
import Derived.Test.YtnblndmjjokepaaGrowR
import Derived.Laws.MakeOwn
namespace Go.Proofs.Ytnblndmjjokepaa
open Go.RowKit Go
set_option linter.unusedVariables false
set_option linter.unusedSimpArgs false

/-- A kind of element: so many cells, and what they hold of 'x', in blocks of 'S'. -/
structure Elt (α : Type) where
  k : Nat
  In : (Nat → Prop) → World → α → List Value → Prop
  keep : ∀ {S : Nat → Prop} {w w' : World} {x : α} {cs : List Value}, (∀ (p : Addr) (v : Value), S p.block → w.cell? p = some v → w'.cell? p = some v) → In S w x cs → In S w' x cs
  mono : ∀ {S S' : Nat → Prop} {w : World} {x : α} {cs : List Value}, (∀ b, S b → b < w.heap.size → S' b) → In S w x cs → In S' w x cs
  len : ∀ {S : Nat → Prop} {w : World} {x : α} {cs : List Value}, In S w x cs → cs.length = k
  one : ∀ {S : Nat → Prop} {w : World} {x : α} {cs : List Value}, In S w x cs → ∀ v ∈ cs, v.oneCell' = true

section
variable {α : Type} {E : Elt α} {S S' : Nat → Prop} {w w' : World}
theorem Elt.below {x : α} {cs : List Value} (h : E.In S w x cs) (hb : Below w.heap.size w w') : E.In S w' x cs := E.keep (fun p v _ hv => bkeeps hb p v hv) h
theorem Elt.chg {S2 : Nat → Prop} {x : α} {cs : List Value} (h : E.In S w x cs) (hc : Chg S2 w w') (hS : ∀ b, S b → ¬ S2 b) : E.In S w' x cs := E.keep (fun p v hp hv => by
  have hb := World.block_lt_of_cell? _ _ hv
  unfold World.cell? at hv ⊢
  rw [hc.block p.block hb (hS _ hp)]; exact hv) h

def Elts (E : Elt α) (S : Nat → Prop) (w : World) : List α → List Value → Prop
  | [], xs => xs = []
  | x :: l, xs => ∃ cs r, xs = cs ++ r ∧ E.In S w x cs ∧ Elts E S w l r
theorem Elts.keep (hb : ∀ (p : Addr) (v : Value), S p.block → w.cell? p = some v → w'.cell? p = some v) : ∀ {l : List α} {xs : List Value}, Elts E S w l xs → Elts E S w' l xs
  | [], _, h => h
  | _ :: _, _, ⟨cs, r, e, h1, h2⟩ => ⟨cs, r, e, E.keep hb h1, Elts.keep hb h2⟩
theorem Elts.mono (hb : ∀ b, S b → b < w.heap.size → S' b) : ∀ {l : List α} {xs : List Value}, Elts E S w l xs → Elts E S' w l xs
  | [], _, h => h
  | _ :: _, _, ⟨cs, r, e, h1, h2⟩ => ⟨cs, r, e, E.mono hb h1, Elts.mono hb h2⟩
theorem Elts.len : ∀ {l : List α} {xs : List Value}, Elts E S w l xs → xs.length = l.length * E.k
  | [], _, h => by rw [h]; simp
  | _ :: l, _, ⟨cs, r, e, h1, h2⟩ => by rw [e, List.length_append, E.len h1, h2.len, List.length_cons, Nat.add_mul]; omega
theorem Elts.snoc {x : α} {cs : List Value} (hx : E.In S w x cs) : ∀ {l : List α} {xs : List Value}, Elts E S w l xs → Elts E S w (l ++ [x]) (xs ++ cs)
  | [], _, h => by rw [h]; exact ⟨cs, [], by simp, hx, rfl⟩
  | _ :: _, _, ⟨c, r, e, h1, h2⟩ => ⟨c, r ++ cs, by rw [e, List.append_assoc], h1, Elts.snoc hx h2⟩
theorem Elts.at_ : ∀ {l : List α} {xs : List Value}, Elts E S w l xs → ∀ i (hi : i < l.length), ∃ cs, E.In S w l[i] cs ∧ ∀ j, j < E.k → xs[i * E.k + j]? = cs[j]?
  | [], _, _, i, hi => by simp at hi
  | x :: l, _, ⟨cs, r, e, h1, h2⟩, 0, _ => ⟨cs, h1, fun j hj => by rw [e, Nat.zero_mul, Nat.zero_add, List.getElem?_append_left (by rw [E.len h1]; exact hj)]⟩
  | x :: l, _, ⟨cs, r, e, h1, h2⟩, i + 1, hi => by
    obtain ⟨c, h3, h4⟩ := h2.at_ i (by simpa using hi)
    refine ⟨c, h3, fun j hj => ?_⟩
    rw [e, List.getElem?_append_right (by rw [E.len h1, Nat.add_mul]; omega), E.len h1, ← h4 j hj]
    congr 1
    rw [Nat.add_mul]; omega
theorem Elts.one : ∀ {l : List α} {xs : List Value}, Elts E S w l xs → ∀ v ∈ xs, v.oneCell' = true
  | [], _, h, v, hv => by rw [h] at hv; cases hv
  | _ :: _, _, ⟨cs, r, e, h1, h2⟩, v, hv => by
    rw [e, List.mem_append] at hv
    exact hv.elim (E.one h1 v) (h2.one v)

/-- A row that lies in memory, in blocks of 'S', its elements too. -/
def InRow (E : Elt α) (S : Nat → Prop) (w : World) (l : List α) (a : Option Addr) : Prop :=
  ∀ i (hi : i < l.length), ∃ (b o : Nat) (cs : List Value), a = some ⟨b, o, none⟩ ∧ S b ∧ E.In S w l[i] cs ∧ ∀ j, j < E.k → w.cell? ⟨b, o + i * E.k + j, none⟩ = cs[j]?
theorem InRow.keep {l : List α} {a : Option Addr} (hb : ∀ (p : Addr) (v : Value), S p.block → w.cell? p = some v → w'.cell? p = some v) (h : InRow E S w l a) : InRow E S w' l a := fun i hi => by
  obtain ⟨b, o, cs, h1, h2, h3, h4⟩ := h i hi
  refine ⟨b, o, cs, h1, h2, E.keep hb h3, fun j hj => ?_⟩
  have := h4 j hj
  rw [List.getElem?_eq_getElem (by rw [E.len h3]; exact hj)] at this ⊢
  exact hb ⟨b, _, none⟩ _ h2 this
theorem InRow.mono {l : List α} {a : Option Addr} (hk : 0 < E.k) (hb : ∀ b, S b → b < w.heap.size → S' b) (h : InRow E S w l a) : InRow E S' w l a := fun i hi => by
  obtain ⟨b, o, cs, h1, h2, h3, h4⟩ := h i hi
  have := h4 0 hk
  rw [List.getElem?_eq_getElem (by rw [E.len h3]; exact hk)] at this
  exact ⟨b, o, cs, h1, hb b h2 (World.block_lt_of_cell? _ _ this), E.mono hb h3, h4⟩
theorem InRow.below {l : List α} {a : Option Addr} (h : InRow E S w l a) (hb : Below w.heap.size w w') : InRow E S w' l a := h.keep (fun p v _ hv => bkeeps hb p v hv)
theorem InRow.nil {a : Option Addr} : InRow E S w [] a := fun i hi => by simp at hi

/-- A row of the call's own, made by append: its block lies at or behind 'B', its elements' too, but in other blocks. -/
structure RowE (E : Elt α) (w : World) (B e : Nat) (ra : Option Addr) (rc n : Nat) (l : List α) : Prop where
  row : ∃ xs, w.ownsRow B e E.k (.slice ra n rc) n xs ∧ Elts E (fun b => B ≤ b ∧ (Value.slice ra n rc).ownBlock ≠ some b) w l xs
  len : n = l.length
variable {B e : Nat} {ra : Option Addr} {rc n : Nat} {l : List α}
theorem RowE.nil : RowE E w B e none 0 0 ([] : List α) := ⟨⟨[], World.ownsRow_nil _ _ _ _, rfl⟩, rfl⟩
theorem RowE.keep (h : RowE E w B e ra rc n l) (hb : ∀ b, B ≤ b → b < w.heap.size → w'.heap[b]? = w.heap[b]?) : RowE E w' B e ra rc n l := by
  obtain ⟨⟨xs, h1, h2⟩, h3⟩ := h
  refine ⟨⟨xs, ⟨h1.1, h1.2.imp id ?_⟩, h2.keep (fun p v hp hv => ?_)⟩, h3⟩
  · rintro ⟨g, cap, cur, e1, e2, e3, r⟩
    exact ⟨g, cap, cur, e1, e2, (hb g e2 (Array.getElem?_eq_some_iff.1 e3).1).trans e3, r⟩
  · have hlt := World.block_lt_of_cell? _ _ hv
    unfold World.cell? at hv ⊢
    rw [hb p.block hp.1 hlt]; exact hv
theorem RowE.below (h : RowE E w B e ra rc n l) (hb : Below w.heap.size w w') : RowE E w' B e ra rc n l := h.keep (fun b _ hlt => hb.block b hlt)
theorem RowE.upd {g : Nat} (h : RowE E w B e ra rc n l) (hu : Upd g w w') (hg : g < B) : RowE E w' B e ra rc n l := h.keep (fun b hB _ => hu.block b (by omega))
theorem RowE.chg {S : Nat → Prop} (h : RowE E w B e ra rc n l) (hc : Chg S w w') (hS : ∀ b, B ≤ b → ¬ S b) : RowE E w' B e ra rc n l := h.keep (fun b hB hlt => hc.block b hlt (hS b hB))
theorem RowE.lt (h : RowE E w B e ra rc n l) : ∀ b, (Value.slice ra n rc).ownBlock = some b → B ≤ b ∧ b < w.heap.size := by
  obtain ⟨⟨xs, h1, _⟩, _⟩ := h
  exact h1.lt
/-- What lies in the row, once it is whole. -/
theorem RowE.inRow (h : RowE E w B e ra rc n l) : InRow E (fun b => B ≤ b) w l ra ∧ n = l.length ∧ n ≤ rc ∧ rc ≤ maxLen := by
  obtain ⟨⟨xs, h1, h2⟩, rfl⟩ := h
  rcases h1.2 with ⟨e1, h0⟩ | ⟨g, cap, cur, e1, hg, hb, hc, hm, _, _⟩
  · simp only [Value.slice.injEq] at e1
    obtain ⟨_, _, rfl⟩ := e1
    exact ⟨fun i hi => by omega, rfl, by omega, by unfold maxLen; omega⟩
  · have e1' := e1
    simp only [Value.slice.injEq, true_and] at e1'
    obtain ⟨rfl, rfl⟩ := e1'
    refine ⟨fun i hi => ?_, rfl, hc, hm⟩
    obtain ⟨cs, h3, h4⟩ := h2.at_ i hi
    refine ⟨g, 0, cs, rfl, hg, E.mono (fun b hb _ => hb.1) h3, fun j hj => ?_⟩
    have hjl : j < cs.length := by rw [E.len h3]; exact hj
    have hx := h4 j hj
    rw [List.getElem?_eq_getElem hjl] at hx ⊢
    have := h1.cells (g := g) rfl _ _ hx
    rw [add_plain2] at this
    rwa [show 0 + i * E.k + j = 0 + (i * E.k + j) by omega]

/-! ### A row that is made whole, and filled one element after the other -/
structure MRow (E : Elt α) (w : World) (B g e n : Nat) (D : List Value) (l : List α) : Prop where
  blk : ∃ xs, Blk w g e (xs ++ D.drop xs.length).toArray ∧ Elts E (fun b => B ≤ b ∧ b ≠ g) w l xs
  dlen : D.length = n * E.k
  le : l.length ≤ n
  base : B ≤ g
variable {g : Nat} {D : List Value}
theorem MRow.lt (h : MRow E w B g e n D l) : g < w.heap.size := by obtain ⟨⟨xs, h1, _⟩, _⟩ := h; exact h1.lt
theorem MRow.keep (h : MRow E w B g e n D l) (hb : ∀ b, B ≤ b → b < w.heap.size → w'.heap[b]? = w.heap[b]?) : MRow E w' B g e n D l := by
  obtain ⟨⟨xs, h1, h2⟩, h0, h3, h4⟩ := h
  refine ⟨⟨xs, (hb g h4 h1.lt).trans h1, h2.keep (fun p v hp hv => ?_)⟩, h0, h3, h4⟩
  have hlt := World.block_lt_of_cell? _ _ hv
  unfold World.cell? at hv ⊢
  rw [hb p.block hp.1 hlt]; exact hv
theorem MRow.below (h : MRow E w B g e n D l) (hb : Below w.heap.size w w') : MRow E w' B g e n D l := h.keep (fun b _ hlt => hb.block b hlt)
theorem MRow.upd {g' : Nat} (h : MRow E w B g e n D l) (hu : Upd g' w w') (hg : g' < B) : MRow E w' B g e n D l := h.keep (fun b hB _ => hu.block b (by omega))
theorem MRow.chg {S : Nat → Prop} (h : MRow E w B g e n D l) (hc : Chg S w w') (hS : ∀ b, B ≤ b → ¬ S b) : MRow E w' B g e n D l := h.keep (fun b hB hlt => hc.block b hlt (hS b hB))
theorem MRow.start (hB : Blk w g e D.toArray) (hd : D.length = n * E.k) (hb : B ≤ g) : MRow E w B g e n D ([] : List α) := ⟨⟨[], by simpa using hB, rfl⟩, hd, Nat.zero_le _, hb⟩
/-- The next element is stored. -/
theorem MRow.store {x : α} {cs : List Value} (h : MRow E w B g e n D l) (hu : Upd g w w') (hl : l.length < n) (hin : E.In (fun b => B ≤ b ∧ b ≠ g) w x cs)
    (hB : ∀ xs : List Value, xs.length = l.length * E.k → Blk w g e (xs ++ D.drop xs.length).toArray → Blk w' g e (xs ++ cs ++ D.drop (xs ++ cs).length).toArray) : MRow E w' B g e n D (l ++ [x]) := by
  obtain ⟨⟨xs, h1, h2⟩, h0, h3, h4⟩ := h
  have hk : ∀ (p : Addr) (v : Value), (B ≤ p.block ∧ p.block ≠ g) → w.cell? p = some v → w'.cell? p = some v := fun p v hp hv => by
    unfold World.cell? at hv ⊢
    rw [hu.block p.block hp.2]; exact hv
  exact ⟨⟨xs ++ cs, hB xs h2.len h1, Elts.snoc (E.keep hk hin) (h2.keep hk)⟩, h0, by simp; omega, h4⟩
theorem MRow.inRow (h : MRow E w B g e n D l) : InRow E (fun b => B ≤ b) w l (some ⟨g, 0, none⟩) := fun i hi => by
  obtain ⟨⟨xs, h1, h2⟩, _, h3, h4⟩ := h
  obtain ⟨cs, h5, h6⟩ := h2.at_ i hi
  refine ⟨g, 0, cs, rfl, h4, E.mono (fun b hb _ => hb.1) h5, fun j hj => ?_⟩
  have hx := h2.len
  have hlt : i * E.k + j < xs.length := by
    rw [hx]
    have : (i + 1) * E.k ≤ l.length * E.k := Nat.mul_le_mul_right _ hi
    rw [Nat.add_mul] at this; omega
  rw [h1.cell, ← h6 j hj, show 0 + i * E.k + j = i * E.k + j by omega, List.getElem?_toArray, List.getElem?_append_left hlt]
theorem set2 {xs d : List Value} {u v : Value} (h : 2 ≤ d.length) : ((xs ++ d).set xs.length u).set (xs.length + 1) v = xs ++ [u, v] ++ d.drop 2 := by
  match d, h with
  | x :: y :: r, _ => simp [List.set_append]
theorem set3 {xs d : List Value} {u v y : Value} (h : 3 ≤ d.length) : (((xs ++ d).set xs.length u).set (xs.length + 1) v).set (xs.length + 2) y = xs ++ [u, v, y] ++ d.drop 3 := by
  match d, h with
  | x :: y :: z :: r, _ => simp [List.set_append]
end

section
variable {α : Type} {E : Elt α} {P : Program} {w : World} {a : Act} {K : Act → World → Prop} {Q : Exit → Act → World → Prop} {o : Oper}
/-- One element more, by append. -/
theorem wp_appE {s x : Operand} {t e B : Nat} {z : Value} {size bytes n rc g1 : Nat} {ra : Option Addr} {l : List α} {y : α} {cs : List Value} (hk : E.k = size) (ht : P.underlying t = some (.slice e)) (hinfo : (P.info? e).map (fun i => (i.zero, i.size, i.bytes)) = some (some z, size, bytes)) (hzs : z.cells.size = size) (hsz : 0 < size)
    (ho : o.op = .call { callee := .builtin .append, args := #[s, x], argTypes := #[t, t] }) (hs : a.eval s = .slice ra n rc) (hx : a.eval x = .slice (some ⟨g1, 0, none⟩) 1 1) (hrow : RowE E w B e ra rc n l) (hB : Blk w g1 e cs.toArray) (hin : E.In (fun b => B ≤ b ∧ (Value.slice ra n rc).ownBlock ≠ some b) w y cs)
    (hb : (n + 1) * bytes ≤ 140737488355328) (hn : n + 1 ≤ 9223372036854775807) (hbase : B ≤ w.heap.size) (hK : ∀ ra' rc' w', RowE E w' B e ra' rc' (n + 1) (l ++ [y]) → Chg (fun b => (Value.slice ra n rc).ownBlock = some b) w w' → KeepsFrom 0 w w' → K (a.put o.dst (.slice ra' (n + 1) rc')) w') : o.wp P a w K Q := by
  subst hk
  obtain ⟨⟨xs, h1, h2⟩, rfl⟩ := hrow
  refine wp_app (m := 1) (news := cs) ht hinfo hzs hsz ho hs hx h1 (SrcIs.ofBlk hB) (by rw [E.len hin]; omega) (E.one hin) hb hn hbase (fun ra' rc' w' h => hK _ _ _ ?_ ⟨h.grow.os, h.grow.tape, h.grow.output, h.grow.size, fun k hk hSk => h.grow.block k hk (fun e => hSk e.symm)⟩ ?_)
  · have key : ∀ (p : Addr) (v : Value), (Value.slice ra l.length rc).ownBlock ≠ some p.block → w.cell? p = some v → w'.cell? p = some v := fun p v hp hv => h.grow.cell hv (Ne.symm hp)
    refine ⟨⟨xs ++ cs, h.own, ?_⟩, by simp⟩
    have far : ∀ b, (B ≤ b ∧ (Value.slice ra l.length rc).ownBlock ≠ some b) ∧ b < w.heap.size → B ≤ b ∧ (Value.slice ra' (l.length + 1) rc').ownBlock ≠ some b := fun b hb => ⟨hb.1.1, fun e => by
      rcases h.at_ with e2 | e2
      · exact hb.1.2 (e2 ▸ e)
      · rw [e2] at e; have := Option.some.inj e; omega⟩
    refine Elts.mono (fun b hb _ => far b hb) (Elts.keep (w := w) (fun p v hp hv => key p v hp.1.2 hv) ?_)
    exact Elts.snoc (E.mono (fun b hb hlt => ⟨hb, hlt⟩) hin) (Elts.mono (fun b hb hlt => ⟨hb, hlt⟩) h2)
  · refine ⟨h.grow.size, fun k o _ hk ho => (h.grow.block k (Array.getElem?_eq_some_iff.1 hk).1 (fun e => ?_)).trans hk⟩
    rcases h1.2 with ⟨e1, _⟩ | ⟨g, cap, cur, e1, _, e3, _⟩
    · rw [e1] at e; cases e
    · rw [e1] at e
      have : k = g := by simpa [Value.ownBlock] using e
      subst this
      rw [show w.heap[k]? = _ from e3] at hk
      obtain rfl := Option.some.inj hk
      cases ho
end

section
variable {P : Program} {w : World} {a : Act} {K : Act → World → Prop} {Q : Exit → Act → World → Prop} {o : Oper}
theorem wp_mkE {t e : Nat} {x y : Operand} {n size bytes : Nat} {z : Value} (ht : P.underlying t = some (.slice e)) (hinfo : (P.info? e).map (fun i => (i.zero, i.size, i.bytes)) = some (some z, size, bytes)) (hbytes : bytes ≤ 4096) (ho : o.op = .makeSlice t x y) (hx : a.eval x = .int .i64 (n : Int)) (hy : a.eval y = .int .i64 (n : Int)) (hn : n ≤ 4294967296)
    (hK : K (a.put o.dst (.slice (some ⟨w.heap.size, 0, none⟩) n n)) (w.alloc (.cells (madeCells z.cells (n * size)) e))) : o.wp P a w K Q := by
  obtain ⟨i, hi, hz0, hz1, hz2⟩ := info_parts hinfo
  have hb : n * bytes ≤ 4294967296 * 4096 := Nat.mul_le_mul hn hbytes
  have hb2 : bytes * n ≤ 4294967296 * 4096 := by rw [Nat.mul_comm]; exact hb
  have hr := run_make (P := P) w t e i z ht hi hz0 .i64 .i64 n n (by omega) (Int.le_refl _) (by rw [hz2]; (try simp only [Int.toNat_natCast]); omega) (by omega)
  simp only [Int.toNat_natCast, hz1] at hr
  unfold Oper.wp execOp
  simp only [ho, hx, hy, Sem.run_bind, Sem.run_pure, hr, Result.andThen_ok]
  exact hK
end

/-! ### Integers, as elements -/
def eltI : Elt Int where
  k := 1
  In := fun _ _ x cs => cs = [.int .i64 x]
  keep := fun _ h => h
  mono := fun _ h => h
  len := fun h => by rw [h]; rfl
  one := fun h v hv => by rw [h] at hv; simp at hv; subst hv; rfl

end Go.Proofs.Ytnblndmjjokepaa
