/- Terms that lie within blocks of 'S'; rows of terms that are made. -/
import Derived.Test.YtnblndmjjokepaaTermR
import Derived.Test.YtnblndmjjokepaaTail
namespace Go.Proofs.Ytnblndmjjokepaa
open Go.RowKit Go
set_option linter.unusedVariables false
set_option linter.unusedSimpArgs false

mutual
/-- The value 'v' is the term 't', and all its rows lie in blocks of 'S'. -/
def InT (S : Nat → Prop) (w : World) : T → Value → Prop
  | .mk f l, v => I64 f ∧ ∃ (a : Option Addr) (c : Nat), v = .agg #[.int .i64 f, .slice a l.length c] ∧ l.length ≤ c ∧ c ≤ maxLen ∧ InTs S w l a 0
def InTs (S : Nat → Prop) (w : World) : List T → Option Addr → Nat → Prop
  | [], _, _ => True
  | t :: r, a, i => (∃ (b o : Nat) (u v : Value), a = some ⟨b, o, none⟩ ∧ S b ∧ w.cell? ⟨b, o + i * 2, none⟩ = some u ∧ w.cell? ⟨b, o + i * 2 + 1, none⟩ = some v ∧ InT S w t (.agg #[u, v])) ∧ InTs S w r a (i + 1)
end

mutual
theorem InT.keep {S : Nat → Prop} {w w' : World} (hb : ∀ (p : Addr) (x : Value), S p.block → w.cell? p = some x → w'.cell? p = some x) : ∀ {t : T} {v : Value}, InT S w t v → InT S w' t v
  | .mk _ _, _, ⟨h0, a, c, h1, h2, h3, h4⟩ => ⟨h0, a, c, h1, h2, h3, InTs.keep hb h4⟩
theorem InTs.keep {S : Nat → Prop} {w w' : World} (hb : ∀ (p : Addr) (x : Value), S p.block → w.cell? p = some x → w'.cell? p = some x) : ∀ {l : List T} {a : Option Addr} {i : Nat}, InTs S w l a i → InTs S w' l a i
  | [], _, _, _ => trivial
  | _ :: _, _, _, ⟨⟨b, o, u, v, ha, hs, h1, h2, h3⟩, h4⟩ => ⟨⟨b, o, u, v, ha, hs, hb ⟨b, _, none⟩ _ hs h1, hb ⟨b, _, none⟩ _ hs h2, InT.keep hb h3⟩, InTs.keep hb h4⟩
end
mutual
theorem InT.mono {S S' : Nat → Prop} {w : World} (hb : ∀ b, S b → b < w.heap.size → S' b) : ∀ {t : T} {v : Value}, InT S w t v → InT S' w t v
  | .mk _ _, _, ⟨h0, a, c, h1, h2, h3, h4⟩ => ⟨h0, a, c, h1, h2, h3, InTs.mono hb h4⟩
theorem InTs.mono {S S' : Nat → Prop} {w : World} (hb : ∀ b, S b → b < w.heap.size → S' b) : ∀ {l : List T} {a : Option Addr} {i : Nat}, InTs S w l a i → InTs S' w l a i
  | [], _, _, _ => trivial
  | _ :: _, _, _, ⟨⟨b, o, u, v, ha, hs, h1, h2, h3⟩, h4⟩ => ⟨⟨b, o, u, v, ha, hb _ hs (World.block_lt_of_cell? _ _ h1), h1, h2, InT.mono hb h3⟩, InTs.mono hb h4⟩
end
mutual
theorem InT.isT {S : Nat → Prop} {w : World} : ∀ {t : T} {v : Value}, InT S w t v → IsT w t v
  | .mk _ _, _, ⟨h0, a, c, h1, h2, h3, h4⟩ => ⟨h0, a, c, h1, h2, h3, InTs.isTs h4⟩
theorem InTs.isTs {S : Nat → Prop} {w : World} : ∀ {l : List T} {a : Option Addr} {i : Nat}, InTs S w l a i → IsTs w l a i
  | [], _, _, _ => trivial
  | _ :: _, _, _, ⟨⟨b, o, u, v, ha, hs, h1, h2, h3⟩, h4⟩ => ⟨⟨b, o, u, v, ha, h1, h2, InT.isT h3⟩, InTs.isTs h4⟩
end
mutual
theorem IsT.inT {w : World} : ∀ {t : T} {v : Value}, IsT w t v → InT (fun b => b < w.heap.size) w t v
  | .mk _ _, _, ⟨h0, a, c, h1, h2, h3, h4⟩ => ⟨h0, a, c, h1, h2, h3, IsTs.inTs h4⟩
theorem IsTs.inTs {w : World} : ∀ {l : List T} {a : Option Addr} {i : Nat}, IsTs w l a i → InTs (fun b => b < w.heap.size) w l a i
  | [], _, _, _ => trivial
  | _ :: _, _, _, ⟨⟨b, o, u, v, ha, h1, h2, h3⟩, h4⟩ => ⟨⟨b, o, u, v, ha, World.block_lt_of_cell? _ _ h1, h1, h2, IsT.inT h3⟩, IsTs.inTs h4⟩
end

theorem InT.below {S : Nat → Prop} {w w' : World} (hb : Below w.heap.size w w') {t : T} {v : Value} (h : InT S w t v) : InT S w' t v := h.keep fun p x _ hx => bkeeps hb p x hx
theorem InTs.below {S : Nat → Prop} {w w' : World} (hb : Below w.heap.size w w') {l : List T} {a : Option Addr} {i : Nat} (h : InTs S w l a i) : InTs S w' l a i := h.keep fun p x _ hx => bkeeps hb p x hx
/-- What keeps blocks below 'B' keeps what lies there. -/
theorem InT.old {B N : Nat} {w w' : World} (hb : Below N w w') (hBN : B ≤ N) {t : T} {v : Value} (h : InT (fun b => b < B) w t v) : InT (fun b => b < B) w' t v := InT.keep (S := fun b => b < B) (fun p x (hp : p.block < B) hx => (hb.cell (Nat.lt_of_lt_of_le hp hBN)).trans hx) h
theorem InTs.old {B N : Nat} {w w' : World} (hb : Below N w w') (hBN : B ≤ N) {l : List T} {a : Option Addr} {i : Nat} (h : InTs (fun b => b < B) w l a i) : InTs (fun b => b < B) w' l a i := InTs.keep (S := fun b => b < B) (fun p x (hp : p.block < B) hx => (hb.cell (Nat.lt_of_lt_of_le hp hBN)).trans hx) h

theorem InT.form {S : Nat → Prop} {w : World} {t : T} {v : Value} (h : InT S w t v) : I64 t.f ∧ ∃ (a : Option Addr) (c : Nat), v = .agg #[.int .i64 t.f, .slice a t.args.length c] ∧ t.args.length ≤ c ∧ c ≤ maxLen ∧ InTs S w t.args a 0 := by
  cases t; exact h

theorem InTs.at0 {S : Nat → Prop} {w : World} {l : List T} : ∀ {a : Option Addr} {i : Nat}, InTs S w l a i → ∀ k (hk : k < l.length),
    ∃ (b o : Nat) (u v : Value), a = some ⟨b, o, none⟩ ∧ S b ∧ w.cell? ⟨b, o + (i + k) * 2, none⟩ = some u ∧ w.cell? ⟨b, o + (i + k) * 2 + 1, none⟩ = some v ∧ InT S w l[k] (.agg #[u, v]) := by
  induction l with
  | nil => intro a i _ k hk; simp at hk
  | cons t r ih =>
    intro a i h k hk
    obtain ⟨h0, h1⟩ := h
    cases k with
    | zero => exact h0
    | succ k =>
      obtain ⟨b, o, u, v, h2, h3, h4, h5, h6⟩ := ih h1 k (by simpa using hk)
      refine ⟨b, o, u, v, h2, h3, ?_, ?_, by simpa using h6⟩
      · rw [show i + (k + 1) = i + 1 + k by omega]; exact h4
      · rw [show i + (k + 1) = i + 1 + k by omega]; exact h5
theorem InTs.at_ {S : Nat → Prop} {w : World} {l : List T} {a : Option Addr} (h : InTs S w l a 0) (k : Nat) (hk : k < l.length) :
    ∃ (b o : Nat) (u v : Value), a = some ⟨b, o, none⟩ ∧ S b ∧ w.cell? ⟨b, o + k * 2, none⟩ = some u ∧ w.cell? ⟨b, o + k * 2 + 1, none⟩ = some v ∧ InT S w l[k] (.agg #[u, v]) := by
  have := h.at0 k hk
  simpa using this


theorem InTs.of_at0 {S : Nat → Prop} {w : World} {a : Option Addr} : ∀ {l : List T} {i : Nat}, (∀ k (hk : k < l.length), ∃ (b o : Nat) (u v : Value), a = some ⟨b, o, none⟩ ∧ S b ∧ w.cell? ⟨b, o + (i + k) * 2, none⟩ = some u ∧ w.cell? ⟨b, o + (i + k) * 2 + 1, none⟩ = some v ∧ InT S w l[k] (.agg #[u, v])) → InTs S w l a i
  | [], _, _ => trivial
  | _ :: r, i, h => ⟨h 0 (by simp), InTs.of_at0 fun k hk => by
      obtain ⟨b, o, u, v, h1, h2, h3, h4, h5⟩ := h (k + 1) (by simpa using hk)
      refine ⟨b, o, u, v, h1, h2, ?_, ?_, by simpa using h5⟩
      · rw [show i + 1 + k = i + (k + 1) by omega]; exact h3
      · rw [show i + 1 + k = i + (k + 1) by omega]; exact h4⟩

theorem InT.chg {S S2 : Nat → Prop} {w w' : World} {t : T} {v : Value} (h : InT S w t v) (hc : Chg S2 w w') (hS : ∀ b, S b → ¬ S2 b) : InT S w' t v := h.keep fun p x hp hx => by
  have hb := World.block_lt_of_cell? _ _ hx
  unfold World.cell? at hx ⊢
  rw [hc.block p.block hb (hS _ hp)]; exact hx

theorem InT.upd {N g : Nat} {w w' : World} {t : T} {v : Value} (h : InT (fun b => N ≤ b) w t v) (hu : Upd g w w') (hg : g < N) : InT (fun b => N ≤ b) w' t v := h.chg (S2 := fun b => b = g) ⟨hu.os, hu.tape, hu.output, Nat.le_of_eq hu.size.symm, fun k _ hn => hu.block k hn⟩ (fun b hb e => by subst e; omega)

def eltT : Elt T where
  k := 2
  In := fun S w t cs => ∃ u v, cs = [u, v] ∧ InT S w t (.agg #[u, v])
  keep := fun hb ⟨u, v, e, h⟩ => ⟨u, v, e, h.keep hb⟩
  mono := fun hb ⟨u, v, e, h⟩ => ⟨u, v, e, h.mono hb⟩
  len := fun ⟨_, _, e, _⟩ => by rw [e]; rfl
  one := fun ⟨u, v, e, h⟩ x hx => by
    obtain ⟨_, a, c, e2, _⟩ := h.form
    simp only [Value.agg.injEq, Array.mk.injEq, List.cons.injEq, and_true] at e2
    rw [e] at hx
    simp only [List.mem_cons, List.not_mem_nil, or_false] at hx
    rcases hx with rfl | rfl
    · rw [e2.1]; rfl
    · rw [e2.2]; rfl
theorem InRow.ts {S : Nat → Prop} {w : World} {l : List T} {a : Option Addr} (h : InRow eltT S w l a) : InTs S w l a 0 := InTs.of_at0 fun k hk => by
  obtain ⟨b, o, cs, h1, h2, ⟨u, v, rfl, h3⟩, h4⟩ := h k hk
  have c0 := h4 0 (by decide)
  have c1 := h4 1 (by decide)
  refine ⟨b, o, u, v, h1, h2, ?_, ?_, h3⟩
  · rw [Nat.zero_add]; exact c0
  · rw [Nat.zero_add]; exact c1
/-- A term in memory that has come since 'w0'. -/
abbrev NewT (w0 w : World) (t : T) (v : Value) : Prop := InT (fun b => w0.heap.size ≤ b) w t v
theorem newT_mk {w0 w : World} {f : Int} {ts : List T} {a : Option Addr} {n c : Nat} (hf : I64 f) (hn : n = ts.length) (hc : n ≤ c) (hm : c ≤ maxLen) (h : InRow eltT (fun b => w0.heap.size ≤ b) w ts a) : NewT w0 w (.mk f ts) (.agg #[.int .i64 f, .slice a n c]) := by
  subst hn
  exact ⟨hf, a, c, rfl, hc, hm, h.ts⟩
theorem newT_row {w0 w : World} {B e : Nat} {f : Int} {ts : List T} {ra : Option Addr} {n rc : Nat} (hf : I64 f) (h : RowE eltT w B e ra rc n ts) (hB : w0.heap.size ≤ B) : NewT w0 w (.mk f ts) (.agg #[.int .i64 f, .slice ra n rc]) := by
  obtain ⟨h1, h2, h3, h4⟩ := h.inRow
  exact newT_mk hf h2 h3 h4 (h1.mono (by decide) (fun b hb _ => Nat.le_trans hB hb))
theorem newT_leaf {w0 w : World} {f : Int} (hf : I64 f) : NewT w0 w (.mk f []) (.agg #[.int .i64 f, .slice none 0 0]) := newT_mk hf rfl (Nat.le_refl _) (by unfold maxLen; omega) InRow.nil

theorem MRow.startT {w : World} {B g e n : Nat} {z : Value} (hB : Blk w g e (madeCells z.cells (n * 2))) (hb : B ≤ g) : MRow eltT w B g e n (madeCells z.cells (n * 2)).toList [] :=
  .start (by simpa using hB) (by rw [Array.length_toList]; exact size_madeCells z.cells (n * 2)) hb
theorem MRow.blkT {w : World} {B g e n k : Nat} {D : List Value} {l : List T} (h : MRow eltT w B g e n D l) (hk : l.length = k) (hkn : k < n) : ∃ cs, Blk w g e cs ∧ 0 + k * 2 + 1 < cs.size := by
  obtain ⟨⟨xs, h1, h2⟩, h3, _, _⟩ := h
  have hx := h2.len
  have e2 : eltT.k = 2 := rfl
  rw [e2] at hx h3
  refine ⟨_, h1, ?_⟩
  simp only [List.size_toArray, List.length_append, List.length_drop, h3, hx, hk]
  omega
theorem MRow.storeT {w : World} {B g e n k : Nat} {D : List Value} {l : List T} {x : T} {u v : Value} (h : MRow eltT w B g e n D l) (hk : l.length = k) (hkn : k < n) (hin : InT (fun b => B ≤ b ∧ b ≠ g) w x (.agg #[u, v])) :
    MRow eltT ((w.setCell ⟨g, 0 + k * 2, none⟩ u).setCell ⟨g, 0 + k * 2 + 1, none⟩ v) B g e n D (l ++ [x]) := by
  refine h.store ((Upd.at_ _ _ _ _).trans (Upd.at_ _ _ _ _)) (by omega) ⟨u, v, rfl, hin⟩ (fun xs hx hB => ?_)
  have e2 : eltT.k = 2 := rfl
  have hD := h.dlen
  rw [e2] at hx hD
  have hB2 := (hB.set_ (0 + k * 2) u).set_ (0 + k * 2 + 1) v
  rw [List.setIfInBounds_toArray, List.setIfInBounds_toArray, show 0 + k * 2 = xs.length by omega, set2 (by simp only [List.length_drop]; omega), List.drop_drop] at hB2
  rw [show 0 + k * 2 = xs.length by omega]
  simpa using hB2

end Go.Proofs.Ytnblndmjjokepaa
