/- Terms that lie within some blocks, and rows of terms that are made by append, one term after the other. -/
import Derived.Test.YtjkpecjlpgcalaaChain
import Derived.Test.YtjkpecjlpgcalaaLeast
namespace Go.Proofs.Ytjkpecjlpgcalaa
open Go.RowKit Go

mutual
/-- The value 'v' is the term 't', and all its rows lie in blocks of 'S'. -/
def InT (S : Nat → Prop) (w : World) : T → Value → Prop
  | .mk f l, v => I64 f ∧ ∃ (a : Option Addr) (c : Nat), v = .agg #[.int .i64 f, .slice a l.length c] ∧ l.length ≤ c ∧ c ≤ maxLen ∧ InTs S w l a 0
def InTs (S : Nat → Prop) (w : World) : List T → Option Addr → Nat → Prop
  | [], _, _ => True
  | t :: r, a, i => (∃ (b o : Nat) (u v : Value), a = some ⟨b, o, none⟩ ∧ S b ∧ w.cell? ⟨b, o + i * 2, none⟩ = some u ∧ w.cell? ⟨b, o + i * 2 + 1, none⟩ = some v ∧ InT S w t (.agg #[u, v])) ∧ InTs S w r a (i + 1)
end

mutual
theorem InT.keep {S : Nat → Prop} {w w' : World} (hb : ∀ (p : Addr) (x : Value), S p.block → w.cell? p = some x → w'.cell? p = some x) : ∀ {t : T} {v : Value}, InT S w t v → InT S w' t v
  | .mk _ _, _, ⟨h0, a, c, h1, h2, h3, h4⟩ => ⟨h0, a, c, h1, h2, h3, InTs.keep hb h4⟩
theorem InTs.keep {S : Nat → Prop} {w w' : World} (hb : ∀ (p : Addr) (x : Value), S p.block → w.cell? p = some x → w'.cell? p = some x) : ∀ {l : List T} {a : Option Addr} {i : Nat}, InTs S w l a i → InTs S w' l a i
  | [], _, _, _ => trivial
  | _ :: _, _, _, ⟨⟨b, o, u, v, ha, hs, h1, h2, h3⟩, h4⟩ => ⟨⟨b, o, u, v, ha, hs, hb ⟨b, _, none⟩ _ hs h1, hb ⟨b, _, none⟩ _ hs h2, InT.keep hb h3⟩, InTs.keep hb h4⟩
end
mutual
theorem InT.mono {S S' : Nat → Prop} {w : World} (hb : ∀ b, S b → b < w.heap.size → S' b) : ∀ {t : T} {v : Value}, InT S w t v → InT S' w t v
  | .mk _ _, _, ⟨h0, a, c, h1, h2, h3, h4⟩ => ⟨h0, a, c, h1, h2, h3, InTs.mono hb h4⟩
theorem InTs.mono {S S' : Nat → Prop} {w : World} (hb : ∀ b, S b → b < w.heap.size → S' b) : ∀ {l : List T} {a : Option Addr} {i : Nat}, InTs S w l a i → InTs S' w l a i
  | [], _, _, _ => trivial
  | _ :: _, _, _, ⟨⟨b, o, u, v, ha, hs, h1, h2, h3⟩, h4⟩ => ⟨⟨b, o, u, v, ha, hb _ hs (World.block_lt_of_cell? _ _ h1), h1, h2, InT.mono hb h3⟩, InTs.mono hb h4⟩
end
mutual
theorem InT.isT {S : Nat → Prop} {w : World} : ∀ {t : T} {v : Value}, InT S w t v → IsT w t v
  | .mk _ _, _, ⟨h0, a, c, h1, h2, h3, h4⟩ => ⟨h0, a, c, h1, h2, h3, InTs.isTs h4⟩
theorem InTs.isTs {S : Nat → Prop} {w : World} : ∀ {l : List T} {a : Option Addr} {i : Nat}, InTs S w l a i → IsTs w l a i
  | [], _, _, _ => trivial
  | _ :: _, _, _, ⟨⟨b, o, u, v, ha, hs, h1, h2, h3⟩, h4⟩ => ⟨⟨b, o, u, v, ha, h1, h2, InT.isT h3⟩, InTs.isTs h4⟩
end
mutual
theorem IsT.inT {w : World} : ∀ {t : T} {v : Value}, IsT w t v → InT (fun b => b < w.heap.size) w t v
  | .mk _ _, _, ⟨h0, a, c, h1, h2, h3, h4⟩ => ⟨h0, a, c, h1, h2, h3, IsTs.inTs h4⟩
theorem IsTs.inTs {w : World} : ∀ {l : List T} {a : Option Addr} {i : Nat}, IsTs w l a i → InTs (fun b => b < w.heap.size) w l a i
  | [], _, _, _ => trivial
  | _ :: _, _, _, ⟨⟨b, o, u, v, ha, h1, h2, h3⟩, h4⟩ => ⟨⟨b, o, u, v, ha, World.block_lt_of_cell? _ _ h1, h1, h2, IsT.inT h3⟩, IsTs.inTs h4⟩
end

theorem InT.below {S : Nat → Prop} {w w' : World} (hb : Below w.heap.size w w') {t : T} {v : Value} (h : InT S w t v) : InT S w' t v := h.keep fun p x _ hx => bkeeps hb p x hx
theorem InTs.below {S : Nat → Prop} {w w' : World} (hb : Below w.heap.size w w') {l : List T} {a : Option Addr} {i : Nat} (h : InTs S w l a i) : InTs S w' l a i := h.keep fun p x _ hx => bkeeps hb p x hx
/-- What keeps blocks below 'B' keeps what lies there. -/
theorem InT.old {B N : Nat} {w w' : World} (hb : Below N w w') (hBN : B ≤ N) {t : T} {v : Value} (h : InT (fun b => b < B) w t v) : InT (fun b => b < B) w' t v := InT.keep (S := fun b => b < B) (fun p x (hp : p.block < B) hx => (hb.cell (Nat.lt_of_lt_of_le hp hBN)).trans hx) h
theorem InTs.old {B N : Nat} {w w' : World} (hb : Below N w w') (hBN : B ≤ N) {l : List T} {a : Option Addr} {i : Nat} (h : InTs (fun b => b < B) w l a i) : InTs (fun b => b < B) w' l a i := InTs.keep (S := fun b => b < B) (fun p x (hp : p.block < B) hx => (hb.cell (Nat.lt_of_lt_of_le hp hBN)).trans hx) h

theorem InT.form {S : Nat → Prop} {w : World} {t : T} {v : Value} (h : InT S w t v) : I64 t.f ∧ ∃ (a : Option Addr) (c : Nat), v = .agg #[.int .i64 t.f, .slice a t.args.length c] ∧ t.args.length ≤ c ∧ c ≤ maxLen ∧ InTs S w t.args a 0 := by
  cases t; exact h

theorem InTs.at0 {S : Nat → Prop} {w : World} {l : List T} : ∀ {a : Option Addr} {i : Nat}, InTs S w l a i → ∀ k (hk : k < l.length),
    ∃ (b o : Nat) (u v : Value), a = some ⟨b, o, none⟩ ∧ S b ∧ w.cell? ⟨b, o + (i + k) * 2, none⟩ = some u ∧ w.cell? ⟨b, o + (i + k) * 2 + 1, none⟩ = some v ∧ InT S w l[k] (.agg #[u, v]) := by
  induction l with
  | nil => intro a i _ k hk; simp at hk
  | cons t r ih =>
    intro a i h k hk
    obtain ⟨h0, h1⟩ := h
    cases k with
    | zero => exact h0
    | succ k =>
      obtain ⟨b, o, u, v, h2, h3, h4, h5, h6⟩ := ih h1 k (by simpa using hk)
      refine ⟨b, o, u, v, h2, h3, ?_, ?_, by simpa using h6⟩
      · rw [show i + (k + 1) = i + 1 + k by omega]; exact h4
      · rw [show i + (k + 1) = i + 1 + k by omega]; exact h5
theorem InTs.at_ {S : Nat → Prop} {w : World} {l : List T} {a : Option Addr} (h : InTs S w l a 0) (k : Nat) (hk : k < l.length) :
    ∃ (b o : Nat) (u v : Value), a = some ⟨b, o, none⟩ ∧ S b ∧ w.cell? ⟨b, o + k * 2, none⟩ = some u ∧ w.cell? ⟨b, o + k * 2 + 1, none⟩ = some v ∧ InT S w l[k] (.agg #[u, v]) := by
  have := h.at0 k hk
  simpa using this

/-! ### Rows -/

def Elems (S : Nat → Prop) (w : World) : List T → List Value → Prop
  | [], [] => True
  | t :: r, u :: v :: xs => InT S w t (.agg #[u, v]) ∧ Elems S w r xs
  | _, _ => False

theorem Elems.keep {S : Nat → Prop} {w w' : World} (hb : ∀ (p : Addr) (x : Value), S p.block → w.cell? p = some x → w'.cell? p = some x) : ∀ {l : List T} {xs : List Value}, Elems S w l xs → Elems S w' l xs
  | [], [], _ => trivial
  | _ :: _, _ :: _ :: _, h => ⟨h.1.keep hb, Elems.keep hb h.2⟩
  | [], _ :: _, h => h.elim
  | _ :: _, [], h => h.elim
  | _ :: _, [_], h => h.elim
theorem Elems.mono {S S' : Nat → Prop} {w : World} (hb : ∀ b, S b → b < w.heap.size → S' b) : ∀ {l : List T} {xs : List Value}, Elems S w l xs → Elems S' w l xs
  | [], [], _ => trivial
  | _ :: _, _ :: _ :: _, h => ⟨h.1.mono hb, Elems.mono hb h.2⟩
  | [], _ :: _, h => h.elim
  | _ :: _, [], h => h.elim
  | _ :: _, [_], h => h.elim
theorem Elems.snoc {S : Nat → Prop} {w : World} {t : T} {u v : Value} (ht : InT S w t (.agg #[u, v])) : ∀ {l : List T} {xs : List Value}, Elems S w l xs → Elems S w (l ++ [t]) (xs ++ [u, v])
  | [], [], _ => ⟨ht, trivial⟩
  | _ :: _, _ :: _ :: _, h => ⟨h.1, Elems.snoc ht h.2⟩
  | [], _ :: _, h => h.elim
  | _ :: _, [], h => h.elim
  | _ :: _, [_], h => h.elim
theorem Elems.row {S : Nat → Prop} {w : World} {g o : Nat} (hg : S g) : ∀ {l : List T} {xs : List Value} {i : Nat}, Elems S w l xs → (∀ j u, xs[j]? = some u → w.cell? ⟨g, o + i * 2 + j, none⟩ = some u) → InTs S w l (some ⟨g, o, none⟩) i
  | [], [], _, _, _ => trivial
  | t :: r, u :: v :: xs, i, h, hc => ⟨⟨g, o, u, v, rfl, hg, by simpa using hc 0 u rfl, by simpa using hc 1 v rfl, h.1⟩, Elems.row hg h.2 (fun j x hx => by
      have := hc (j + 2) x (by simpa using hx)
      rwa [show o + (i + 1) * 2 + j = o + i * 2 + (j + 2) by omega])⟩
  | [], _ :: _, _, h, _ => h.elim
  | _ :: _, [], _, h, _ => h.elim
  | _ :: _, [_], _, h, _ => h.elim

/-- What a call may leave: the blocks below 'B', or new ones; not the row's own one. -/
def Own (B N : Nat) (r : Value) (b : Nat) : Prop := (b < B ∨ N ≤ b) ∧ r.ownBlock ≠ some b

/-- Within a call that makes a term of the head 'f' by append: the argument's box, the result's, that of the term that is made; 'rv' in there, and the row 'r'. -/
structure Grow (B : Nat) (w0 : World) (y0 y1 : Value) (f : Int) (ts : List T) (w : World) (rv r : Value) : Prop where
  le : B ≤ w0.heap.size
  below : Below w0.heap.size w0 w
  arg : Blk w w0.heap.size 27 #[y0, y1]
  res : ∃ x0 x1, Blk w (w0.heap.size + 1) 27 #[x0, x1]
  out : Blk w (w0.heap.size + 2) 27 #[.int .i64 f, rv]
  rows : ∃ xs, w.ownsRow (w0.heap.size + 3) 27 2 r ts.length xs ∧ Elems (Own B (w0.heap.size + 3) r) w ts xs

/-- The same, with the row's own block changed or more memory made. -/
theorem Grow.below_ {B : Nat} {w0 w w' : World} {y0 y1 : Value} {f : Int} {ts : List T} {rv r : Value} (h : Grow B w0 y0 y1 f ts w rv r) (hb : Below w.heap.size w w') : Grow B w0 y0 y1 f ts w' rv r := by
  obtain ⟨x0, x1, hr⟩ := h.res
  obtain ⟨xs, h1, h2⟩ := h.rows
  refine ⟨h.le, bstep h.below hb, h.arg.below hb, ⟨x0, x1, hr.below hb⟩, h.out.below hb, xs, ?_, h2.keep fun p x _ hx => bkeeps hb p x hx⟩
  refine ⟨h1.1, h1.2.imp id ?_⟩
  rintro ⟨g, cap, cur, e1, e2, e3, e4, e5, e6, e7⟩
  exact ⟨g, cap, cur, e1, e2, (hb.block g (lt_of_block e3)).trans e3, e4, e5, e6, e7⟩

theorem Grow.start {B : Nat} {w0 : World} {y0 y1 x0 x1 : Value} {f : Int} {w : World} (hle : B ≤ w0.heap.size) (hb : Below w0.heap.size w0 w) (h0 : Blk w w0.heap.size 27 #[y0, y1]) (h1 : Blk w (w0.heap.size + 1) 27 #[x0, x1]) (h2 : Blk w (w0.heap.size + 2) 27 #[.int .i64 f, .slice none 0 0]) :
    Grow B w0 y0 y1 f [] w (.slice none 0 0) (.slice none 0 0) := ⟨hle, hb, h0, ⟨x0, x1, h1⟩, h2, [], ⟨rfl, .inl ⟨rfl, rfl⟩⟩, trivial⟩

theorem Grow.drew {B : Nat} {w0 w : World} {y0 y1 : Value} {f : Int} {ts : List T} {rv r : Value} (h : Grow B w0 y0 y1 f ts w rv r) : Grow B w0 y0 y1 f ts w.drew rv r := by
  obtain ⟨x0, x1, hr⟩ := h.res
  obtain ⟨xs, h1, h2⟩ := h.rows
  exact ⟨h.le, h.below.drew, h.arg, ⟨x0, x1, hr⟩, h.out, xs, h1.drew, Elems.keep (w := w) (w' := w.drew) (fun p x _ hx => hx) h2⟩

/-- Behind the store of the row. -/
theorem Grow.store {B : Nat} {w0 w : World} {y0 y1 : Value} {f : Int} {ts : List T} {rv r : Value} (h : Grow B w0 y0 y1 f ts w rv r) : Grow B w0 y0 y1 f ts (w.setCell ⟨w0.heap.size + 2, 1, none⟩ r) r r := by
  obtain ⟨x0, x1, hr⟩ := h.res
  obtain ⟨xs, h1, h2⟩ := h.rows
  have hg := gsetc w ⟨w0.heap.size + 2, 1, none⟩ r
  have hlt := h.arg.lt
  have hle := h.le
  refine ⟨hle, h.below.grown hg (by omega) (fun b hb => ?_), h.arg.far (by simp) _, ⟨x0, x1, hr.far (by simp) _⟩, by simpa using h.out.set_ 1 r, xs, h1.kept hg (.inr fun e => ?_), h2.keep fun p x hp hx => hg.cell hx (fun e => ?_)⟩
  · simp only [Option.some.injEq] at hb; subst hb; simp
  · have := h1.lt _ e; simp at this
  · have hp := hp.1
    simp only [Option.some.injEq] at e
    rw [e] at hp
    simp at hp
    omega

/-! ### One term more -/

/-- What lies below 'B', or was made since there were 'N' blocks. -/
def New (B N : Nat) (b : Nat) : Prop := b < B ∨ N ≤ b

section
variable {B : Nat} {w0 wr : World} {y0 y1 : Value} {f : Int} {ts : List T} {rv : Value} {t : T}

/-- The chain: the call, the row of one, the append, the store. -/
def GrowG (B : Nat) (w0 wr : World) (y0 y1 : Value) (f : Int) (ts : List T) (rv : Value) (t : T) : List Value → World → Prop
  | [], w => w = wr.drew ∧ Grow B w0 y0 y1 f ts w rv rv
  | [v], w => Grow B w0 y0 y1 f ts w rv rv ∧ wr.heap.size ≤ w.heap.size ∧ InT (New B wr.heap.size) w t v
  | [v, s], w => Grow B w0 y0 y1 f ts w rv rv ∧ InT (New B wr.heap.size) w t v ∧ ∃ g u x, s = .slice (some ⟨g, 0, none⟩) 1 1 ∧ v = .agg #[u, x] ∧ Blk w g 27 #[u, x] ∧ wr.heap.size ≤ g ∧ u.oneCell' = true ∧ x.oneCell' = true
  | [_, _, r], w => Grow B w0 y0 y1 f (ts ++ [t]) w rv r ∧ ∃ a n c, r = .slice a n c
  | _ :: _ :: r :: _, w => Grow B w0 y0 y1 f (ts ++ [t]) w r r ∧ ∃ a n c, r = .slice a n c

theorem GrowG.grow : ∀ {vs : List Value} {w : World}, GrowG B w0 wr y0 y1 f ts rv t vs w → ∃ ts' rv' r', Grow B w0 y0 y1 f ts' w rv' r' ∧ (vs.length ≤ 3 → rv' = rv)
  | [], _, h => ⟨_, _, _, h.2, fun _ => rfl⟩
  | [_], _, h => ⟨_, _, _, h.1, fun _ => rfl⟩
  | [_, _], _, h => ⟨_, _, _, h.1, fun _ => rfl⟩
  | [_, _, _], _, h => ⟨_, _, _, h.1, fun _ => rfl⟩
  | _ :: _ :: r :: _ :: _, _, h => ⟨_, _, _, h.1, fun e => by simp at e⟩

theorem GrowG.arg {vs : List Value} {w : World} (h : GrowG B w0 wr y0 y1 f ts rv t vs w) : w.cell? ⟨w0.heap.size, 0, none⟩ = some y0 ∧ w.cell? ⟨w0.heap.size, 1, none⟩ = some y1 := by
  obtain ⟨_, _, _, h, _⟩ := h.grow
  exact ⟨h.arg.cell 0, h.arg.cell 1⟩
theorem GrowG.out {vs : List Value} {w : World} (h : GrowG B w0 wr y0 y1 f ts rv t vs w) (hl : vs.length ≤ 3) : w.cell? ⟨w0.heap.size + 2, 1, none⟩ = some rv := by
  obtain ⟨_, _, _, h, e⟩ := h.grow
  rw [← e hl]
  exact h.out.cell 1
theorem GrowG.old {vs : List Value} {w : World} (h : GrowG B w0 wr y0 y1 f ts rv t vs w) {p : Addr} {x : Value} (hp : p.block < B) (hx : w0.cell? p = some x) : w.cell? p = some x := by
  obtain ⟨_, _, _, h, _⟩ := h.grow
  exact (h.below.cell (Nat.lt_of_lt_of_le hp h.le)).trans hx

theorem GrowG.call {w w' : World} {v : Value} (h : GrowG B w0 wr y0 y1 f ts rv t [] w) (hi : InT (New B w.heap.size) w' t v) (hb : Below w.heap.size w w') : GrowG B w0 wr y0 y1 f ts rv t ([] ++ [v]) w' := by
  obtain ⟨rfl, h⟩ := h
  exact ⟨h.below_ hb, hb.size, hi⟩

theorem wp_rowT {w : World} {a : Act} {K : Act → World → Prop} {Q : Exit → Act → World → Prop} {o : Oper} {x : Operand} {v : Value} {S : Nat → Prop} (ho : o.op = .buildSlice 25 1 #[(0, x)]) (hx : a.eval x = v) (hv : InT S w t v)
    (hK : ∀ u y, v = .agg #[u, y] → u.oneCell' = true → y.oneCell' = true → K (a.put o.dst (.slice (some ⟨w.heap.size, 0, none⟩) 1 1)) (w.alloc (.cells #[u, y] 27))) : o.wp Try.prog a w K Q := by
  obtain ⟨_, a1, c1, rfl, _, _, _⟩ := hv.form
  unfold Oper.wp execOp
  simp only [ho, hx, List.map_toArray, List.map_cons, List.map_nil]
  go_simp
  exact hK _ _ rfl rfl rfl

theorem GrowG.row {w : World} {v u y : Value} (h : GrowG B w0 wr y0 y1 f ts rv t [v] w) (hv : v = .agg #[u, y]) (hu : u.oneCell' = true) (hy : y.oneCell' = true) :
    GrowG B w0 wr y0 y1 f ts rv t ([v] ++ [.slice (some ⟨w.heap.size, 0, none⟩) 1 1]) (w.alloc (.cells #[u, y] 27)) := by
  obtain ⟨h1, h2, h3⟩ := h
  have hb := balloc w (.cells #[u, y] 27)
  exact ⟨h1.below_ hb, h3.below hb, _, u, y, rfl, hv, Blk.new' rfl, h2, hu, hy⟩

theorem GrowG.append {w w' : World} {v s u x : Value} {g1 c1 : Nat} {xs : List Value} (h : GrowG B w0 wr y0 y1 f ts rv t [v, s] w) (hwr : ∀ b, rv.ownBlock = some b → b < wr.heap.size) (hN : w0.heap.size + 3 ≤ wr.heap.size)
    (hv : v = .agg #[u, x]) (hxs : Elems (Own B (w0.heap.size + 3) rv) w ts xs)
    (hown : w'.ownsRow (w0.heap.size + 3) 27 2 (.slice (some ⟨g1, 0, none⟩) (ts.length + 1) c1) (ts.length + 1) (xs ++ [u, x])) (hgrow : w.grownBy w' rv.ownBlock) (hat : rv.ownBlock = some g1 ∨ g1 = w.heap.size) :
    GrowG B w0 wr y0 y1 f ts rv t ([v, s] ++ [.slice (some ⟨g1, 0, none⟩) (ts.length + 1) c1]) w' := by
  obtain ⟨h1, h3, _⟩ := h
  subst hv
  obtain ⟨x0, x1, hr⟩ := h1.res
  obtain ⟨xs', ho, _⟩ := h1.rows
  have hlt := h1.out.lt
  have hlow := ho.lt
  have hle := h1.le
  have far : ∀ b, b < w0.heap.size + 3 → some b ≠ rv.ownBlock := fun b hb e => by have := (hlow b e.symm).1; omega
  have hfresh : ∀ b, b < w.heap.size → rv.ownBlock ≠ some b → some g1 ≠ some b := by
    intro b hb hne e
    simp only [Option.some.injEq] at e
    subst e
    rcases hat with e | e
    · exact hne e
    · omega
  refine ⟨⟨hle, h1.below.grown hgrow (by omega) (fun b hb => by have := (hlow b hb).1; omega), h1.arg.grown hgrow (far _ (by omega)), ⟨x0, x1, hr.grown hgrow (far _ (by omega))⟩, h1.out.grown hgrow (far _ (by omega)), xs ++ [u, x], by simpa using hown, ?_⟩, _, _, _, rfl⟩
  have hK : ∀ (p : Addr) (y : Value), rv.ownBlock ≠ some p.block → w.cell? p = some y → w'.cell? p = some y := fun p y hp hy => hgrow.cell hy (Ne.symm hp)
  refine Elems.snoc ?_ ?_
  · refine InT.mono (S := fun b => New B wr.heap.size b ∧ some g1 ≠ some b) ?_ (InT.keep (w := w) ?_ (InT.mono ?_ h3))
    · intro b hb _
      refine ⟨hb.1.imp id (fun h => by omega), hb.2⟩
    · intro p y hp hy
      refine hK p y (fun e => ?_) hy
      have := hwr _ e
      have := (hlow _ e).1
      rcases hp.1 with h | h <;> omega
    · intro b hb hlt
      refine ⟨hb, hfresh b hlt (fun e => ?_)⟩
      have := hwr _ e
      have := (hlow _ e).1
      rcases hb with h | h <;> omega
  · refine Elems.mono (S := fun b => Own B (w0.heap.size + 3) rv b ∧ some g1 ≠ some b) (fun b hb _ => ⟨hb.1.1, hb.2⟩) (Elems.keep (w := w) (fun p y hp hy => hK p y hp.1.2 hy) (Elems.mono (fun b hb hlt => ⟨hb, hfresh b hlt hb.2⟩) hxs))

theorem GrowG.store {w : World} {v s r x : Value} (h : GrowG B w0 wr y0 y1 f ts rv t [v, s, r] w) : GrowG B w0 wr y0 y1 f ts rv t ([v, s, r] ++ [x]) (w.setCell ⟨w0.heap.size + 2, 1, none⟩ r) := ⟨h.1.store, h.2⟩

theorem GrowG.inT {w : World} {v : Value} (h : GrowG B w0 wr y0 y1 f ts rv t [v] w) : InT (New B wr.heap.size) w t v := h.2.2
theorem GrowG.two {w : World} {v s : Value} (h : GrowG B w0 wr y0 y1 f ts rv t [v, s] w) : Grow B w0 y0 y1 f ts w rv rv ∧ InT (New B wr.heap.size) w t v ∧ ∃ g u x, s = .slice (some ⟨g, 0, none⟩) 1 1 ∧ v = .agg #[u, x] ∧ Blk w g 27 #[u, x] ∧ wr.heap.size ≤ g ∧ u.oneCell' = true ∧ x.oneCell' = true := h
theorem GrowG.three {w : World} {v s r : Value} (h : GrowG B w0 wr y0 y1 f ts rv t [v, s, r] w) : Grow B w0 y0 y1 f (ts ++ [t]) w rv r ∧ ∃ a n c, r = .slice a n c := h
theorem GrowG.four {w : World} {v s r q : Value} (h : GrowG B w0 wr y0 y1 f ts rv t [v, s, r, q] w) : Grow B w0 y0 y1 f (ts ++ [t]) w r r ∧ ∃ a n c, r = .slice a n c := h
theorem GrowG.oldT {vs : List Value} {w : World} {s : T} {v : Value} (h : GrowG B w0 wr y0 y1 f ts rv t vs w) (hv : InT (fun b => b < B) w0 s v) : InT (fun b => b < B) w s v := by
  obtain ⟨_, _, _, h, _⟩ := h.grow
  exact hv.old h.below h.le
theorem GrowG.oldTs {vs : List Value} {w : World} {l : List T} {a : Option Addr} {i : Nat} (h : GrowG B w0 wr y0 y1 f ts rv t vs w) (hv : InTs (fun b => b < B) w0 l a i) : InTs (fun b => b < B) w l a i := by
  obtain ⟨_, _, _, h, _⟩ := h.grow
  exact hv.old h.below h.le
theorem GrowG.size {vs : List Value} {w : World} (h : GrowG B w0 wr y0 y1 f ts rv t vs w) : B ≤ w.heap.size := by
  obtain ⟨_, _, _, h, _⟩ := h.grow
  have := h.arg.lt
  have := h.le
  omega

theorem vs_eq0 {vs : List Value} (h : vs.length = 0) : vs = [] := List.length_eq_zero_iff.1 h
theorem vs_eq1 {vs : List Value} (h : vs.length = 1) : ∃ v, vs = [v] := by
  match vs, h with
  | [v], _ => exact ⟨v, rfl⟩
theorem vs_eq2 {vs : List Value} (h : vs.length = 2) : ∃ v s, vs = [v, s] := by
  match vs, h with
  | [v, s], _ => exact ⟨v, s, rfl⟩
theorem vs_eq3 {vs : List Value} (h : vs.length = 3) : ∃ v s r, vs = [v, s, r] := by
  match vs, h with
  | [v, s, r], _ => exact ⟨v, s, r, rfl⟩
theorem vs_eq4 {vs : List Value} (h : vs.length = 4) : ∃ v s r q, vs = [v, s, r, q] := by
  match vs, h with
  | [v, s, r, q], _ => exact ⟨v, s, r, q, rfl⟩

theorem wp_storeT {w : World} {a : Act} {K : Act → World → Prop} {Q : Exit → Act → World → Prop} {o : Oper} {x y : Operand} {b i : Nat} {ra : Option Addr} {rn rc : Nat} {old : Value} (ho : o.op = .store 25 x y) (hx : a.eval x = .pointer (some ⟨b, i, none⟩)) (hy : a.eval y = .slice ra rn rc) (hc : w.cell? ⟨b, i, none⟩ = some old) (hf : w.frozen? ⟨b, i, none⟩ = false)
    (hK : ∀ v, K (a.put o.dst v) (w.setCell ⟨b, i, none⟩ (.slice ra rn rc))) : o.wp Try.prog a w K Q := by
  unfold Oper.wp execOp
  simp only [ho, hx, hy]
  go_simp
  exact hK _

theorem wp_appendT {w : World} {a : Act} {K : Act → World → Prop} {Q : Exit → Act → World → Prop} {o : Oper} {x y : Operand} {v s : Value}
    (ho : o.op = .call { callee := .builtin .append, args := #[x, y], argTypes := #[25, 25] }) (hx : a.eval x = rv) (hy : a.eval y = s) (hlen : ts.length + 1 ≤ 4294967296)
    (h : GrowG B w0 wr y0 y1 f ts rv t [v, s] w) (hwr : ∀ b, rv.ownBlock = some b → b < wr.heap.size) (hN : w0.heap.size + 3 ≤ wr.heap.size)
    (hK : ∀ r w', GrowG B w0 wr y0 y1 f ts rv t ([v, s] ++ [r]) w' → K (a.put o.dst r) w') : o.wp Try.prog a w K Q := by
  have hint : (Try.prog.info? 27).map (fun i => (i.zero, i.size, i.bytes)) = some (some (.agg #[.int .i64 0, .slice none 0 0]), 2, 32) := by kernel_rfl
  obtain ⟨i0, hi, hz0, hz1, hz2⟩ := info_parts hint
  obtain ⟨h1, h3, g, u, z, rfl, rfl, hB, hg, o1, o2⟩ := h.two
  obtain ⟨xs, hx1, hx2⟩ := h1.rows
  have hsz := h1.out.lt
  refine wp_append_lies _ x y 25 ho (w0.heap.size + 3) 27 i0 (.agg #[.int .i64 0, .slice none 0 0]) 2 32 Try.underlying25 hi hz0 hz1 hz2 rfl (by decide) rv ts.length xs hx hx1 ⟨g, 0, none⟩ 1 1 [u, z] hy rfl (World.news_of_block hB) (by simp [o1, o2]) (by omega) (by unfold maxLen; omega) (by omega) (by omega) _ rfl ?_
  intro g1 c1 w' hown hgrow hat hlt
  exact hK _ _ (h.append hwr hN rfl hx2 hown hgrow hat)

/-- The row is whole. -/
theorem Grow.value {w : World} {r : Value} (hf : I64 f) (h : Grow B w0 y0 y1 f ts w r r) : InT (New B (w0.heap.size + 3)) w (.mk f ts) (.agg #[.int .i64 f, r]) := by
  obtain ⟨xs, h1, h2⟩ := h.rows
  rcases h1.2 with ⟨rfl, h0⟩ | ⟨g, cap, cur, rfl, hg, hb, hc, hm, hs, ht⟩
  · have : ts = [] := List.length_eq_zero_iff.1 h0
    subst this
    exact ⟨hf, none, 0, rfl, by simp, by unfold maxLen; omega, trivial⟩
  · refine ⟨hf, _, cap, rfl, hc, hm, ?_⟩
    refine InTs.mono (S := fun b => New B (w0.heap.size + 3) b) (fun b hb _ => hb) (Elems.row (.inr hg) (Elems.mono (fun b hb _ => hb.1) h2) (fun j u hj => ?_))
    have := h1.cells (g := g) rfl j u hj
    have e : (⟨g, 0, none⟩ : Addr).add j = ⟨g, j, none⟩ := by unfold Addr.add; split <;> simp_all
    rw [e] at this
    simpa using this

theorem Grow.start3 {x0 x1 : Value} (hle : B ≤ w0.heap.size) : Grow B w0 y0 y1 f [] (((w0.alloc (.cells #[y0, y1] 27)).alloc (.cells #[x0, x1] 27)).alloc (.cells #[.int .i64 f, .slice none 0 0] 27)) (.slice none 0 0) (.slice none 0 0) :=
  .start hle (bstep (balloc2 _ _ _) (balloc _ _)) (((Blk.new' rfl).alloc _).alloc _) ((Blk.new' (by simp)).alloc _) (Blk.new' (by simp))

/-- A store into the result's box. -/
theorem New.far {w w' : World} {N i : Nat} {u : Value} {S : Nat → Prop} (hN : ¬ S N) (hw : w' = w.setCell ⟨N, i, none⟩ u) {t : T} {v : Value} (h : InT S w t v) : InT S w' t v := by
  subst hw
  exact h.keep fun p x hp hx => (gsetc w ⟨N, i, none⟩ u).cell hx (fun e => hN (by simp only [Option.some.injEq] at e; rwa [e] at hp))

theorem Grow.finish {w : World} {r u0 u1 : Value} (hf : I64 f) (h : Grow B w0 y0 y1 f ts w r r) :
    InT (New B w0.heap.size) ((w.setCell ⟨w0.heap.size + 1, 0, none⟩ u0).setCell ⟨w0.heap.size + 1, 1, none⟩ u1) (.mk f ts) (.agg #[.int .i64 f, r]) ∧ Below w0.heap.size w0 ((w.setCell ⟨w0.heap.size + 1, 0, none⟩ u0).setCell ⟨w0.heap.size + 1, 1, none⟩ u1) := by
  have hle := h.le
  have hn : ¬ New B (w0.heap.size + 3) (w0.heap.size + 1) := by unfold New; omega
  refine ⟨(New.far hn rfl (New.far hn rfl (h.value hf))).mono (fun b hb _ => hb.imp id (fun h => by omega)), ?_⟩
  exact (h.below.setCell (p := ⟨w0.heap.size + 1, 0, none⟩) (by simp) _).setCell (p := ⟨w0.heap.size + 1, 1, none⟩) (by simp) _

end

end Go.Proofs.Ytjkpecjlpgcalaa
