/- The walks through the document's variables of a term: the row they come to. -/
import Derived.Test.YtlkiabgpnboicaaMga
import Derived.Test.YtlkiabgpnboicaaMgh
import Derived.Deep.AppendLies
import Derived.Test.YtlkiabgpnboicaaMgi
import Derived.Test.YtlkiabgpnboicaaMgj
import Derived.Test.YtlkiabgpnboicaaMgk

/- The least order of so many symbols: two rows that are made by append. -/


namespace Go.Proofs.Ytlkiabgpnboicaa
open Go.RowKit Go.Sort Go


theorem Blk.grown {w w' : World} {g : Nat} {t : TypeId} {cs : Array Value} {row : Option Nat} (h : Blk w g t cs) (hg : w.grownBy w' row) (hne : some g ≠ row) : Blk w' g t cs := (hg.block g h.lt hne).trans h

theorem gsetc (w : World) (a : Addr) (u : Value) : w.grownBy (w.setCell a u) (some a.block) :=
  ⟨rfl, rfl, rfl, by simp [World.setCell], fun k _ hk => Below.heap_setCell w a u k (fun e => hk (by rw [e]))⟩

theorem cell_one_at {w : World} {x : Value} {t : TypeId} {b : Nat} (h : w.heap.size = b) : ∀ j u, [x][j]? = some u → (w.alloc (.cells #[x] t)).cell? ((⟨b, 0, none⟩ : Addr).add j) = some u := by
  subst h; exact cell_one_new _ _ _


theorem ownsRow_slice {w : World} {base : Nat} {e : TypeId} {size : Nat} {v : Value} {n : Nat} {xs : List Value} (h : w.ownsRow base e size v n xs) : ∃ a m c, v = .slice a m c := by
  rcases h.2 with ⟨rfl, _⟩ | ⟨g, c, _, rfl, _⟩ <;> exact ⟨_, _, _, rfl⟩

end Go.Proofs.Ytlkiabgpnboicaa

/- Terms that lie within some blocks, and rows of terms that are made by append, one term after the other. -/
namespace Go.Proofs.Ytlkiabgpnboicaa.Old
set_option maxRecDepth 100000
open Go.RowKit Go

mutual
/-- The value 'v' is the term 't', and all its rows lie in blocks of 'S'. -/
def InT (S : Nat → Prop) (w : World) : T → Value → Prop
  | .mk f l, v => I64 f ∧ ∃ (a : Option Addr) (c : Nat), v = .agg #[.int .i64 f, .slice a l.length c] ∧ l.length ≤ c ∧ c ≤ maxLen ∧ InTs S w l a 0
def InTs (S : Nat → Prop) (w : World) : List T → Option Addr → Nat → Prop
  | [], _, _ => True
  | t :: r, a, i => (∃ (b o : Nat) (u v : Value), a = some ⟨b, o, none⟩ ∧ S b ∧ w.cell? ⟨b, o + i * 2, none⟩ = some u ∧ w.cell? ⟨b, o + i * 2 + 1, none⟩ = some v ∧ InT S w t (.agg #[u, v])) ∧ InTs S w r a (i + 1)
end

mutual
theorem InT.keep {S : Nat → Prop} {w w' : World} (hb : ∀ (p : Addr) (x : Value), S p.block → w.cell? p = some x → w'.cell? p = some x) : ∀ {t : T} {v : Value}, InT S w t v → InT S w' t v
  | .mk _ _, _, ⟨h0, a, c, h1, h2, h3, h4⟩ => ⟨h0, a, c, h1, h2, h3, InTs.keep hb h4⟩
theorem InTs.keep {S : Nat → Prop} {w w' : World} (hb : ∀ (p : Addr) (x : Value), S p.block → w.cell? p = some x → w'.cell? p = some x) : ∀ {l : List T} {a : Option Addr} {i : Nat}, InTs S w l a i → InTs S w' l a i
  | [], _, _, _ => trivial
  | _ :: _, _, _, ⟨⟨b, o, u, v, ha, hs, h1, h2, h3⟩, h4⟩ => ⟨⟨b, o, u, v, ha, hs, hb ⟨b, _, none⟩ _ hs h1, hb ⟨b, _, none⟩ _ hs h2, InT.keep hb h3⟩, InTs.keep hb h4⟩
end
mutual
theorem InT.mono {S S' : Nat → Prop} {w : World} (hb : ∀ b, S b → b < w.heap.size → S' b) : ∀ {t : T} {v : Value}, InT S w t v → InT S' w t v
  | .mk _ _, _, ⟨h0, a, c, h1, h2, h3, h4⟩ => ⟨h0, a, c, h1, h2, h3, InTs.mono hb h4⟩
theorem InTs.mono {S S' : Nat → Prop} {w : World} (hb : ∀ b, S b → b < w.heap.size → S' b) : ∀ {l : List T} {a : Option Addr} {i : Nat}, InTs S w l a i → InTs S' w l a i
  | [], _, _, _ => trivial
  | _ :: _, _, _, ⟨⟨b, o, u, v, ha, hs, h1, h2, h3⟩, h4⟩ => ⟨⟨b, o, u, v, ha, hb _ hs (World.block_lt_of_cell? _ _ h1), h1, h2, InT.mono hb h3⟩, InTs.mono hb h4⟩
end
mutual
theorem InT.isT {S : Nat → Prop} {w : World} : ∀ {t : T} {v : Value}, InT S w t v → IsT w t v
  | .mk _ _, _, ⟨h0, a, c, h1, h2, h3, h4⟩ => ⟨h0, a, c, h1, h2, h3, InTs.isTs h4⟩
theorem InTs.isTs {S : Nat → Prop} {w : World} : ∀ {l : List T} {a : Option Addr} {i : Nat}, InTs S w l a i → IsTs w l a i
  | [], _, _, _ => trivial
  | _ :: _, _, _, ⟨⟨b, o, u, v, ha, hs, h1, h2, h3⟩, h4⟩ => ⟨⟨b, o, u, v, ha, h1, h2, InT.isT h3⟩, InTs.isTs h4⟩
end
mutual
theorem IsT.inT {w : World} : ∀ {t : T} {v : Value}, IsT w t v → InT (fun b => b < w.heap.size) w t v
  | .mk _ _, _, ⟨h0, a, c, h1, h2, h3, h4⟩ => ⟨h0, a, c, h1, h2, h3, IsTs.inTs h4⟩
theorem IsTs.inTs {w : World} : ∀ {l : List T} {a : Option Addr} {i : Nat}, IsTs w l a i → InTs (fun b => b < w.heap.size) w l a i
  | [], _, _, _ => trivial
  | _ :: _, _, _, ⟨⟨b, o, u, v, ha, h1, h2, h3⟩, h4⟩ => ⟨⟨b, o, u, v, ha, World.block_lt_of_cell? _ _ h1, h1, h2, IsT.inT h3⟩, IsTs.inTs h4⟩
end

theorem InT.below {S : Nat → Prop} {w w' : World} (hb : Below w.heap.size w w') {t : T} {v : Value} (h : InT S w t v) : InT S w' t v := h.keep fun p x _ hx => bkeeps hb p x hx
theorem InTs.below {S : Nat → Prop} {w w' : World} (hb : Below w.heap.size w w') {l : List T} {a : Option Addr} {i : Nat} (h : InTs S w l a i) : InTs S w' l a i := h.keep fun p x _ hx => bkeeps hb p x hx
/-- What keeps blocks below 'B' keeps what lies there. -/
theorem InT.old {B N : Nat} {w w' : World} (hb : Below N w w') (hBN : B ≤ N) {t : T} {v : Value} (h : InT (fun b => b < B) w t v) : InT (fun b => b < B) w' t v := InT.keep (S := fun b => b < B) (fun p x (hp : p.block < B) hx => (hb.cell (Nat.lt_of_lt_of_le hp hBN)).trans hx) h
theorem InTs.old {B N : Nat} {w w' : World} (hb : Below N w w') (hBN : B ≤ N) {l : List T} {a : Option Addr} {i : Nat} (h : InTs (fun b => b < B) w l a i) : InTs (fun b => b < B) w' l a i := InTs.keep (S := fun b => b < B) (fun p x (hp : p.block < B) hx => (hb.cell (Nat.lt_of_lt_of_le hp hBN)).trans hx) h

theorem InT.form {S : Nat → Prop} {w : World} {t : T} {v : Value} (h : InT S w t v) : I64 t.f ∧ ∃ (a : Option Addr) (c : Nat), v = .agg #[.int .i64 t.f, .slice a t.args.length c] ∧ t.args.length ≤ c ∧ c ≤ maxLen ∧ InTs S w t.args a 0 := by
  cases t; exact h

theorem InTs.at0 {S : Nat → Prop} {w : World} {l : List T} : ∀ {a : Option Addr} {i : Nat}, InTs S w l a i → ∀ k (hk : k < l.length),
    ∃ (b o : Nat) (u v : Value), a = some ⟨b, o, none⟩ ∧ S b ∧ w.cell? ⟨b, o + (i + k) * 2, none⟩ = some u ∧ w.cell? ⟨b, o + (i + k) * 2 + 1, none⟩ = some v ∧ InT S w l[k] (.agg #[u, v]) := by
  induction l with
  | nil => intro a i _ k hk; simp at hk
  | cons t r ih =>
    intro a i h k hk
    obtain ⟨h0, h1⟩ := h
    cases k with
    | zero => exact h0
    | succ k =>
      obtain ⟨b, o, u, v, h2, h3, h4, h5, h6⟩ := ih h1 k (by simpa using hk)
      refine ⟨b, o, u, v, h2, h3, ?_, ?_, by simpa using h6⟩
      · rw [show i + (k + 1) = i + 1 + k by omega]; exact h4
      · rw [show i + (k + 1) = i + 1 + k by omega]; exact h5
theorem InTs.at_ {S : Nat → Prop} {w : World} {l : List T} {a : Option Addr} (h : InTs S w l a 0) (k : Nat) (hk : k < l.length) :
    ∃ (b o : Nat) (u v : Value), a = some ⟨b, o, none⟩ ∧ S b ∧ w.cell? ⟨b, o + k * 2, none⟩ = some u ∧ w.cell? ⟨b, o + k * 2 + 1, none⟩ = some v ∧ InT S w l[k] (.agg #[u, v]) := by
  have := h.at0 k hk
  simpa using this

/-! ### Rows -/

def Elems (S : Nat → Prop) (w : World) : List T → List Value → Prop
  | [], [] => True
  | t :: r, u :: v :: xs => InT S w t (.agg #[u, v]) ∧ Elems S w r xs
  | _, _ => False

theorem Elems.keep {S : Nat → Prop} {w w' : World} (hb : ∀ (p : Addr) (x : Value), S p.block → w.cell? p = some x → w'.cell? p = some x) : ∀ {l : List T} {xs : List Value}, Elems S w l xs → Elems S w' l xs
  | [], [], _ => trivial
  | _ :: _, _ :: _ :: _, h => ⟨h.1.keep hb, Elems.keep hb h.2⟩
  | [], _ :: _, h => h.elim
  | _ :: _, [], h => h.elim
  | _ :: _, [_], h => h.elim
theorem Elems.mono {S S' : Nat → Prop} {w : World} (hb : ∀ b, S b → b < w.heap.size → S' b) : ∀ {l : List T} {xs : List Value}, Elems S w l xs → Elems S' w l xs
  | [], [], _ => trivial
  | _ :: _, _ :: _ :: _, h => ⟨h.1.mono hb, Elems.mono hb h.2⟩
  | [], _ :: _, h => h.elim
  | _ :: _, [], h => h.elim
  | _ :: _, [_], h => h.elim
theorem Elems.snoc {S : Nat → Prop} {w : World} {t : T} {u v : Value} (ht : InT S w t (.agg #[u, v])) : ∀ {l : List T} {xs : List Value}, Elems S w l xs → Elems S w (l ++ [t]) (xs ++ [u, v])
  | [], [], _ => ⟨ht, trivial⟩
  | _ :: _, _ :: _ :: _, h => ⟨h.1, Elems.snoc ht h.2⟩
  | [], _ :: _, h => h.elim
  | _ :: _, [], h => h.elim
  | _ :: _, [_], h => h.elim
theorem Elems.row {S : Nat → Prop} {w : World} {g o : Nat} (hg : S g) : ∀ {l : List T} {xs : List Value} {i : Nat}, Elems S w l xs → (∀ j u, xs[j]? = some u → w.cell? ⟨g, o + i * 2 + j, none⟩ = some u) → InTs S w l (some ⟨g, o, none⟩) i
  | [], [], _, _, _ => trivial
  | t :: r, u :: v :: xs, i, h, hc => ⟨⟨g, o, u, v, rfl, hg, by simpa using hc 0 u rfl, by simpa using hc 1 v rfl, h.1⟩, Elems.row hg h.2 (fun j x hx => by
      have := hc (j + 2) x (by simpa using hx)
      rwa [show o + (i + 1) * 2 + j = o + i * 2 + (j + 2) by omega])⟩
  | [], _ :: _, _, h, _ => h.elim
  | _ :: _, [], _, h, _ => h.elim
  | _ :: _, [_], _, h, _ => h.elim

/-- What a call may leave: the blocks below 'B', or new ones; not the row's own one. -/
def Own (B N : Nat) (r : Value) (b : Nat) : Prop := (b < B ∨ N ≤ b) ∧ r.ownBlock ≠ some b

/-- Within a call that makes a term of the head 'f' by append: the argument's box, the result's, that of the term that is made; 'rv' in there, and the row 'r'. -/
structure Grow (B : Nat) (w0 : World) (y0 y1 : Value) (f : Int) (ts : List T) (w : World) (rv r : Value) : Prop where
  le : B ≤ w0.heap.size
  below : Below w0.heap.size w0 w
  arg : Blk w w0.heap.size 27 #[y0, y1]
  res : ∃ x0 x1, Blk w (w0.heap.size + 1) 27 #[x0, x1]
  out : Blk w (w0.heap.size + 2) 27 #[.int .i64 f, rv]
  rows : ∃ xs, w.ownsRow (w0.heap.size + 3) 27 2 r ts.length xs ∧ Elems (Own B (w0.heap.size + 3) r) w ts xs

/-- The same, with the row's own block changed or more memory made. -/
theorem Grow.below_ {B : Nat} {w0 w w' : World} {y0 y1 : Value} {f : Int} {ts : List T} {rv r : Value} (h : Grow B w0 y0 y1 f ts w rv r) (hb : Below w.heap.size w w') : Grow B w0 y0 y1 f ts w' rv r := by
  obtain ⟨x0, x1, hr⟩ := h.res
  obtain ⟨xs, h1, h2⟩ := h.rows
  refine ⟨h.le, bstep h.below hb, h.arg.below hb, ⟨x0, x1, hr.below hb⟩, h.out.below hb, xs, ?_, h2.keep fun p x _ hx => bkeeps hb p x hx⟩
  refine ⟨h1.1, h1.2.imp id ?_⟩
  rintro ⟨g, cap, cur, e1, e2, e3, e4, e5, e6, e7⟩
  exact ⟨g, cap, cur, e1, e2, (hb.block g (lt_of_block e3)).trans e3, e4, e5, e6, e7⟩

theorem Grow.start {B : Nat} {w0 : World} {y0 y1 x0 x1 : Value} {f : Int} {w : World} (hle : B ≤ w0.heap.size) (hb : Below w0.heap.size w0 w) (h0 : Blk w w0.heap.size 27 #[y0, y1]) (h1 : Blk w (w0.heap.size + 1) 27 #[x0, x1]) (h2 : Blk w (w0.heap.size + 2) 27 #[.int .i64 f, .slice none 0 0]) :
    Grow B w0 y0 y1 f [] w (.slice none 0 0) (.slice none 0 0) := ⟨hle, hb, h0, ⟨x0, x1, h1⟩, h2, [], ⟨rfl, .inl ⟨rfl, rfl⟩⟩, trivial⟩

theorem Grow.drew {B : Nat} {w0 w : World} {y0 y1 : Value} {f : Int} {ts : List T} {rv r : Value} (h : Grow B w0 y0 y1 f ts w rv r) : Grow B w0 y0 y1 f ts w.drew rv r := by
  obtain ⟨x0, x1, hr⟩ := h.res
  obtain ⟨xs, h1, h2⟩ := h.rows
  exact ⟨h.le, h.below.drew, h.arg, ⟨x0, x1, hr⟩, h.out, xs, h1.drew, Elems.keep (w := w) (w' := w.drew) (fun p x _ hx => hx) h2⟩

/-- Behind the store of the row. -/
theorem Grow.store {B : Nat} {w0 w : World} {y0 y1 : Value} {f : Int} {ts : List T} {rv r : Value} (h : Grow B w0 y0 y1 f ts w rv r) : Grow B w0 y0 y1 f ts (w.setCell ⟨w0.heap.size + 2, 1, none⟩ r) r r := by
  obtain ⟨x0, x1, hr⟩ := h.res
  obtain ⟨xs, h1, h2⟩ := h.rows
  have hg := gsetc w ⟨w0.heap.size + 2, 1, none⟩ r
  have hlt := h.arg.lt
  have hle := h.le
  refine ⟨hle, h.below.grown hg (by omega) (fun b hb => ?_), h.arg.far (by simp) _, ⟨x0, x1, hr.far (by simp) _⟩, by simpa using h.out.set_ 1 r, xs, h1.kept hg (.inr fun e => ?_), h2.keep fun p x hp hx => hg.cell hx (fun e => ?_)⟩
  · simp only [Option.some.injEq] at hb; subst hb; simp
  · have := h1.lt _ e; simp at this
  · have hp := hp.1
    simp only [Option.some.injEq] at e
    rw [e] at hp
    simp at hp
    omega

/-! ### One term more -/

/-- What lies below 'B', or was made since there were 'N' blocks. -/
def New (B N : Nat) (b : Nat) : Prop := b < B ∨ N ≤ b

section
variable {B : Nat} {w0 wr : World} {y0 y1 : Value} {f : Int} {ts : List T} {rv : Value} {t : T}

/-- The chain: the call, the row of one, the append, the store. -/
def GrowG (B : Nat) (w0 wr : World) (y0 y1 : Value) (f : Int) (ts : List T) (rv : Value) (t : T) : List Value → World → Prop
  | [], w => w = wr.drew ∧ Grow B w0 y0 y1 f ts w rv rv
  | [v], w => Grow B w0 y0 y1 f ts w rv rv ∧ wr.heap.size ≤ w.heap.size ∧ InT (New B wr.heap.size) w t v
  | [v, s], w => Grow B w0 y0 y1 f ts w rv rv ∧ InT (New B wr.heap.size) w t v ∧ ∃ g u x, s = .slice (some ⟨g, 0, none⟩) 1 1 ∧ v = .agg #[u, x] ∧ Blk w g 27 #[u, x] ∧ wr.heap.size ≤ g ∧ u.oneCell' = true ∧ x.oneCell' = true
  | [_, _, r], w => Grow B w0 y0 y1 f (ts ++ [t]) w rv r ∧ ∃ a n c, r = .slice a n c
  | _ :: _ :: r :: _, w => Grow B w0 y0 y1 f (ts ++ [t]) w r r ∧ ∃ a n c, r = .slice a n c

theorem GrowG.grow : ∀ {vs : List Value} {w : World}, GrowG B w0 wr y0 y1 f ts rv t vs w → ∃ ts' rv' r', Grow B w0 y0 y1 f ts' w rv' r' ∧ (vs.length ≤ 3 → rv' = rv)
  | [], _, h => ⟨_, _, _, h.2, fun _ => rfl⟩
  | [_], _, h => ⟨_, _, _, h.1, fun _ => rfl⟩
  | [_, _], _, h => ⟨_, _, _, h.1, fun _ => rfl⟩
  | [_, _, _], _, h => ⟨_, _, _, h.1, fun _ => rfl⟩
  | _ :: _ :: r :: _ :: _, _, h => ⟨_, _, _, h.1, fun e => by simp at e⟩

theorem GrowG.arg {vs : List Value} {w : World} (h : GrowG B w0 wr y0 y1 f ts rv t vs w) : w.cell? ⟨w0.heap.size, 0, none⟩ = some y0 ∧ w.cell? ⟨w0.heap.size, 1, none⟩ = some y1 := by
  obtain ⟨_, _, _, h, _⟩ := h.grow
  exact ⟨h.arg.cell 0, h.arg.cell 1⟩
theorem GrowG.out {vs : List Value} {w : World} (h : GrowG B w0 wr y0 y1 f ts rv t vs w) (hl : vs.length ≤ 3) : w.cell? ⟨w0.heap.size + 2, 1, none⟩ = some rv := by
  obtain ⟨_, _, _, h, e⟩ := h.grow
  rw [← e hl]
  exact h.out.cell 1
theorem GrowG.old {vs : List Value} {w : World} (h : GrowG B w0 wr y0 y1 f ts rv t vs w) {p : Addr} {x : Value} (hp : p.block < B) (hx : w0.cell? p = some x) : w.cell? p = some x := by
  obtain ⟨_, _, _, h, _⟩ := h.grow
  exact (h.below.cell (Nat.lt_of_lt_of_le hp h.le)).trans hx

theorem GrowG.call {w w' : World} {v : Value} (h : GrowG B w0 wr y0 y1 f ts rv t [] w) (hi : InT (New B w.heap.size) w' t v) (hb : Below w.heap.size w w') : GrowG B w0 wr y0 y1 f ts rv t ([] ++ [v]) w' := by
  obtain ⟨rfl, h⟩ := h
  exact ⟨h.below_ hb, hb.size, hi⟩

theorem wp_rowT {w : World} {a : Act} {K : Act → World → Prop} {Q : Exit → Act → World → Prop} {o : Oper} {x : Operand} {v : Value} {S : Nat → Prop} (ho : o.op = .buildSlice 25 1 #[(0, x)]) (hx : a.eval x = v) (hv : InT S w t v)
    (hK : ∀ u y, v = .agg #[u, y] → u.oneCell' = true → y.oneCell' = true → K (a.put o.dst (.slice (some ⟨w.heap.size, 0, none⟩) 1 1)) (w.alloc (.cells #[u, y] 27))) : o.wp Try.prog a w K Q := by
  obtain ⟨_, a1, c1, rfl, _, _, _⟩ := hv.form
  unfold Oper.wp execOp
  simp only [ho, hx, List.map_toArray, List.map_cons, List.map_nil]
  go_simp
  exact hK _ _ rfl rfl rfl

theorem GrowG.row {w : World} {v u y : Value} (h : GrowG B w0 wr y0 y1 f ts rv t [v] w) (hv : v = .agg #[u, y]) (hu : u.oneCell' = true) (hy : y.oneCell' = true) :
    GrowG B w0 wr y0 y1 f ts rv t ([v] ++ [.slice (some ⟨w.heap.size, 0, none⟩) 1 1]) (w.alloc (.cells #[u, y] 27)) := by
  obtain ⟨h1, h2, h3⟩ := h
  have hb := balloc w (.cells #[u, y] 27)
  exact ⟨h1.below_ hb, h3.below hb, _, u, y, rfl, hv, Blk.new' rfl, h2, hu, hy⟩

theorem GrowG.append {w w' : World} {v s u x : Value} {g1 c1 : Nat} {xs : List Value} (h : GrowG B w0 wr y0 y1 f ts rv t [v, s] w) (hwr : ∀ b, rv.ownBlock = some b → b < wr.heap.size) (hN : w0.heap.size + 3 ≤ wr.heap.size)
    (hv : v = .agg #[u, x]) (hxs : Elems (Own B (w0.heap.size + 3) rv) w ts xs)
    (hown : w'.ownsRow (w0.heap.size + 3) 27 2 (.slice (some ⟨g1, 0, none⟩) (ts.length + 1) c1) (ts.length + 1) (xs ++ [u, x])) (hgrow : w.grownBy w' rv.ownBlock) (hat : rv.ownBlock = some g1 ∨ g1 = w.heap.size) :
    GrowG B w0 wr y0 y1 f ts rv t ([v, s] ++ [.slice (some ⟨g1, 0, none⟩) (ts.length + 1) c1]) w' := by
  obtain ⟨h1, h3, _⟩ := h
  subst hv
  obtain ⟨x0, x1, hr⟩ := h1.res
  obtain ⟨xs', ho, _⟩ := h1.rows
  have hlt := h1.out.lt
  have hlow := ho.lt
  have hle := h1.le
  have far : ∀ b, b < w0.heap.size + 3 → some b ≠ rv.ownBlock := fun b hb e => by have := (hlow b e.symm).1; omega
  have hfresh : ∀ b, b < w.heap.size → rv.ownBlock ≠ some b → some g1 ≠ some b := by
    intro b hb hne e
    simp only [Option.some.injEq] at e
    subst e
    rcases hat with e | e
    · exact hne e
    · omega
  refine ⟨⟨hle, h1.below.grown hgrow (by omega) (fun b hb => by have := (hlow b hb).1; omega), h1.arg.grown hgrow (far _ (by omega)), ⟨x0, x1, hr.grown hgrow (far _ (by omega))⟩, h1.out.grown hgrow (far _ (by omega)), xs ++ [u, x], by simpa using hown, ?_⟩, _, _, _, rfl⟩
  have hK : ∀ (p : Addr) (y : Value), rv.ownBlock ≠ some p.block → w.cell? p = some y → w'.cell? p = some y := fun p y hp hy => hgrow.cell hy (Ne.symm hp)
  refine Elems.snoc ?_ ?_
  · refine InT.mono (S := fun b => New B wr.heap.size b ∧ some g1 ≠ some b) ?_ (InT.keep (w := w) ?_ (InT.mono ?_ h3))
    · intro b hb _
      refine ⟨hb.1.imp id (fun h => by omega), hb.2⟩
    · intro p y hp hy
      refine hK p y (fun e => ?_) hy
      have := hwr _ e
      have := (hlow _ e).1
      rcases hp.1 with h | h <;> omega
    · intro b hb hlt
      refine ⟨hb, hfresh b hlt (fun e => ?_)⟩
      have := hwr _ e
      have := (hlow _ e).1
      rcases hb with h | h <;> omega
  · refine Elems.mono (S := fun b => Own B (w0.heap.size + 3) rv b ∧ some g1 ≠ some b) (fun b hb _ => ⟨hb.1.1, hb.2⟩) (Elems.keep (w := w) (fun p y hp hy => hK p y hp.1.2 hy) (Elems.mono (fun b hb hlt => ⟨hb, hfresh b hlt hb.2⟩) hxs))

theorem GrowG.store {w : World} {v s r x : Value} (h : GrowG B w0 wr y0 y1 f ts rv t [v, s, r] w) : GrowG B w0 wr y0 y1 f ts rv t ([v, s, r] ++ [x]) (w.setCell ⟨w0.heap.size + 2, 1, none⟩ r) := ⟨h.1.store, h.2⟩

theorem GrowG.inT {w : World} {v : Value} (h : GrowG B w0 wr y0 y1 f ts rv t [v] w) : InT (New B wr.heap.size) w t v := h.2.2
theorem GrowG.two {w : World} {v s : Value} (h : GrowG B w0 wr y0 y1 f ts rv t [v, s] w) : Grow B w0 y0 y1 f ts w rv rv ∧ InT (New B wr.heap.size) w t v ∧ ∃ g u x, s = .slice (some ⟨g, 0, none⟩) 1 1 ∧ v = .agg #[u, x] ∧ Blk w g 27 #[u, x] ∧ wr.heap.size ≤ g ∧ u.oneCell' = true ∧ x.oneCell' = true := h
theorem GrowG.three {w : World} {v s r : Value} (h : GrowG B w0 wr y0 y1 f ts rv t [v, s, r] w) : Grow B w0 y0 y1 f (ts ++ [t]) w rv r ∧ ∃ a n c, r = .slice a n c := h
theorem GrowG.four {w : World} {v s r q : Value} (h : GrowG B w0 wr y0 y1 f ts rv t [v, s, r, q] w) : Grow B w0 y0 y1 f (ts ++ [t]) w r r ∧ ∃ a n c, r = .slice a n c := h
theorem GrowG.oldT {vs : List Value} {w : World} {s : T} {v : Value} (h : GrowG B w0 wr y0 y1 f ts rv t vs w) (hv : InT (fun b => b < B) w0 s v) : InT (fun b => b < B) w s v := by
  obtain ⟨_, _, _, h, _⟩ := h.grow
  exact hv.old h.below h.le
theorem GrowG.oldTs {vs : List Value} {w : World} {l : List T} {a : Option Addr} {i : Nat} (h : GrowG B w0 wr y0 y1 f ts rv t vs w) (hv : InTs (fun b => b < B) w0 l a i) : InTs (fun b => b < B) w l a i := by
  obtain ⟨_, _, _, h, _⟩ := h.grow
  exact hv.old h.below h.le
theorem GrowG.size {vs : List Value} {w : World} (h : GrowG B w0 wr y0 y1 f ts rv t vs w) : B ≤ w.heap.size := by
  obtain ⟨_, _, _, h, _⟩ := h.grow
  have := h.arg.lt
  have := h.le
  omega

theorem vs_eq0 {vs : List Value} (h : vs.length = 0) : vs = [] := List.length_eq_zero_iff.1 h
theorem vs_eq1 {vs : List Value} (h : vs.length = 1) : ∃ v, vs = [v] := by
  match vs, h with
  | [v], _ => exact ⟨v, rfl⟩
theorem vs_eq2 {vs : List Value} (h : vs.length = 2) : ∃ v s, vs = [v, s] := by
  match vs, h with
  | [v, s], _ => exact ⟨v, s, rfl⟩
theorem vs_eq3 {vs : List Value} (h : vs.length = 3) : ∃ v s r, vs = [v, s, r] := by
  match vs, h with
  | [v, s, r], _ => exact ⟨v, s, r, rfl⟩
theorem vs_eq4 {vs : List Value} (h : vs.length = 4) : ∃ v s r q, vs = [v, s, r, q] := by
  match vs, h with
  | [v, s, r, q], _ => exact ⟨v, s, r, q, rfl⟩

theorem wp_storeT {w : World} {a : Act} {K : Act → World → Prop} {Q : Exit → Act → World → Prop} {o : Oper} {x y : Operand} {b i : Nat} {ra : Option Addr} {rn rc : Nat} {old : Value} (ho : o.op = .store 25 x y) (hx : a.eval x = .pointer (some ⟨b, i, none⟩)) (hy : a.eval y = .slice ra rn rc) (hc : w.cell? ⟨b, i, none⟩ = some old) (hf : w.frozen? ⟨b, i, none⟩ = false)
    (hK : ∀ v, K (a.put o.dst v) (w.setCell ⟨b, i, none⟩ (.slice ra rn rc))) : o.wp Try.prog a w K Q := by
  unfold Oper.wp execOp
  simp only [ho, hx, hy]
  go_simp
  exact hK _

theorem wp_appendT {w : World} {a : Act} {K : Act → World → Prop} {Q : Exit → Act → World → Prop} {o : Oper} {x y : Operand} {v s : Value}
    (ho : o.op = .call { callee := .builtin .append, args := #[x, y], argTypes := #[25, 25] }) (hx : a.eval x = rv) (hy : a.eval y = s) (hlen : ts.length + 1 ≤ 4294967296)
    (h : GrowG B w0 wr y0 y1 f ts rv t [v, s] w) (hwr : ∀ b, rv.ownBlock = some b → b < wr.heap.size) (hN : w0.heap.size + 3 ≤ wr.heap.size)
    (hK : ∀ r w', GrowG B w0 wr y0 y1 f ts rv t ([v, s] ++ [r]) w' → K (a.put o.dst r) w') : o.wp Try.prog a w K Q := by
  have hint : (Try.prog.info? 27).map (fun i => (i.zero, i.size, i.bytes)) = some (some (.agg #[.int .i64 0, .slice none 0 0]), 2, 32) := by kernel_rfl
  obtain ⟨i0, hi, hz0, hz1, hz2⟩ := info_parts hint
  obtain ⟨h1, h3, g, u, z, rfl, rfl, hB, hg, o1, o2⟩ := h.two
  obtain ⟨xs, hx1, hx2⟩ := h1.rows
  have hsz := h1.out.lt
  refine wp_append_lies _ x y 25 ho (w0.heap.size + 3) 27 i0 (.agg #[.int .i64 0, .slice none 0 0]) 2 32 Try.underlying25 hi hz0 hz1 hz2 rfl (by decide) rv ts.length xs hx hx1 ⟨g, 0, none⟩ 1 1 [u, z] hy rfl (World.news_of_block hB) (by simp [o1, o2]) (by omega) (by unfold maxLen; omega) (by omega) (by omega) _ rfl ?_
  intro g1 c1 w' hown hgrow hat hlt
  exact hK _ _ (h.append hwr hN rfl hx2 hown hgrow hat)

/-- The row is whole. -/
theorem Grow.value {w : World} {r : Value} (hf : I64 f) (h : Grow B w0 y0 y1 f ts w r r) : InT (New B (w0.heap.size + 3)) w (.mk f ts) (.agg #[.int .i64 f, r]) := by
  obtain ⟨xs, h1, h2⟩ := h.rows
  rcases h1.2 with ⟨rfl, h0⟩ | ⟨g, cap, cur, rfl, hg, hb, hc, hm, hs, ht⟩
  · have : ts = [] := List.length_eq_zero_iff.1 h0
    subst this
    exact ⟨hf, none, 0, rfl, by simp, by unfold maxLen; omega, trivial⟩
  · refine ⟨hf, _, cap, rfl, hc, hm, ?_⟩
    refine InTs.mono (S := fun b => New B (w0.heap.size + 3) b) (fun b hb _ => hb) (Elems.row (.inr hg) (Elems.mono (fun b hb _ => hb.1) h2) (fun j u hj => ?_))
    have := h1.cells (g := g) rfl j u hj
    have e : (⟨g, 0, none⟩ : Addr).add j = ⟨g, j, none⟩ := by unfold Addr.add; split <;> simp_all
    rw [e] at this
    simpa using this

theorem Grow.start3 {x0 x1 : Value} (hle : B ≤ w0.heap.size) : Grow B w0 y0 y1 f [] (((w0.alloc (.cells #[y0, y1] 27)).alloc (.cells #[x0, x1] 27)).alloc (.cells #[.int .i64 f, .slice none 0 0] 27)) (.slice none 0 0) (.slice none 0 0) :=
  .start hle (bstep (balloc2 _ _ _) (balloc _ _)) (((Blk.new' rfl).alloc _).alloc _) ((Blk.new' (by simp)).alloc _) (Blk.new' (by simp))

/-- A store into the result's box. -/
theorem New.far {w w' : World} {N i : Nat} {u : Value} {S : Nat → Prop} (hN : ¬ S N) (hw : w' = w.setCell ⟨N, i, none⟩ u) {t : T} {v : Value} (h : InT S w t v) : InT S w' t v := by
  subst hw
  exact h.keep fun p x hp hx => (gsetc w ⟨N, i, none⟩ u).cell hx (fun e => hN (by simp only [Option.some.injEq] at e; rwa [e] at hp))

theorem Grow.finish {w : World} {r u0 u1 : Value} (hf : I64 f) (h : Grow B w0 y0 y1 f ts w r r) :
    InT (New B w0.heap.size) ((w.setCell ⟨w0.heap.size + 1, 0, none⟩ u0).setCell ⟨w0.heap.size + 1, 1, none⟩ u1) (.mk f ts) (.agg #[.int .i64 f, r]) ∧ Below w0.heap.size w0 ((w.setCell ⟨w0.heap.size + 1, 0, none⟩ u0).setCell ⟨w0.heap.size + 1, 1, none⟩ u1) := by
  have hle := h.le
  have hn : ¬ New B (w0.heap.size + 3) (w0.heap.size + 1) := by unfold New; omega
  refine ⟨(New.far hn rfl (New.far hn rfl (h.value hf))).mono (fun b hb _ => hb.imp id (fun h => by omega)), ?_⟩
  exact (h.below.setCell (p := ⟨w0.heap.size + 1, 0, none⟩) (by simp) _).setCell (p := ⟨w0.heap.size + 1, 1, none⟩) (by simp) _

end

end Go.Proofs.Ytlkiabgpnboicaa.Old

/- Terms put in for variables, and copies of terms: what they are, and where they lie. -/
namespace Go.Proofs.Ytlkiabgpnboicaa.Old
set_option maxRecDepth 100000
open Go.RowKit Go.Sort Go

def putSp (w : World) (bt ot ct k cl : Nat) (al : Option Addr) (ar ls : List T) (rv u x : Value) : List (Bool × Value) := [(true, .pointer (some ⟨(w.heap.size + 2), 1, none⟩)), (true, rv), (true, .pointer (some ⟨w.heap.size, 1, none⟩)), (true, .slice (some ⟨bt, ot, none⟩) ar.length ct), (true, .int .i64 k), (true, .pointer (some ⟨bt, ot + k * 2, none⟩)), (true, (.agg #[u, x])), (true, .slice al ls.length cl), (true, undef), (true, undef), (true, undef), (true, .pointer (some ⟨(w.heap.size + 2), 1, none⟩)), (true, undef)]
def copySp (w : World) (bt ot ct k : Nat) (ar : List T) (rv u x : Value) : List (Bool × Value) := [(true, .pointer (some ⟨(w.heap.size + 2), 1, none⟩)), (true, rv), (true, .pointer (some ⟨w.heap.size, 1, none⟩)), (true, .slice (some ⟨bt, ot, none⟩) ar.length ct), (true, .int .i64 k), (true, .pointer (some ⟨bt, ot + k * 2, none⟩)), (true, (.agg #[u, x])), (true, undef), (true, undef), (true, undef), (true, .pointer (some ⟨(w.heap.size + 2), 1, none⟩)), (true, undef)]

theorem len_sizeL : ∀ l : List T, l.length ≤ T.sizeL l
  | [] => by simp [T.sizeL]
  | t :: r => by have := len_sizeL r; have := T.size_eq t; simp [T.sizeL]; omega
set_option maxHeartbeats 2000000 in
theorem copy_any (B : Nat) : ∀ (t : T) (w : World) (v : Value), t.size ≤ 4294967296 → InT (fun b => b < B) w t v → B ≤ w.heap.size →
    Calls Try.prog 31 #[v] w fun e w' => ∃ v', e = .returned v' ∧ (InT (New B w.heap.size) w' t v' ∧ Below w.heap.size w w') := by
  intro t
  induction t using T.ind with
  | h f ar ih =>
    intro w v hmax hv hB
    obtain ⟨hf, at_, ct, rfl, hc, hm, hl⟩ := hv
    have hlen : ar.length ≤ 4294967295 := by
      have := T.size_eq (T.mk f ar)
      have h2 := len_sizeL ar
      simp at this; omega
    unfold maxLen at hm
    go_enter Try.func31, Try.ntmps31
    go_wp2_with (refine stop_region ?_)
    go_loopw [4] (fun i wr => ∃ (k : Nat) (rv : Value), k ≤ ar.length ∧ i = .int .i64 k ∧ Hid (Grow B w (.int .i64 f) (.slice at_ ar.length ct) f (ar.take k) wr rv rv) ∧ Hid (∃ a n c, rv = .slice a n c)) (fun i _ => ar.length - (intOf i).toNat)
    case atStart =>
      exact ⟨0, .slice none 0 0, Nat.zero_le _, rfl, .start3 hB, ⟨_, _, _, rfl⟩⟩
    case round =>
      obtain ⟨k, rv, hk, rfl, HG, hsh⟩ := hrel
      have k0 := HG.out.arg.cell 0
      have k1 := HG.out.arg.cell 1
      simp only [List.getElem?_toArray, List.getElem?_cons_zero, List.getElem?_cons_succ] at k0 k1
      by_cases hlt : k < ar.length
      · obtain ⟨bt, ot, u, x, rfl, hS, g0, g1, gt⟩ := hl.at_ k hlt
        have RC := Lib.hid (fun (w : World) => ih ar[k] (List.getElem_mem hlt) w (.agg #[u, x]) (by have := T.size_eq (T.mk f ar); have := T.size_le_sizeL (List.getElem_mem hlt); simp at *; omega))
        have HS := Lib.hid hS
        have Hlt := Lib.hid hlt
        have Hmax := Lib.hid hlen
        have HR := Lib.hid (show ∀ b, rv.ownBlock = some b → b < wr.heap.size from fun b hb => by obtain ⟨xs, h1, _⟩ := HG.out.rows; exact (h1.lt b hb).2)
        have HN := Lib.hid (show w.heap.size + 3 ≤ wr.heap.size from HG.out.out.lt)
        have z1 : (k : Int) < (ar.length : Int) := by omega
        have Hg0 := Lib.hid g0
        have Hg1 := Lib.hid g1
        have Hgt := Lib.hid gt
        clear g0 g1 gt
        clear ih hS hlen
        go_wp2_with (refine stop_region ?_)
        refine Stop.mk ?_
        refine wp_region_chain [7, 8, 9, 11] (optP (copySp w bt ot ct k ar rv u x)) (GrowG B w wr (.int .i64 f) (.slice (some ⟨bt, ot, none⟩) ar.length ct) f (ar.take k) rv (ar[k])) [false, false, false, false, false, false, false, false, false, false, false, false, false, false, false, true, true, true, true, true, true, true, true, true, true, true, false] (by kernel_rfl) (by kernel_rfl) (by kernel_rfl) (by decide) (by kernel_rfl) (by kernel_rfl) (⟨rfl, HG.out.drew⟩) ?_ ?_
        · refine ⟨.inl ⟨by decide, true, .none rfl, fun h => optUndef h, fun hβ fx wx vs C => ?_⟩, ?_⟩
          · exact wp_fld_apiTerm_1 rfl ((rel_eval (by kernel_rfl)).trans (show fx 3 = .pointer (some ⟨(w.heap.size + 2), 0, none⟩) from C.keep 3 (by kernel_rfl))) ⟨_, rfl, rfl, optDef hβ rfl⟩
          refine ⟨.inl ⟨by decide, true, .none rfl, fun h => optUndef h, fun hβ fx wx vs C => ?_⟩, ?_⟩
          · exact wp_ld_LapiTerm rfl ((rel_eval (by kernel_rfl)).trans (optPVal (x := .pointer (some ⟨(w.heap.size + 2), 1, none⟩)) (β := true) (C.dep 0 15 (by kernel_rfl) (by decide)) rfl rfl)) (C.now.out (Nat.le_trans (C.most 2 9 rfl (by kernel_rfl)) (by decide))) ⟨_, rfl, rfl, optDef hβ rfl⟩
          refine ⟨.inl ⟨by decide, true, .none rfl, fun h => optUndef h, fun hβ fx wx vs C => ?_⟩, ?_⟩
          · exact wp_fld_apiTerm_1 rfl ((rel_eval (by kernel_rfl)).trans (show fx 1 = .pointer (some ⟨w.heap.size, 0, none⟩) from C.keep 1 (by kernel_rfl))) ⟨_, rfl, rfl, optDef hβ rfl⟩
          refine ⟨.inl ⟨by decide, true, .none rfl, fun h => optUndef h, fun hβ fx wx vs C => ?_⟩, ?_⟩
          · exact wp_ld_LapiTerm rfl ((rel_eval (by kernel_rfl)).trans (optPVal (x := .pointer (some ⟨w.heap.size, 1, none⟩)) (β := true) (C.dep 2 17 (by kernel_rfl) (by decide)) rfl rfl)) (C.now.arg.2) ⟨_, rfl, rfl, optDef hβ rfl⟩
          refine ⟨.inl ⟨by decide, true, .none rfl, fun h => optUndef h, fun hβ fx wx vs C => ?_⟩, ?_⟩
          · exact wp_move rfl ((rel_eval (by kernel_rfl)).trans (show fx 4 = .int .i64 k from C.keep 4 (by kernel_rfl))) ⟨_, rfl, rfl, optDef hβ rfl⟩
          refine ⟨.inl ⟨by decide, true, .none rfl, fun h => optUndef h, fun hβ fx wx vs C => ?_⟩, ?_⟩
          · exact wp_ix_LapiTerm rfl ((rel_eval (by kernel_rfl)).trans (optPVal (x := .slice (some ⟨bt, ot, none⟩) ar.length ct) (β := true) (C.dep 3 18 (by kernel_rfl) (by decide)) rfl rfl)) ((rel_eval (by kernel_rfl)).trans (optPVal (x := .int .i64 k) (β := true) (C.dep 4 19 (by kernel_rfl) (by decide)) rfl rfl)) (Hlt.out) ⟨_, rfl, rfl, optDef hβ rfl⟩
          refine ⟨.inl ⟨by decide, true, .none rfl, fun h => optUndef h, fun hβ fx wx vs C => ?_⟩, ?_⟩
          · exact wp_ld_apiTerm rfl ((rel_eval (by kernel_rfl)).trans (optPVal (x := .pointer (some ⟨bt, ot + k * 2, none⟩)) (β := true) (C.dep 5 20 (by kernel_rfl) (by decide)) rfl rfl)) (C.now.old HS.out Hg0.out) (C.now.old HS.out Hg1.out) ⟨_, rfl, rfl, optDef hβ rfl⟩
          refine ⟨.inr ⟨0, rfl, rfl, fun fx wx vs C hlen => ?_⟩, ?_⟩
          · obtain ⟨rfl⟩ := vs_eq0 hlen
            exact wp_call (by kernel_rfl) rfl (hv1 ((rel_eval (by kernel_rfl)).trans (optPVal (x := (.agg #[u, x])) (β := true) (C.dep 6 21 (by kernel_rfl) (by decide)) rfl rfl))) (RC.out _ (C.now.oldT Hgt.out) C.now.size) (fun v w' h => ⟨v, rfl, C.now.call h.1 h.2⟩)
          refine ⟨.inr ⟨1, rfl, rfl, fun fx wx vs C hlen => ?_⟩, ?_⟩
          · obtain ⟨v0, rfl⟩ := vs_eq1 hlen
            exact wp_rowT rfl ((rel_eval (by kernel_rfl)).trans (Option.some.inj (C.link 0 7 22 rfl (by kernel_rfl))).symm) (C.now.inT) (fun u y h1 h2 h3 => ⟨_, rfl, C.now.row h1 h2 h3⟩)
          refine ⟨.inr ⟨2, rfl, rfl, fun fx wx vs C hlen => ?_⟩, ?_⟩
          · obtain ⟨v0, v1, rfl⟩ := vs_eq2 hlen
            exact wp_appendT rfl ((rel_eval (by kernel_rfl)).trans (optPVal (x := rv) (β := true) (C.dep 1 16 (by kernel_rfl) (by decide)) rfl rfl)) ((rel_eval (by kernel_rfl)).trans (Option.some.inj (C.link 1 8 23 rfl (by kernel_rfl))).symm) (by have := Hmax.out; simp; omega) C.now HR.out HN.out (fun r w' h => ⟨_, rfl, h⟩)
          refine ⟨.inl ⟨by decide, true, .none rfl, fun h => optUndef h, fun hβ fx wx vs C => ?_⟩, ?_⟩
          · exact wp_fld_apiTerm_1 rfl ((rel_eval (by kernel_rfl)).trans (show fx 3 = .pointer (some ⟨(w.heap.size + 2), 0, none⟩) from C.keep 3 (by kernel_rfl))) ⟨_, rfl, rfl, optDef hβ rfl⟩
          refine ⟨.inr ⟨3, rfl, rfl, fun fx wx vs C hlen => ?_⟩, ?_⟩
          · obtain ⟨v0, v1, v2, rfl⟩ := vs_eq3 hlen
            obtain ⟨hq, ra, rn, rc, hr⟩ := C.now.three
            subst hr
            exact wp_storeT rfl ((rel_eval (by kernel_rfl)).trans (optPVal (x := .pointer (some ⟨(w.heap.size + 2), 1, none⟩)) (β := true) (C.dep 10 25 (by kernel_rfl) (by decide)) rfl rfl)) ((rel_eval (by kernel_rfl)).trans (Option.some.inj (C.link 2 9 24 rfl (by kernel_rfl))).symm) (hq.out.cell 1) (hq.out.frozen 1) (fun v => ⟨v, rfl, C.now.store⟩)
          exact trivial
        intro ux w3 vs hlen hG hu hch
        obtain ⟨v0, v1, v2, v3, rfl⟩ := vs_eq4 hlen
        obtain ⟨hG2, hsh2⟩ := hG.four
        have HhG2 := Lib.hid hG2
        have Hhsh2 := Lib.hid hsh2
        clear hG2 hsh2
        clear hG hu hch HG hsh k0 k1
        simp only [finM]
        go_wp2_with fail
        go_roundw
        case rel => exact ⟨k + 1, v2, by omega, by go_num, by rw [List.take_succ_eq_append_getElem hlt]; exact HhG2.out, Hhsh2.out⟩
        case measure => simp [intOf]; omega
      · obtain rfl : k = ar.length := by omega
        obtain ⟨ra, rn, rc, rfl⟩ := hsh.out
        have o0 := HG.out.out.cell 0
        have o1 := HG.out.out.cell 1
        obtain ⟨x0, x1, hr⟩ := HG.out.res
        have c0 := hr.cell 0
        have c1 := hr.cell 1
        have y0 := hr.frozen 0
        have y1 := hr.frozen 1
        simp only [List.getElem?_toArray, List.getElem?_cons_zero, List.getElem?_cons_succ] at o0 o1 c0 c1
        have Hhr := Lib.hid hr
        clear hr
        go_wp2_with fail
        refine bodyPost_ret (v := .agg #[.int .i64 f, .slice ra rn rc]) (by simp [results, Try.results31, go_sem, c0, c1]) rfl ?_
        have := HG.out.finish (u0 := .int .i64 f) (u1 := .slice ra rn rc) hf
        rw [List.take_length] at this
        exact ⟨_, rfl, this.1, this.2⟩

set_option maxHeartbeats 4000000 in
theorem put_any (B : Nat) (ls : List T) : ∀ (t : T) (w : World) (v : Value) (al : Option Addr) (cl : Nat), t.size ≤ 4294967296 → InT (fun b => b < B) w t v → InTs (fun b => b < B) w ls al 0 → ls.length ≤ cl → cl ≤ maxLen → B ≤ w.heap.size →
    Calls Try.prog 17 #[v, .slice al ls.length cl] w fun e w' => ∃ v', e = .returned v' ∧ (InT (New B w.heap.size) w' (t.put ls) v' ∧ Below w.heap.size w w') := by
  intro t
  induction t using T.ind with
  | h f ar ih =>
    intro w v al cl hmax hv hls hlc hlm hB
    obtain ⟨hf, at_, ct, rfl, hc, hm, hl⟩ := id hv
    have hlen : ar.length ≤ 4294967295 := by
      have := T.size_eq (T.mk f ar)
      have h2 := len_sizeL ar
      simp at this; omega
    unfold maxLen at hm
    have hlm' := hlm
    unfold maxLen at hlm'
    by_cases hneg : f < 0
    · obtain ⟨n, rfl⟩ : ∃ n : Nat, f = -1 - n := ⟨(-1 - f).toNat, by omega⟩
      have hn : (-1 - (-1 - (n : Int))).toNat = n := by omega
      have hwr : IntKind.i64.wrap (-1 - (-1 - (n : Int))) = n := by
        have := hf.1
        rw [show -1 - (-1 - (n : Int)) = n by omega]
        exact IntWalk.i64_in _ (by omega)
      by_cases hlt : n < ls.length
      · obtain ⟨bl, ol, u, x, rfl, hS, g0, g1, gt⟩ := hls.at_ n hlt
        obtain ⟨hfi, aa, cc, hux, hcc, hcm, hll⟩ := gt.form
        simp only [Value.agg.injEq, Array.mk.injEq, List.cons.injEq, and_true] at hux
        obtain ⟨rfl, rfl⟩ := hux
        have z0 : (0 : Int) ≤ (n : Int) := by omega
        have z1 : (n : Int) < (ls.length : Int) := by omega
        have g0 := calloc (calloc g0 (.cells #[.int .i64 (-1 - n), .slice at_ ar.length ct] 27)) (.cells #[.int .i64 0, .slice none 0 0] 27)
        have g1 := calloc (calloc g1 (.cells #[.int .i64 (-1 - n), .slice at_ ar.length ct] 27)) (.cells #[.int .i64 0, .slice none 0 0] 27)
        have hget : T.put ls (.mk (-1 - n) ar) = ls[n] := by rw [T.put, if_pos hneg, hn]; simp [hlt]
        have Hgt := Lib.hid gt
        have Hhget := Lib.hid hget
        have Hhll := Lib.hid hll
        clear gt hget hll
        have Hv := Lib.hid hv
        clear hv ih
        go_enter Try.func17, Try.ntmps17
        go_wp2_with (refine stop_region ?_)
        refine bodyPost_ret (v := .agg #[.int .i64 ls[n].f, .slice aa ls[n].args.length cc]) (by simp [results, Try.results17, go_sem]) rfl ?_
        refine ⟨_, rfl, ?_, balloc2 _ _ _⟩
        rw [Hhget.out]
        exact (Hgt.out.below (balloc2 _ _ _)).mono (fun b hb _ => .inl hb)
      · have z1 : ¬ (n : Int) < (ls.length : Int) := by omega
        have hget : T.put ls (.mk (-1 - n) ar) = .mk (-1 - n) ar := by rw [T.put, if_pos hneg, hn, List.getD_eq_getElem?_getD, List.getElem?_eq_none (by omega)]; rfl
        have Hhget := Lib.hid hget
        clear hget
        have Hv := Lib.hid hv
        clear hv ih hlt
        go_enter Try.func17, Try.ntmps17
        go_wp2_with (refine stop_region ?_)
        refine bodyPost_ret (v := .agg #[.int .i64 (-1 - n), .slice at_ ar.length ct]) (by simp [results, Try.results17, go_sem]) rfl ?_
        refine ⟨_, rfl, ?_, balloc2 _ _ _⟩
        rw [Hhget.out]
        exact (Hv.out.below (balloc2 _ _ _)).mono (fun b hb _ => .inl hb)
    · have Hneg := Lib.hid hneg
      go_enter Try.func17, Try.ntmps17
      go_wp2_with (refine stop_region ?_)
      go_loopw [6] (fun i wr => ∃ (k : Nat) (rv : Value), k ≤ ar.length ∧ i = .int .i64 k ∧ Hid (Grow B w (.int .i64 f) (.slice at_ ar.length ct) f ((ar.take k).map (T.put ls)) wr rv rv) ∧ Hid (∃ a n c, rv = .slice a n c)) (fun i _ => ar.length - (intOf i).toNat)
      case atStart =>
        exact ⟨0, .slice none 0 0, Nat.zero_le _, rfl, .start3 hB, ⟨_, _, _, rfl⟩⟩
      case round =>
        obtain ⟨k, rv, hk, rfl, HG, hsh⟩ := hrel
        have k0 := HG.out.arg.cell 0
        have k1 := HG.out.arg.cell 1
        simp only [List.getElem?_toArray, List.getElem?_cons_zero, List.getElem?_cons_succ] at k0 k1
        by_cases hlt : k < ar.length
        · obtain ⟨bt, ot, u, x, rfl, hS, g0, g1, gt⟩ := hl.at_ k hlt
          have RC := Lib.hid (fun (w : World) (h1 : InT (fun b => b < B) w ar[k] (.agg #[u, x])) (h2 : InTs (fun b => b < B) w ls al 0) => ih ar[k] (List.getElem_mem hlt) w (.agg #[u, x]) al cl (by have := T.size_eq (T.mk f ar); have := T.size_le_sizeL (List.getElem_mem hlt); simp at *; omega) h1 h2 hlc hlm)
          have HS := Lib.hid hS
          have Hlt := Lib.hid hlt
          have Hmax := Lib.hid hlen
          have HR := Lib.hid (show ∀ b, rv.ownBlock = some b → b < wr.heap.size from fun b hb => by obtain ⟨xs, h1, _⟩ := HG.out.rows; exact (h1.lt b hb).2)
          have HN := Lib.hid (show w.heap.size + 3 ≤ wr.heap.size from HG.out.out.lt)
          have z1 : (k : Int) < (ar.length : Int) := by omega
          have Hls := Lib.hid hls
          have Hg0 := Lib.hid g0
          have Hg1 := Lib.hid g1
          have Hgt := Lib.hid gt
          clear g0 g1 gt
          clear ih hS hlen hls
          go_wp2_with (refine stop_region ?_)
          refine Stop.mk ?_
          refine wp_region_chain [8, 9, 10, 12] (optP (putSp w bt ot ct k cl al ar ls rv u x)) (GrowG B w wr (.int .i64 f) (.slice (some ⟨bt, ot, none⟩) ar.length ct) f ((ar.take k).map (T.put ls)) rv (ar[k].put ls)) [false, false, false, false, false, false, false, false, false, false, false, false, false, false, false, false, false, false, false, false, false, false, false, false, false, false, false, false, false, false, false, false, false, true, true, true, true, true, true, true, true, true, true, true, true, false] (by kernel_rfl) (by kernel_rfl) (by kernel_rfl) (by decide) (by kernel_rfl) (by kernel_rfl) (⟨rfl, HG.out.drew⟩) ?_ ?_
          · refine ⟨.inl ⟨by decide, true, .none rfl, fun h => optUndef h, fun hβ fx wx vs C => ?_⟩, ?_⟩
            · exact wp_fld_apiTerm_1 rfl ((rel_eval (by kernel_rfl)).trans (show fx 5 = .pointer (some ⟨(w.heap.size + 2), 0, none⟩) from C.keep 5 (by kernel_rfl))) ⟨_, rfl, rfl, optDef hβ rfl⟩
            refine ⟨.inl ⟨by decide, true, .none rfl, fun h => optUndef h, fun hβ fx wx vs C => ?_⟩, ?_⟩
            · exact wp_ld_LapiTerm rfl ((rel_eval (by kernel_rfl)).trans (optPVal (x := .pointer (some ⟨(w.heap.size + 2), 1, none⟩)) (β := true) (C.dep 0 33 (by kernel_rfl) (by decide)) rfl rfl)) (C.now.out (Nat.le_trans (C.most 2 10 rfl (by kernel_rfl)) (by decide))) ⟨_, rfl, rfl, optDef hβ rfl⟩
            refine ⟨.inl ⟨by decide, true, .none rfl, fun h => optUndef h, fun hβ fx wx vs C => ?_⟩, ?_⟩
            · exact wp_fld_apiTerm_1 rfl ((rel_eval (by kernel_rfl)).trans (show fx 2 = .pointer (some ⟨w.heap.size, 0, none⟩) from C.keep 2 (by kernel_rfl))) ⟨_, rfl, rfl, optDef hβ rfl⟩
            refine ⟨.inl ⟨by decide, true, .none rfl, fun h => optUndef h, fun hβ fx wx vs C => ?_⟩, ?_⟩
            · exact wp_ld_LapiTerm rfl ((rel_eval (by kernel_rfl)).trans (optPVal (x := .pointer (some ⟨w.heap.size, 1, none⟩)) (β := true) (C.dep 2 35 (by kernel_rfl) (by decide)) rfl rfl)) (C.now.arg.2) ⟨_, rfl, rfl, optDef hβ rfl⟩
            refine ⟨.inl ⟨by decide, true, .none rfl, fun h => optUndef h, fun hβ fx wx vs C => ?_⟩, ?_⟩
            · exact wp_move rfl ((rel_eval (by kernel_rfl)).trans (show fx 6 = .int .i64 k from C.keep 6 (by kernel_rfl))) ⟨_, rfl, rfl, optDef hβ rfl⟩
            refine ⟨.inl ⟨by decide, true, .none rfl, fun h => optUndef h, fun hβ fx wx vs C => ?_⟩, ?_⟩
            · exact wp_ix_LapiTerm rfl ((rel_eval (by kernel_rfl)).trans (optPVal (x := .slice (some ⟨bt, ot, none⟩) ar.length ct) (β := true) (C.dep 3 36 (by kernel_rfl) (by decide)) rfl rfl)) ((rel_eval (by kernel_rfl)).trans (optPVal (x := .int .i64 k) (β := true) (C.dep 4 37 (by kernel_rfl) (by decide)) rfl rfl)) (Hlt.out) ⟨_, rfl, rfl, optDef hβ rfl⟩
            refine ⟨.inl ⟨by decide, true, .none rfl, fun h => optUndef h, fun hβ fx wx vs C => ?_⟩, ?_⟩
            · exact wp_ld_apiTerm rfl ((rel_eval (by kernel_rfl)).trans (optPVal (x := .pointer (some ⟨bt, ot + k * 2, none⟩)) (β := true) (C.dep 5 38 (by kernel_rfl) (by decide)) rfl rfl)) (C.now.old HS.out Hg0.out) (C.now.old HS.out Hg1.out) ⟨_, rfl, rfl, optDef hβ rfl⟩
            refine ⟨.inl ⟨by decide, true, .none rfl, fun h => optUndef h, fun hβ fx wx vs C => ?_⟩, ?_⟩
            · exact wp_move rfl ((rel_eval (by kernel_rfl)).trans (show fx 1 = .slice al ls.length cl from C.keep 1 (by kernel_rfl))) ⟨_, rfl, rfl, optDef hβ rfl⟩
            refine ⟨.inr ⟨0, rfl, rfl, fun fx wx vs C hlen => ?_⟩, ?_⟩
            · obtain ⟨rfl⟩ := vs_eq0 hlen
              exact wp_call (by kernel_rfl) rfl (hv2 ((rel_eval (by kernel_rfl)).trans (optPVal (x := (.agg #[u, x])) (β := true) (C.dep 6 39 (by kernel_rfl) (by decide)) rfl rfl)) ((rel_eval (by kernel_rfl)).trans (optPVal (x := .slice al ls.length cl) (β := true) (C.dep 7 40 (by kernel_rfl) (by decide)) rfl rfl))) (RC.out _ (C.now.oldT Hgt.out) (C.now.oldTs Hls.out) C.now.size) (fun v w' h => ⟨v, rfl, C.now.call h.1 h.2⟩)
            refine ⟨.inr ⟨1, rfl, rfl, fun fx wx vs C hlen => ?_⟩, ?_⟩
            · obtain ⟨v0, rfl⟩ := vs_eq1 hlen
              exact wp_rowT rfl ((rel_eval (by kernel_rfl)).trans (Option.some.inj (C.link 0 8 41 rfl (by kernel_rfl))).symm) (C.now.inT) (fun u y h1 h2 h3 => ⟨_, rfl, C.now.row h1 h2 h3⟩)
            refine ⟨.inr ⟨2, rfl, rfl, fun fx wx vs C hlen => ?_⟩, ?_⟩
            · obtain ⟨v0, v1, rfl⟩ := vs_eq2 hlen
              exact wp_appendT rfl ((rel_eval (by kernel_rfl)).trans (optPVal (x := rv) (β := true) (C.dep 1 34 (by kernel_rfl) (by decide)) rfl rfl)) ((rel_eval (by kernel_rfl)).trans (Option.some.inj (C.link 1 9 42 rfl (by kernel_rfl))).symm) (by have := Hmax.out; simp; omega) C.now HR.out HN.out (fun r w' h => ⟨_, rfl, h⟩)
            refine ⟨.inl ⟨by decide, true, .none rfl, fun h => optUndef h, fun hβ fx wx vs C => ?_⟩, ?_⟩
            · exact wp_fld_apiTerm_1 rfl ((rel_eval (by kernel_rfl)).trans (show fx 5 = .pointer (some ⟨(w.heap.size + 2), 0, none⟩) from C.keep 5 (by kernel_rfl))) ⟨_, rfl, rfl, optDef hβ rfl⟩
            refine ⟨.inr ⟨3, rfl, rfl, fun fx wx vs C hlen => ?_⟩, ?_⟩
            · obtain ⟨v0, v1, v2, rfl⟩ := vs_eq3 hlen
              obtain ⟨hq, ra, rn, rc, hr⟩ := C.now.three
              subst hr
              exact wp_storeT rfl ((rel_eval (by kernel_rfl)).trans (optPVal (x := .pointer (some ⟨(w.heap.size + 2), 1, none⟩)) (β := true) (C.dep 11 44 (by kernel_rfl) (by decide)) rfl rfl)) ((rel_eval (by kernel_rfl)).trans (Option.some.inj (C.link 2 10 43 rfl (by kernel_rfl))).symm) (hq.out.cell 1) (hq.out.frozen 1) (fun v => ⟨v, rfl, C.now.store⟩)
            exact trivial
          intro ux w3 vs hlen hG hu hch
          obtain ⟨v0, v1, v2, v3, rfl⟩ := vs_eq4 hlen
          obtain ⟨hG2, hsh2⟩ := hG.four
          have HhG2 := Lib.hid hG2
          have Hhsh2 := Lib.hid hsh2
          clear hG2 hsh2
          clear hG hu hch HG hsh k0 k1
          simp only [finM]
          go_wp2_with fail
          go_roundw
          case rel => exact ⟨k + 1, v2, by omega, by go_num, by rw [List.take_succ_eq_append_getElem hlt, List.map_append]; exact HhG2.out, Hhsh2.out⟩
          case measure => simp [intOf]; omega
        · obtain rfl : k = ar.length := by omega
          obtain ⟨ra, rn, rc, rfl⟩ := hsh.out
          have o0 := HG.out.out.cell 0
          have o1 := HG.out.out.cell 1
          obtain ⟨x0, x1, hr⟩ := HG.out.res
          have c0 := hr.cell 0
          have c1 := hr.cell 1
          have y0 := hr.frozen 0
          have y1 := hr.frozen 1
          simp only [List.getElem?_toArray, List.getElem?_cons_zero, List.getElem?_cons_succ] at o0 o1 c0 c1
          have Hhr := Lib.hid hr
          clear hr
          go_wp2_with fail
          refine bodyPost_ret (v := .agg #[.int .i64 f, .slice ra rn rc]) (by simp [results, Try.results17, go_sem, c0, c1]) rfl ?_
          have := HG.out.finish (u0 := .int .i64 f) (u1 := .slice ra rn rc) hf
          rw [List.take_length, ← T.putL_map] at this
          rw [T.put, if_neg (by have := Hneg.out; omega)]
          exact ⟨_, rfl, this.1, this.2⟩

end Go.Proofs.Ytlkiabgpnboicaa.Old

/- The places of a term and what stands there, plainly. -/
namespace Go.Proofs.Ytlkiabgpnboicaa

namespace T
mutual
def places : T → List (List Nat × T)
  | .mk f l => ([], .mk f l) :: placesL 0 l
def placesL : Nat → List T → List (List Nat × T)
  | _, [] => []
  | i, a :: r => (places a).map (fun x => (i :: x.1, x.2)) ++ placesL (i + 1) r
end

theorem placesL_append : ∀ (l : List T) (i : Nat) (q : List T), placesL i (l ++ q) = placesL i l ++ placesL (i + l.length) q
  | [], i, q => by simp [placesL]
  | a :: r, i, q => by
    rw [List.cons_append, placesL, placesL, placesL_append r (i + 1) q, List.append_assoc, List.length_cons, show i + 1 + r.length = i + (r.length + 1) by omega]

mutual
theorem places_size : ∀ t : T, (places t).length = size t
  | .mk f l => by rw [places, List.length_cons, placesL_size l 0, size]; omega
theorem placesL_size : ∀ (l : List T) (i : Nat), (placesL i l).length = sizeL l
  | [], i => rfl
  | a :: r, i => by rw [placesL, List.length_append, List.length_map, places_size a, placesL_size r (i + 1), sizeL]
end

mutual
theorem places_part : ∀ (t : T), ∀ x ∈ places t, x.2 = t ∨ Part x.2 t
  | .mk f l, x, hx => by
    rw [places] at hx
    rcases List.mem_cons.1 hx with rfl | hx
    · exact .inl rfl
    · exact .inr (placesL_part l 0 f l (fun a h => h) x hx)
theorem placesL_part : ∀ (l : List T) (i : Nat) (f : Int) (q : List T), (∀ a ∈ l, a ∈ q) → ∀ x ∈ placesL i l, Part x.2 (.mk f q)
  | [], i, f, q, _, x, hx => by simp [placesL] at hx
  | a :: r, i, f, q, hq, x, hx => by
    rw [placesL] at hx
    rcases List.mem_append.1 hx with hx | hx
    · obtain ⟨y, hy, rfl⟩ := List.mem_map.1 hx
      rcases places_part a y hy with h | h
      · simp only [h]; exact .arg (hq a (by simp))
      · exact .deep (hq a (by simp)) h
    · exact placesL_part r (i + 1) f q (fun b hb => hq b (by simp [hb])) x hx
end

mutual
theorem places_within : ∀ (t : T), ∀ x ∈ places t, Od.Within t x.1
  | .mk f l, x, hx => by
    rw [places] at hx
    rcases List.mem_cons.1 hx with rfl | hx
    · exact trivial
    · obtain ⟨i, p, e, h1, h2⟩ := placesL_within l 0 x hx
      rw [e]
      exact ⟨by omega, by have h3 := h2 (by omega); simpa using h3⟩
theorem placesL_within : ∀ (l : List T) (i : Nat), ∀ x ∈ placesL i l, ∃ (k : Nat) (p : List Nat), x.1 = k :: p ∧ (i ≤ k ∧ k - i < l.length) ∧ ∀ (h : k - i < l.length), Od.Within l[k - i] p
  | [], i, x, hx => by simp [placesL] at hx
  | a :: r, i, x, hx => by
    rw [placesL] at hx
    rcases List.mem_append.1 hx with hx | hx
    · obtain ⟨y, hy, rfl⟩ := List.mem_map.1 hx
      exact ⟨i, y.1, rfl, ⟨by omega, by simp⟩, fun h => by simpa using places_within a y hy⟩
    · obtain ⟨k, p, e, ⟨h1, h2⟩, h3⟩ := placesL_within r (i + 1) x hx
      refine ⟨k, p, e, ⟨by omega, by simp; omega⟩, fun h => ?_⟩
      have h4 := h3 h2
      have e2 : k - i = (k - (i + 1)) + 1 := by omega
      simp only [e2, List.getElem_cons_succ]
      exact h4
end

/-- No path is longer than the term is large. -/
theorem places_len : ∀ t : T, ∀ x ∈ places t, x.1.length ≤ size t := by
  intro t
  induction t using T.ind with
  | h f l ih =>
    intro x hx
    rw [places] at hx
    rcases List.mem_cons.1 hx with rfl | hx
    · simp
    · have : ∀ (l : List T), (∀ a ∈ l, ∀ x ∈ places a, x.1.length ≤ size a) → ∀ (i : Nat), ∀ x ∈ placesL i l, x.1.length ≤ sizeL l + 1 := by
        intro l
        induction l with
        | nil => intro _ i x hx; simp [placesL] at hx
        | cons a r ih =>
          intro h i x hx
          rw [placesL] at hx
          rcases List.mem_append.1 hx with hx | hx
          · obtain ⟨y, hy, rfl⟩ := List.mem_map.1 hx
            have := h a (by simp) y hy
            simp only [List.length_cons, sizeL]; omega
          · have := ih (fun b hb => h b (by simp [hb])) (i + 1) x hx
            simp only [sizeL]; omega
      have := this l ih 0 x hx
      rw [size]; omega
end T

end Go.Proofs.Ytlkiabgpnboicaa

/- Rows of places, how they lie in memory while they are made. -/
namespace Go.Proofs.Ytlkiabgpnboicaa.Old
set_option maxRecDepth 100000
open Go.RowKit Go

def natV (n : Nat) : Value := .int .i64 (n : Int)

def PIn (S : Nat → Prop) (w : World) (p : List Nat) (v : Value) : Prop := ∃ (a : Option Addr) (c : Nat), v = .slice a p.length c ∧ p.length ≤ c ∧ c ≤ maxLen ∧
  ∀ j (h : j < p.length), ∃ b o, a = some ⟨b, o, none⟩ ∧ S b ∧ w.cell? ⟨b, o + j, none⟩ = some (natV p[j])
theorem PIn.keep {S : Nat → Prop} {w w' : World} {p : List Nat} {v : Value} (hb : ∀ (p : Addr) (x : Value), S p.block → w.cell? p = some x → w'.cell? p = some x) (h : PIn S w p v) : PIn S w' p v := by
  obtain ⟨a, c, h1, h2, h3, h4⟩ := h
  refine ⟨a, c, h1, h2, h3, fun j hj => ?_⟩
  obtain ⟨b, o, e, hs, hc⟩ := h4 j hj
  exact ⟨b, o, e, hs, hb _ _ hs hc⟩
theorem PIn.mono {S S' : Nat → Prop} {w : World} {p : List Nat} {v : Value} (hb : ∀ b, S b → b < w.heap.size → S' b) (h : PIn S w p v) : PIn S' w p v := by
  obtain ⟨a, c, h1, h2, h3, h4⟩ := h
  refine ⟨a, c, h1, h2, h3, fun j hj => ?_⟩
  obtain ⟨b, o, e, hs, hc⟩ := h4 j hj
  exact ⟨b, o, e, hb _ hs (World.block_lt_of_cell? _ _ hc), hc⟩
theorem PIn.slice {S : Nat → Prop} {w : World} {p : List Nat} {v : Value} (h : PIn S w p v) : ∃ a c, v = .slice a p.length c := by
  obtain ⟨a, c, h1, _⟩ := h; exact ⟨a, c, h1⟩

abbrev Pl1 := List Nat × T
def InPls (S : Nat → Prop) (w : World) (l : List Pl1) (a : Option Addr) : Prop := ∀ k (h : k < l.length), ∃ b o pv u v, a = some ⟨b, o, none⟩ ∧ S b ∧ w.cell? ⟨b, o + k * 3, none⟩ = some pv ∧ w.cell? ⟨b, o + k * 3 + 1, none⟩ = some u ∧ w.cell? ⟨b, o + k * 3 + 2, none⟩ = some v ∧ PIn S w l[k].1 pv ∧ InT S w l[k].2 (.agg #[u, v])
theorem InPls.keep {S : Nat → Prop} {w w' : World} {l : List Pl1} {a : Option Addr} (hb : ∀ (p : Addr) (x : Value), S p.block → w.cell? p = some x → w'.cell? p = some x) (h : InPls S w l a) : InPls S w' l a := fun k hk => by
  obtain ⟨b, o, pv, u, v, e, hs, c0, c1, c2, h1, h2⟩ := h k hk
  exact ⟨b, o, pv, u, v, e, hs, hb ⟨b, _, none⟩ _ hs c0, hb ⟨b, _, none⟩ _ hs c1, hb ⟨b, _, none⟩ _ hs c2, h1.keep hb, h2.keep hb⟩
theorem InPls.mono {S S' : Nat → Prop} {w : World} {l : List Pl1} {a : Option Addr} (hb : ∀ b, S b → b < w.heap.size → S' b) (h : InPls S w l a) : InPls S' w l a := fun k hk => by
  obtain ⟨b, o, pv, u, v, e, hs, c0, c1, c2, h1, h2⟩ := h k hk
  exact ⟨b, o, pv, u, v, e, hb _ hs (World.block_lt_of_cell? _ _ c0), c0, c1, c2, h1.mono hb, h2.mono hb⟩
theorem InPls.below {S : Nat → Prop} {w w' : World} {l : List Pl1} {a : Option Addr} (hb : Below w.heap.size w w') (h : InPls S w l a) : InPls S w' l a := h.keep fun p x _ hx => bkeeps hb p x hx

def ElemsP (S : Nat → Prop) (w : World) : List Pl1 → List Value → Prop
  | [], [] => True
  | t :: r, p :: u :: v :: xs => (PIn S w t.1 p ∧ InT S w t.2 (.agg #[u, v])) ∧ ElemsP S w r xs
  | _, _ => False
theorem ElemsP.map {S S' : Nat → Prop} {w w' : World} (hp : ∀ p v, PIn S w p v → PIn S' w' p v) (ht : ∀ t v, InT S w t v → InT S' w' t v) : ∀ {l : List Pl1} {xs : List Value}, ElemsP S w l xs → ElemsP S' w' l xs
  | [], [], _ => trivial
  | _ :: _, _ :: _ :: _ :: _, h => ⟨⟨hp _ _ h.1.1, ht _ _ h.1.2⟩, ElemsP.map hp ht h.2⟩
  | [], _ :: _, h => h.elim
  | _ :: _, [], h => h.elim
  | _ :: _, [_], h => h.elim
  | _ :: _, [_, _], h => h.elim
theorem ElemsP.keep {S : Nat → Prop} {w w' : World} (hb : ∀ (p : Addr) (x : Value), S p.block → w.cell? p = some x → w'.cell? p = some x) {l : List Pl1} {xs : List Value} (h : ElemsP S w l xs) : ElemsP S w' l xs := h.map (fun _ _ h => h.keep hb) (fun _ _ h => h.keep hb)
theorem ElemsP.mono {S S' : Nat → Prop} {w : World} (hb : ∀ b, S b → b < w.heap.size → S' b) {l : List Pl1} {xs : List Value} (h : ElemsP S w l xs) : ElemsP S' w l xs := h.map (fun _ _ h => h.mono hb) (fun _ _ h => h.mono hb)
theorem ElemsP.snoc {S : Nat → Prop} {w : World} {t : Pl1} {p u v : Value} (h1 : PIn S w t.1 p) (h2 : InT S w t.2 (.agg #[u, v])) : ∀ {l : List Pl1} {xs : List Value}, ElemsP S w l xs → ElemsP S w (l ++ [t]) (xs ++ [p, u, v])
  | [], [], _ => ⟨⟨h1, h2⟩, trivial⟩
  | _ :: _, _ :: _ :: _ :: _, h => ⟨h.1, ElemsP.snoc h1 h2 h.2⟩
  | [], _ :: _, h => h.elim
  | _ :: _, [], h => h.elim
  | _ :: _, [_], h => h.elim
  | _ :: _, [_, _], h => h.elim
theorem ElemsP.at_ {S : Nat → Prop} {w : World} : ∀ {l : List Pl1} {xs : List Value}, ElemsP S w l xs → ∀ k (hk : k < l.length), ∃ p u v, xs[k * 3]? = some p ∧ xs[k * 3 + 1]? = some u ∧ xs[k * 3 + 2]? = some v ∧ PIn S w l[k].1 p ∧ InT S w l[k].2 (.agg #[u, v])
  | t :: r, p :: u :: v :: xs, h, 0, _ => ⟨p, u, v, rfl, rfl, rfl, h.1.1, h.1.2⟩
  | t :: r, p :: u :: v :: xs, h, k + 1, hk => by
    obtain ⟨p', u', v', h1, h2, h3, h4, h5⟩ := ElemsP.at_ h.2 k (by simpa using hk)
    refine ⟨p', u', v', ?_, ?_, ?_, by simpa using h4, by simpa using h5⟩
    · rw [show (k + 1) * 3 = k * 3 + 1 + 1 + 1 by omega]; simpa using h1
    · rw [show (k + 1) * 3 + 1 = k * 3 + 1 + 1 + 1 + 1 by omega]; simpa using h2
    · rw [show (k + 1) * 3 + 2 = k * 3 + 2 + 1 + 1 + 1 by omega]; simpa using h3
  | [], _, _, k, hk => by simp at hk
  | _ :: _, [], h, _, _ => h.elim
  | _ :: _, [_], h, _, _ => h.elim
  | _ :: _, [_, _], h, _, _ => h.elim

/-- Where elements may lie: not in the two rows that are being made. -/
def Fp (B N : Nat) (rv pv : Value) (b : Nat) : Prop := New B N b ∧ rv.ownBlock ≠ some b ∧ pv.ownBlock ≠ some b

structure Pl (B : Nat) (w0 : World) (y0 y1 : Value) (L Q : List Pl1) (path : List Nat) (w : World) (rv iv pv : Value) : Prop where
  le : B ≤ w0.heap.size
  below : Below w0.heap.size w0 w
  arg : Blk w w0.heap.size 27 #[y0, y1]
  rows : ∃ xs, w.ownsRow (w0.heap.size + 1) 44 3 rv L.length xs ∧ ElemsP (Fp B (w0.heap.size + 1) rv pv) w L xs
  ins : ∃ a c, iv = .slice a Q.length c ∧ Q.length ≤ c ∧ c ≤ maxLen ∧ InPls (Fp B (w0.heap.size + 1) rv pv) w Q a
  p : w.ownsRow (w0.heap.size + 1) 3 1 pv path.length (path.map natV)
  apart : ∀ g, rv.ownBlock = some g → pv.ownBlock ≠ some g

theorem oR_below {w w' : World} {base : Nat} {e : TypeId} {size : Nat} {v : Value} {n : Nat} {xs : List Value} (h : w.ownsRow base e size v n xs) (hb : Below w.heap.size w w') : w'.ownsRow base e size v n xs := by
  refine ⟨h.1, h.2.imp id ?_⟩
  rintro ⟨g, cap, cur, e1, e2, e3, e4, e5, e6, e7⟩
  exact ⟨g, cap, cur, e1, e2, (hb.block g (lt_of_block e3)).trans e3, e4, e5, e6, e7⟩

section
variable {B : Nat} {w0 w w' : World} {y0 y1 : Value} {L Q : List Pl1} {path : List Nat} {rv iv pv : Value}

theorem Pl.below_ (h : Pl B w0 y0 y1 L Q path w rv iv pv) (hb : Below w.heap.size w w') : Pl B w0 y0 y1 L Q path w' rv iv pv := by
  obtain ⟨xs, h1, h2⟩ := h.rows
  obtain ⟨a, c, e, h3, h4, h5⟩ := h.ins
  exact ⟨h.le, bstep h.below hb, h.arg.below hb, ⟨xs, oR_below h1 hb, h2.keep fun p x _ hx => bkeeps hb p x hx⟩, ⟨a, c, e, h3, h4, h5.below hb⟩, oR_below h.p hb, h.apart⟩

theorem Pl.fresh (h : Pl B w0 y0 y1 L Q path w rv iv pv) {b : Nat} (hb : New B w.heap.size b) : Fp B (w0.heap.size + 1) rv pv b := by
  obtain ⟨xs, h1, _⟩ := h.rows
  have hlt := h.arg.lt
  have hle := h.le
  refine ⟨hb.imp id (fun h => by omega), fun e => ?_, fun e => ?_⟩
  · have := h1.lt _ e; rcases hb with hb | hb <;> omega
  · have := h.p.lt _ e; rcases hb with hb | hb <;> omega

/-- The first place. -/
theorem Pl.start {g : Nat} {u v : Value} {t : T} (hle : B ≤ w0.heap.size) (hb : Below w0.heap.size w0 w) (ha : Blk w w0.heap.size 27 #[y0, y1]) (hg : w0.heap.size + 1 ≤ g) (hB : Blk w g 44 #[.slice none 0 0, u, v]) (hv : InT (fun b => New B (w0.heap.size + 1) b ∧ b ≠ g) w t (.agg #[u, v])) :
    Pl B w0 y0 y1 [([], t)] [] [] w (.slice (some ⟨g, 0, none⟩) 1 1) (.slice none 0 0) (.slice none 0 0) := by
  refine ⟨hle, hb, ha, ⟨[.slice none 0 0, u, v], ⟨rfl, .inr ⟨g, 1, _, rfl, hg, hB, by simp, by unfold maxLen; omega, rfl, rfl⟩⟩, ⟨⟨⟨none, 0, rfl, Nat.le_refl _, Nat.zero_le _, fun j hj => by simp at hj⟩, hv.mono fun b hb _ => ⟨hb.1, ?_, by simp [Value.ownBlock]⟩⟩, trivial⟩⟩, ⟨none, 0, rfl, by simp, by unfold maxLen; omega, fun k hk => by simp at hk⟩, ⟨rfl, .inl ⟨rfl, rfl⟩⟩, fun g _ => by simp [Value.ownBlock]⟩
  simp only [Value.ownBlock, ne_eq, Option.some.injEq]
  exact fun e => hb.2 e.symm

/-- A row of an argument's places. -/
theorem Pl.call {Q' : List Pl1} {a : Option Addr} {c : Nat} (h : Pl B w0 y0 y1 L Q [] w rv iv (.slice none 0 0)) (hb : Below w.heap.size w w') (h1 : Q'.length ≤ c) (h2 : c ≤ maxLen) (h3 : InPls (New B w.heap.size) w' Q' a) :
    Pl B w0 y0 y1 L Q' [] w' rv (.slice a Q'.length c) (.slice none 0 0) := by
  have h' := h.below_ hb
  exact ⟨h'.le, h'.below, h'.arg, h'.rows, ⟨a, c, rfl, h1, h2, h3.mono fun b hb _ => h.fresh hb⟩, h'.p, h'.apart⟩

/-- A path begun. -/
theorem Pl.begin {i : Nat} (h : Pl B w0 y0 y1 L Q [] w rv iv (.slice none 0 0)) : Pl B w0 y0 y1 L Q [i] (w.alloc (.cells #[natV i] 3)) rv iv (.slice (some ⟨w.heap.size, 0, none⟩) 1 1) := by
  have hb := balloc w (.cells #[natV i] 3)
  have hlt := h.arg.lt
  have h' := h.below_ hb
  obtain ⟨xs, h1, h2⟩ := h.rows
  obtain ⟨a, c, e, h3, h4, h5⟩ := h.ins
  have go : ∀ b, Fp B (w0.heap.size + 1) rv (.slice none 0 0) b → b < w.heap.size → Fp B (w0.heap.size + 1) rv (.slice (some ⟨w.heap.size, 0, none⟩) 1 1) b := fun b hb hlt => ⟨hb.1, hb.2.1, by simp only [Value.ownBlock, ne_eq, Option.some.injEq]; omega⟩
  refine ⟨h'.le, h'.below, h'.arg, ⟨xs, oR_below h1 hb, (h2.mono go).keep fun p x _ hx => bkeeps hb p x hx⟩, ⟨a, c, e, h3, h4, (h5.mono go).below hb⟩, ⟨rfl, .inr ⟨w.heap.size, 1, _, rfl, by omega, heap_alloc_new _ _, by simp, by unfold maxLen; omega, rfl, rfl⟩⟩, fun g hg => ?_⟩
  simp only [Value.ownBlock, ne_eq, Option.some.injEq]
  have := (h1.lt g hg).2
  omega

/-- The path grown by one. -/
theorem Pl.step {x g1 c1 : Nat} (h : Pl B w0 y0 y1 L Q path w rv iv pv)
    (hown : w'.ownsRow (w0.heap.size + 1) 3 1 (.slice (some ⟨g1, 0, none⟩) (path.length + 1) c1) (path.length + 1) (path.map natV ++ [natV x])) (hgrow : w.grownBy w' pv.ownBlock) (hat : pv.ownBlock = some g1 ∨ g1 = w.heap.size) :
    Pl B w0 y0 y1 L Q (path ++ [x]) w' rv iv (.slice (some ⟨g1, 0, none⟩) (path.length + 1) c1) := by
  obtain ⟨xs, h1, h2⟩ := h.rows
  obtain ⟨a, c, e, h3, h4, h5⟩ := h.ins
  have hlt := h.arg.lt
  have hplt := h.p.lt
  have hfresh : ∀ b, b < w.heap.size → pv.ownBlock ≠ some b → g1 ≠ b := by
    intro b hb hne e
    subst e
    rcases hat with e | e
    · exact hne e
    · omega
  have go : ∀ b, Fp B (w0.heap.size + 1) rv pv b → b < w.heap.size → Fp B (w0.heap.size + 1) rv (.slice (some ⟨g1, 0, none⟩) (path.length + 1) c1) b ∧ pv.ownBlock ≠ some b := fun b hb hlt => ⟨⟨hb.1, hb.2.1, by simp only [Value.ownBlock, ne_eq, Option.some.injEq]; exact hfresh b hlt hb.2.2⟩, hb.2.2⟩
  have kk : ∀ (p : Addr) (y : Value), (Fp B (w0.heap.size + 1) rv (.slice (some ⟨g1, 0, none⟩) (path.length + 1) c1) p.block ∧ pv.ownBlock ≠ some p.block) → w.cell? p = some y → w'.cell? p = some y := fun p y hp hy => hgrow.cell hy (Ne.symm hp.2)
  have far : ∀ b, b < w0.heap.size + 1 → some b ≠ pv.ownBlock := fun b hb e => by have := (hplt b e.symm).1; omega
  refine ⟨h.le, h.below.grown hgrow (by omega) (fun b hb => by have := (hplt b hb).1; omega), h.arg.grown hgrow (far _ (by omega)), ⟨xs, h1.kept hgrow ?_, ((h2.mono go).keep kk).mono fun b hb _ => hb.1⟩, ⟨a, c, e, h3, h4, ((h5.mono go).keep kk).mono fun b hb _ => hb.1⟩, by simpa using hown, fun g hg => ?_⟩
  · cases hr : rv.ownBlock with
    | none => exact .inl rfl
    | some b => exact .inr fun e => h.apart b hr e.symm
  · simp only [Value.ownBlock, ne_eq, Option.some.injEq]
    exact hfresh g (h1.lt g hg).2 (h.apart g hg)

/-- A place more. -/
theorem Pl.snoc {t : T} {u v : Value} {g1 c1 : Nat} {xs : List Value} (h : Pl B w0 y0 y1 L Q path w rv iv pv) (hxs : ElemsP (Fp B (w0.heap.size + 1) rv pv) w L xs) (ht : InT (Fp B (w0.heap.size + 1) rv pv) w t (.agg #[u, v])) (hpath : 0 < path.length)
    (hown : w'.ownsRow (w0.heap.size + 1) 44 3 (.slice (some ⟨g1, 0, none⟩) (L.length + 1) c1) (L.length + 1) (xs ++ [pv, u, v])) (hgrow : w.grownBy w' rv.ownBlock) (hat : rv.ownBlock = some g1 ∨ g1 = w.heap.size) :
    Pl B w0 y0 y1 (L ++ [(path, t)]) Q [] w' (.slice (some ⟨g1, 0, none⟩) (L.length + 1) c1) iv (.slice none 0 0) := by
  obtain ⟨xs', h1, _⟩ := h.rows
  obtain ⟨a, c, e, h3, h4, h5⟩ := h.ins
  have hlt := h.arg.lt
  have hrlt := h1.lt
  have hfresh : ∀ b, b < w.heap.size → rv.ownBlock ≠ some b → g1 ≠ b := by
    intro b hb hne e
    subst e
    rcases hat with e | e
    · exact hne e
    · omega
  have go : ∀ b, New B (w0.heap.size + 1) b ∧ rv.ownBlock ≠ some b → b < w.heap.size → Fp B (w0.heap.size + 1) (.slice (some ⟨g1, 0, none⟩) (L.length + 1) c1) (.slice none 0 0) b ∧ rv.ownBlock ≠ some b := fun b hb hlt => ⟨⟨hb.1, by simp only [Value.ownBlock, ne_eq, Option.some.injEq]; exact hfresh b hlt hb.2, by simp [Value.ownBlock]⟩, hb.2⟩
  have kk : ∀ (p : Addr) (y : Value), (Fp B (w0.heap.size + 1) (.slice (some ⟨g1, 0, none⟩) (L.length + 1) c1) (.slice none 0 0) p.block ∧ rv.ownBlock ≠ some p.block) → w.cell? p = some y → w'.cell? p = some y := fun p y hp hy => hgrow.cell hy (Ne.symm hp.2)
  have far : ∀ b, b < w0.heap.size + 1 → some b ≠ rv.ownBlock := fun b hb e => by have := (hrlt b e.symm).1; omega
  have pin : PIn (fun b => New B (w0.heap.size + 1) b ∧ rv.ownBlock ≠ some b) w path pv := by
    rcases h.p.2 with ⟨_, h0⟩ | ⟨g, cap, cur, hv, hg, hB, hc, hm, _, _⟩
    · omega
    · subst hv
      refine ⟨_, cap, rfl, hc, hm, fun j hj => ⟨g, 0, rfl, ⟨.inr hg, fun e => h.apart g e rfl⟩, ?_⟩⟩
      have := h.p.cells (g := g) rfl j (natV path[j]) (by simp [hj])
      have e : (⟨g, 0, none⟩ : Addr).add j = ⟨g, j, none⟩ := by unfold Addr.add; split <;> simp_all
      rw [e] at this
      simpa using this
  have sub : ∀ b, Fp B (w0.heap.size + 1) rv pv b → b < w.heap.size → New B (w0.heap.size + 1) b ∧ rv.ownBlock ≠ some b := fun b hb _ => ⟨hb.1, hb.2.1⟩
  have sub2 : ∀ b, Fp B (w0.heap.size + 1) rv pv b → b < w.heap.size → Fp B (w0.heap.size + 1) (.slice (some ⟨g1, 0, none⟩) (L.length + 1) c1) (.slice none 0 0) b ∧ rv.ownBlock ≠ some b := fun b hb hlt => go b (sub b hb hlt) hlt
  refine ⟨h.le, h.below.grown hgrow (by omega) (fun b hb => by have := (hrlt b hb).1; omega), h.arg.grown hgrow (far _ (by omega)), ⟨xs ++ [pv, u, v], by simpa using hown, ElemsP.snoc (((pin.mono go).keep kk).mono fun b hb _ => hb.1) (((ht.mono sub2).keep kk).mono fun b hb _ => hb.1) (((hxs.mono sub2).keep kk).mono fun b hb _ => hb.1)⟩, ⟨a, c, e, h3, h4, ((h5.mono sub2).keep kk).mono fun b hb _ => hb.1⟩, ⟨rfl, .inl ⟨rfl, rfl⟩⟩, fun g _ => by simp [Value.ownBlock]⟩

theorem Pl.drop (h : Pl B w0 y0 y1 L Q path w rv iv pv) : Pl B w0 y0 y1 L [] path w rv (.slice none 0 0) pv :=
  ⟨h.le, h.below, h.arg, h.rows, ⟨none, 0, rfl, by simp, by unfold maxLen; omega, fun k hk => by simp at hk⟩, h.p, h.apart⟩

theorem Pl.at_ {a : Option Addr} {c : Nat} (h : Pl B w0 y0 y1 L Q path w rv (.slice a Q.length c) pv) (k : Nat) (hk : k < Q.length) :
    ∃ b o q u v, a = some ⟨b, o, none⟩ ∧ w.cell? ⟨b, o + k * 3, none⟩ = some q ∧ w.cell? ⟨b, o + k * 3 + 1, none⟩ = some u ∧ w.cell? ⟨b, o + k * 3 + 2, none⟩ = some v ∧ PIn (Fp B (w0.heap.size + 1) rv pv) w Q[k].1 q ∧ InT (Fp B (w0.heap.size + 1) rv pv) w Q[k].2 (.agg #[u, v]) := by
  obtain ⟨a', c', e, _, _, h5⟩ := h.ins
  simp only [Value.slice.injEq, true_and] at e
  obtain ⟨rfl, rfl⟩ := e
  obtain ⟨b, o, q, u, v, e, _, c0, c1, c2, h1, h2⟩ := h5 k hk
  exact ⟨b, o, q, u, v, e, c0, c1, c2, h1, h2⟩

/-- The whole row. -/
theorem Pl.value (h : Pl B w0 y0 y1 L Q path w rv iv pv) (hL : 0 < L.length) : ∃ a c, rv = .slice a L.length c ∧ L.length ≤ c ∧ c ≤ maxLen ∧ InPls (New B w0.heap.size) w L a := by
  obtain ⟨xs, h1, h2⟩ := h.rows
  rcases h1.2 with ⟨_, h0⟩ | ⟨g, cap, cur, hv, hg, hB, hc, hm, _, _⟩
  · omega
  · subst hv
    refine ⟨_, cap, rfl, hc, hm, fun k hk => ?_⟩
    obtain ⟨p, u, v, e1, e2, e3, e4, e5⟩ := h2.at_ k hk
    have cell : ∀ j y, xs[j]? = some y → w.cell? ⟨g, 0 + j, none⟩ = some y := fun j y hj => by
      have := h1.cells (g := g) rfl j y hj
      have e : (⟨g, 0, none⟩ : Addr).add j = ⟨g, j, none⟩ := by unfold Addr.add; split <;> simp_all
      rw [e] at this
      simpa using this
    have sub : ∀ b, Fp B (w0.heap.size + 1) (.slice (some ⟨g, 0, none⟩) L.length cap) pv b → b < w.heap.size → New B w0.heap.size b := fun b hb _ => hb.1.imp id (fun h => by omega)
    exact ⟨g, 0, p, u, v, rfl, .inr (by omega), cell _ _ e1, by simpa [Nat.add_assoc] using cell _ _ e2, by simpa [Nat.add_assoc] using cell _ _ e3, e4.mono sub, e5.mono sub⟩
end
end Go.Proofs.Ytlkiabgpnboicaa.Old

/- The walk through the places of a term. -/
namespace Go.Proofs.Ytlkiabgpnboicaa.Old
set_option maxRecDepth 100000
open Go.RowKit Go.Sort Go


theorem natV_one (l : List Nat) : ∀ u ∈ l.map natV, u.oneCell' = true := by
  intro u hu
  obtain ⟨n, _, rfl⟩ := List.mem_map.1 hu
  rfl

/-- Where a walk stops ahead of an append. -/
theorem stop_app {P : Program} {ops : Array Oper} {rest : List Oper} {Q : Exit → Act → World → Prop} {a : Act} {w : World} {d : Option Tmp} {args : Array Operand} {tys : Array TypeId} {ty : TypeId} {ps : String} {af : Array Edge} {gd : Option (Nat × Bool)}
    (h : Stop (wpList P ops Q (⟨d, .call { callee := .builtin .append, args := args, argTypes := tys }, ty, ps, af, gd⟩ :: rest) a w)) : wpList P ops Q (⟨d, .call { callee := .builtin .append, args := args, argTypes := tys }, ty, ps, af, gd⟩ :: rest) a w := h.out

section
variable {B : Nat} {w0 w : World} {y0 y1 : Value} {L Q : List Pl1} {path : List Nat} {rv iv pv : Value}

theorem wpList_appP {ops : Array Oper} {rest : List Oper} {o : Oper} {a : Act} {K : Exit → Act → World → Prop} {x y : Operand} {g k : Nat} (hgd : o.guard = none) (ho : o.op = .call { callee := .builtin .append, args := #[x, y], argTypes := #[42, 42] })
    (hx : a.eval x = pv) (hy : a.eval y = .slice (some ⟨g, 0, none⟩) 1 1) (hB : Blk w g 3 #[natV k]) (h : Pl B w0 y0 y1 L Q path w rv iv pv) (hlen : path.length ≤ 4294967295)
    (hK : ∀ pa pc w', Pl B w0 y0 y1 L Q (path ++ [k]) w' rv iv (.slice pa (path.length + 1) pc) → wpList Try.prog ops K rest (a.put o.dst (.slice pa (path.length + 1) pc)) w') : wpList Try.prog ops K (o :: rest) a w := by
  have hint : (Try.prog.info? 3).map (fun i => (i.zero, i.size, i.bytes)) = some (some (.int .i64 0), 1, 8) := by kernel_rfl
  obtain ⟨i0, hi, hz0, hz1, hz2⟩ := info_parts hint
  have hN := h.arg.lt
  refine wpList_append_lies w hgd x y 42 ho (w0.heap.size + 1) 3 i0 (.int .i64 0) 1 8 Try.underlying42 hi hz0 hz1 hz2 rfl (by decide) pv path.length (path.map natV) hx h.p ⟨g, 0, none⟩ 1 1 [natV k] hy rfl (World.news_of_block hB) (natV_one [k]) (by omega) (by unfold maxLen; omega) (by omega) (by omega) _ rfl ?_
  intro g1 c1 w4 hown hgrow hat _
  exact hK _ _ _ (h.step hown hgrow hat)

theorem wpList_appL {ops : Array Oper} {rest : List Oper} {o : Oper} {a : Act} {K : Exit → Act → World → Prop} {x y : Operand} {g : Nat} {t : T} {u v : Value} (hgd : o.guard = none) (ho : o.op = .call { callee := .builtin .append, args := #[x, y], argTypes := #[40, 40] })
    (hx : a.eval x = rv) (hy : a.eval y = .slice (some ⟨g, 0, none⟩) 1 1) (hB : Blk w g 44 #[pv, u, v]) (h : Pl B w0 y0 y1 L Q path w rv iv pv) (ht : InT (Fp B (w0.heap.size + 1) rv pv) w t (.agg #[u, v])) (hpath : 0 < path.length) (hlen : L.length ≤ 4294967295) (hpv : pv.oneCell' = true)
    (hK : ∀ ra rc w', Pl B w0 y0 y1 (L ++ [(path, t)]) Q [] w' (.slice ra (L.length + 1) rc) iv (.slice none 0 0) → wpList Try.prog ops K rest (a.put o.dst (.slice ra (L.length + 1) rc)) w') : wpList Try.prog ops K (o :: rest) a w := by
  have hpl : (Try.prog.info? 44).map (fun i => (i.zero, i.size, i.bytes)) = some (some (.agg #[.slice none 0 0, .int .i64 0, .slice none 0 0]), 3, 56) := by kernel_rfl
  obtain ⟨j0, kj, kz0, kz1, kz2⟩ := info_parts hpl
  have hN := h.arg.lt
  obtain ⟨xs, h1, h2⟩ := h.rows
  have huv : u.oneCell' = true ∧ v.oneCell' = true := by
    obtain ⟨_, a', c', e, _⟩ := ht.form
    simp only [Value.agg.injEq, Array.mk.injEq, List.cons.injEq, and_true] at e
    obtain ⟨rfl, rfl⟩ := e
    exact ⟨rfl, rfl⟩
  refine wpList_append_lies w hgd x y 40 ho (w0.heap.size + 1) 44 j0 (.agg #[.slice none 0 0, .int .i64 0, .slice none 0 0]) 3 56 Try.underlying40 kj kz0 kz1 kz2 rfl (by decide) rv L.length xs hx h1 ⟨g, 0, none⟩ 1 1 [pv, u, v] hy rfl (World.news_of_block hB) (by simp [hpv, huv.1, huv.2]) (by omega) (by unfold maxLen; omega) (by omega) (by omega) _ rfl ?_
  intro g1 c1 w4 hown hgrow hat _
  exact hK _ _ _ (h.snoc h2 ht hpath hown hgrow hat)
end

set_option maxRecDepth 100000 in
set_option maxHeartbeats 8000000 in
theorem places_any (B : Nat) : ∀ (t : T) (w : World) (v : Value), t.size ≤ 4294967290 → InT (fun b => b < B) w t v → B ≤ w.heap.size →
    Calls Try.prog 16 #[v] w fun e w' => ∃ a c, e = .returned (.slice a t.places.length c) ∧ t.places.length ≤ c ∧ c ≤ maxLen ∧ InPls (New B w.heap.size) w' t.places a ∧ Below w.heap.size w w' := by
  intro t
  induction t using T.ind with
  | h f ar ih =>
    intro w v hmax hv hB
    obtain ⟨hf, at_, ct, rfl, hc, hm, hl⟩ := id hv
    have Hv := Lib.hid hv
    have hsz := T.size_eq (T.mk f ar)
    have hlen : ar.length ≤ 4294967290 := by
      have h2 := len_sizeL ar
      simp at hsz; omega
    have Hsz := Lib.hid hsz
    have Hmax := Lib.hid hmax
    unfold maxLen at hm
    clear hv hsz hmax
    go_enter Try.func16, Try.ntmps16
    go_wp2_with fail
    refine (copy_any B (.mk f ar) _ _ (by have := Hmax.out; omega) (Hv.out.below (balloc _ _)) (by simp; omega)).mono ?_
    rintro e w1 ⟨cv, rfl, hcv, hb1⟩
    obtain ⟨_, ca, cc, rfl, _, _, _⟩ := id hcv.form
    have hB1 : Blk w1 w.heap.size 27 #[.int .i64 f, .slice at_ ar.length ct] := (Blk.new' rfl).below hb1
    have hw1 := bstep (balloc _ _) hb1
    have hsz1 := hb1.size
    have k0 := hB1.cell 0
    have k1 := hB1.cell 1
    simp only [List.getElem?_toArray, List.getElem?_cons_zero, List.getElem?_cons_succ] at k0 k1
    have Hhcv := Lib.hid hcv
    have HhB1 := Lib.hid hB1
    have Hhw1 := Lib.hid hw1
    have Hhsz1 := Lib.hid hsz1
    clear hcv hB1 hw1 hsz1
    clear hb1
    go_wp2_with fail
    go_loopw [3, 4, 5, 6, 7, 8] (fun lv nv _ _ _ _ wr => ∃ (n : Nat), n ≤ ar.length ∧ nv = .int .i64 n ∧ Hid (Pl B w (.int .i64 f) (.slice at_ ar.length ct) (([], .mk f ar) :: T.placesL 0 (ar.take n)) [] [] wr lv (.slice none 0 0) (.slice none 0 0)) ∧ Hid (∃ a m c, lv = .slice a m c)) (fun _ nv _ _ _ _ _ => ar.length - (intOf nv).toNat)
    case atStart =>
      have hs := Hhsz1.out
      simp at hs
      refine ⟨0, Nat.zero_le _, rfl, Pl.start hB (bstep Hhw1.out (balloc _ _)) (HhB1.out.alloc _) (by omega) (Blk.new' rfl) ?_, ⟨_, _, _, rfl⟩⟩
      refine InT.below (balloc _ _) ((Hhcv.out.mono fun b hb hlt => ⟨hb.imp id (fun h => by simpa using h), by omega⟩))
    case round =>
      clear k0 k1 Hhcv HhB1 Hhw1 Hhsz1
      obtain ⟨n, hn, rfl, HP, hsh⟩ := hrel
      have k0 := HP.out.arg.cell 0
      have k1 := HP.out.arg.cell 1
      simp only [List.getElem?_toArray, List.getElem?_cons_zero, List.getElem?_cons_succ] at k0 k1
      by_cases hlt : n < ar.length
      · obtain ⟨bt, ot, u, x, rfl, hS, g0, g1, gt⟩ := hl.at_ n hlt
        have Hgt := Lib.hid gt
        have HS := Lib.hid hS
        have g0 := (HP.out.below.cell (show (⟨bt, ot + n * 2, none⟩ : Addr).block < w.heap.size from Nat.lt_of_lt_of_le hS hB)).trans g0
        have g1 := (HP.out.below.cell (show (⟨bt, ot + n * 2 + 1, none⟩ : Addr).block < w.heap.size from Nat.lt_of_lt_of_le hS hB)).trans g1
        have z0 : (0 : Int) ≤ (n : Int) := by omega
        have z1 : (n : Int) < (ar.length : Int) := by omega
        have hsn : ar[n].size ≤ 4294967290 ∧ (T.places ar[n]).length ≤ 4294967290 ∧ (T.placesL 0 (ar.take n)).length + (T.places ar[n]).length + 1 ≤ 4294967290 := by
          have h1 := Hsz.out
          have h2 := T.sizeL_take_succ ar n hlt
          have h3 := T.sizeL_take_le ar (n + 1)
          have h4 := Hmax.out
          rw [T.places_size, T.placesL_size]
          simp only [T.args_mk] at h1
          omega
        obtain ⟨Q, hQ⟩ : ∃ Q, Q = T.places ar[n] := ⟨_, rfl⟩
        obtain ⟨L, hL⟩ : ∃ L, L = (([], .mk f ar) :: T.placesL 0 (ar.take n) : List Pl1) := ⟨_, rfl⟩
        have hbound : L.length + Q.length ≤ 4294967290 ∧ ∀ x ∈ Q, x.1.length ≤ 4294967290 := by
          refine ⟨by rw [hL, hQ]; simp only [List.length_cons]; omega, fun x hx => ?_⟩
          rw [hQ] at hx
          exact Nat.le_trans (T.places_len _ x hx) hsn.1
        have HB2 := Lib.hid hbound
        have HQ := Lib.hid hQ
        have HL := Lib.hid hL
        rw [← hL] at HP
        have RC := fun (W : World) (h1 : InT (fun b => b < B) W ar[n] (.agg #[u, x])) (h2 : B ≤ W.heap.size) => ih ar[n] (List.getElem_mem hlt) W (.agg #[u, x]) hsn.1 h1 h2
        rw [← hQ] at RC
        clear ih hS gt hsn hbound hQ hL
        go_wp2_with fail
        refine (RC _ (Hgt.out.old HP.out.below hB) (Nat.le_trans hB HP.out.below.size)).mono ?_
        rintro e w2 ⟨qa, qc, rfl, hq1, hq2, hq3, hb2⟩
        have HP2 := Lib.hid (HP.out.call hb2 hq1 hq2 hq3)
        have g0 := bkeeps hb2 _ _ g0
        have g1 := bkeeps hb2 _ _ g1
        clear RC hb2 hq3 HP k0 k1
        unfold maxLen at hq2
        have Hq12 := Lib.hid (And.intro hq1 hq2)
        have Hsh := hsh
        clear hsh
        go_wp2_with fail
        go_loopw [3, 6, 7, 8] (fun lv kv _ _ wr => ∃ (m : Nat), m ≤ Q.length ∧ kv = .int .i64 m ∧ Hid (Pl B w (.int .i64 f) (.slice (some ⟨bt, ot, none⟩) ar.length ct) (L ++ (Q.take m).map (fun x => (n :: x.1, x.2))) Q [] wr lv (.slice qa Q.length qc) (.slice none 0 0)) ∧ Hid (∃ a m c, lv = .slice a m c)) (fun _ kv _ _ _ => Q.length - (intOf kv).toNat)
        case atStart => exact ⟨0, Nat.zero_le _, rfl, by rw [List.take_zero, List.map_nil, List.append_nil]; exact HP2.out, Hsh.out⟩
        case round =>
          clear HP2 Hsh
          obtain ⟨m, hm2, rfl, HP, hsh⟩ := hrel
          by_cases hmt : m < Q.length
          · obtain ⟨b2, o2, q, xu, xv, rfl, c0, c1, c2, hp1, ht1⟩ := HP.out.at_ m hmt
            have HP3 := Lib.hid (HP.out.begin (i := n))
            obtain ⟨L2, hL2⟩ : ∃ L2, L2 = L ++ (Q.take m).map (fun x => (n :: x.1, x.2)) := ⟨_, rfl⟩
            rw [← hL2] at HP3
            have HL2 := Lib.hid hL2
            have Hsh := hsh
            obtain ⟨path, tt, hqm⟩ : ∃ path tt, Q[m] = (path, tt) := ⟨_, _, rfl⟩
            have Hqm := Lib.hid hqm
            have hpl : path.length ≤ 4294967290 := by
              have := HB2.out.2 _ (List.getElem_mem hmt)
              rw [hqm] at this
              exact this
            clear c0 c1 c2 hp1 ht1 HP hL2 hsh hqm
            go_wp2_with fail
            go_loopw [7, 8] (fun pv jv wr3 => ∃ (j : Nat), j ≤ path.length ∧ jv = .int .i64 j ∧ Hid (Pl B w (.int .i64 f) (.slice (some ⟨bt, ot, none⟩) ar.length ct) L2 Q (n :: path.take j) wr3 u3 (.slice (some ⟨b2, o2, none⟩) Q.length qc) pv) ∧ Hid (∃ a m c, pv = .slice a m c)) (fun _ jv _ => path.length - (intOf jv).toNat)
            case atStart => exact ⟨0, Nat.zero_le _, rfl, by rw [List.take_zero]; exact HP3.out, ⟨_, _, _, rfl⟩⟩
            case round =>
              clear HP3
              obtain ⟨j, hj, rfl, HP, hpsh⟩ := hrel
              obtain ⟨b3, o3, q3, xu, xv, e3, c0, c1, c2, hp1, ht1⟩ := HP.out.at_ m hmt
              simp only [Option.some.injEq, Addr.mk.injEq, and_true] at e3
              obtain ⟨rfl, rfl⟩ := e3
              rw [Hqm.out] at hp1 ht1
              simp only at hp1 ht1
              obtain ⟨pa, pc, rfl, hpc1, hpc2, hcell⟩ := hp1
              unfold maxLen at hpc2
              obtain ⟨_, ua, uc, huv, _, _, _⟩ := id ht1.form
              simp only [Value.agg.injEq, Array.mk.injEq, List.cons.injEq, and_true] at huv
              obtain ⟨rfl, rfl⟩ := huv
              obtain ⟨pva, pvn, pvc, rfl⟩ := hpsh.out
              have z2 : (0 : Int) ≤ (m : Int) := by omega
              have z3 : (m : Int) < (Q.length : Int) := by omega
              have Ht1 := Lib.hid ht1
              have hq2 := Hq12.out.2
              clear ht1
              by_cases hjt : j < path.length
              · obtain ⟨bp, op, rfl, hSp, gx⟩ := hcell j hjt
                have z4 : (0 : Int) ≤ (j : Int) := by omega
                have z5 : (j : Int) < (path.length : Int) := by omega
                clear hcell
                have Hgx := Lib.hid gx
                unfold natV at gx
                have hpc : (n :: path.take j).length ≤ 4294967295 := by simp; omega
                go_wp2_with (with_reducible refine stop_app ?_)
                refine Stop.mk ?_
                refine wpList_appP rfl rfl rfl rfl (Blk.new' rfl) (HP.out.below_ (balloc _ _)) hpc ?_
                intro pa2 pc2 w4 HP5
                rw [show (n :: path.take j).length = j + 1 by simp; omega] at HP5
                have HHP5 := Lib.hid HP5
                clear HP5
                clear HP hpsh hpc c0 c1 c2 gx hSp
                go_wp2_with fail
                go_roundw
                case rel => exact ⟨j + 1, by omega, by go_num, by rw [List.take_succ_eq_append_getElem hjt]; exact HHP5.out, ⟨_, _, _, rfl⟩⟩
                case measure => simp [intOf]; omega
              · clear hcell
                have hjl : path.take j = path := by rw [show j = path.length by omega, List.take_length]
                rw [hjl] at HP
                have hlen : L2.length ≤ 4294967295 := by have := HB2.out.1; rw [HL2.out]; simp; omega
                go_wp2_with (with_reducible refine stop_app ?_)
                refine Stop.mk ?_
                refine wpList_appL rfl rfl rfl rfl (Blk.new' rfl) (HP.out.below_ (balloc _ _)) (Ht1.out.below (balloc _ _)) (by simp) hlen rfl ?_
                intro ra2 rc2 w4 HP5
                have HHP5 := Lib.hid HP5
                clear HP5
                clear HP hpsh Hsh hlen c0 c1 c2 Ht1
                go_wp2_with fail
                go_roundw
                case rel =>
                  refine ⟨m + 1, by omega, by go_num, ?_, ⟨_, _, _, rfl⟩⟩
                  rw [List.take_succ_eq_append_getElem hmt, List.map_append, Hqm.out]
                  have e : L ++ ((Q.take m).map (fun x => (n :: x.1, x.2)) ++ [(path, tt)].map (fun x => (n :: x.1, x.2))) = L2 ++ [(n :: path, tt)] := by rw [HL2.out, List.append_assoc]; rfl
                  rw [e]
                  exact HHP5.out
                case measure => simp [intOf]; omega
          · have HD := Lib.hid HP.out.drop
            have he : L ++ (Q.take m).map (fun x => (n :: x.1, x.2)) = (([], .mk f ar) :: T.placesL 0 (ar.take (n + 1)) : List Pl1) := by
              rw [show m = Q.length by omega, List.take_length, HL.out, HQ.out, List.take_succ_eq_append_getElem hlt, T.placesL_append]
              simp only [List.cons_append, T.placesL, List.append_nil, List.length_take, Nat.zero_add]
              rw [Nat.min_eq_left (by omega)]
            rw [he] at HD
            clear HP he
            go_wp2_with fail
            go_roundw
            case rel => exact ⟨n + 1, by omega, by go_num, HD.out, hsh.out⟩
            case measure => simp [intOf]; omega
      · have HV := Lib.hid (show T.places (.mk f ar) = ([], .mk f ar) :: T.placesL 0 (ar.take n) by rw [show n = ar.length by omega, List.take_length, T.places])
        obtain ⟨ra, rn, rc, rfl⟩ := hsh.out
        go_wp2_with fail
        go_ret
        obtain ⟨a', c', e, h1, h2, h3⟩ := HP.out.value (by simp)
        rw [HV.out]
        exact ⟨a', c', by rw [e]; rfl, h1, h2, h3, HP.out.below⟩

end Go.Proofs.Ytlkiabgpnboicaa.Old

/- The walk through the law LpoSubterms. -/
namespace Go.Proofs.Ytlkiabgpnboicaa
open Go.RowKit Go

def pget (l : List (List Nat × T)) (k : Nat) : List Nat × T := l.getD k ([], .mk 0 [])
theorem pget_lt {l : List (List Nat × T)} {k : Nat} (h : k < l.length) : pget l k = l[k] := by simp [pget, h]
theorem plsOpen {S : Nat → Prop} {w : World} {l : List (List Nat × T)} {a : Option Addr} (h : Old.InPls S w l a) : ∃ (b o : Nat) (P : Nat → Option Addr) (PC : Nat → Nat) (A : Nat → Option Addr) (C : Nat → Nat), (∀ k, k < l.length → a = some ⟨b, o, none⟩) ∧
    ∀ k, k < l.length → w.cell? ⟨b, o + k * 3, none⟩ = some (.slice (P k) (pget l k).1.length (PC k)) ∧ w.cell? ⟨b, o + k * 3 + 1, none⟩ = some (.int .i64 (pget l k).2.f) ∧ w.cell? ⟨b, o + k * 3 + 2, none⟩ = some (.slice (A k) (pget l k).2.args.length (C k)) ∧
      Old.PIn S w (pget l k).1 (.slice (P k) (pget l k).1.length (PC k)) ∧ IsT w (pget l k).2 (.agg #[.int .i64 (pget l k).2.f, .slice (A k) (pget l k).2.args.length (C k)]) := by
  rcases Nat.eq_zero_or_pos l.length with h0 | h0
  · exact ⟨0, 0, fun _ => none, fun _ => 0, fun _ => none, fun _ => 0, fun k hk => by omega, fun k hk => by omega⟩
  · obtain ⟨b, o, _, _, _, ha, _⟩ := h 0 h0
    have key : ∀ k, k < l.length → ∃ p : (Option Addr × Nat) × (Option Addr × Nat), w.cell? ⟨b, o + k * 3, none⟩ = some (.slice p.1.1 (pget l k).1.length p.1.2) ∧ w.cell? ⟨b, o + k * 3 + 1, none⟩ = some (.int .i64 (pget l k).2.f) ∧ w.cell? ⟨b, o + k * 3 + 2, none⟩ = some (.slice p.2.1 (pget l k).2.args.length p.2.2) ∧
      Old.PIn S w (pget l k).1 (.slice p.1.1 (pget l k).1.length p.1.2) ∧ IsT w (pget l k).2 (.agg #[.int .i64 (pget l k).2.f, .slice p.2.1 (pget l k).2.args.length p.2.2]) := by
      intro k hk
      obtain ⟨b', o', pv, u, v, ha', _, c0, c1, c2, hp, ht⟩ := h k hk
      rw [ha] at ha'
      simp only [Option.some.injEq, Addr.mk.injEq, and_true] at ha'
      obtain ⟨rfl, rfl⟩ := ha'
      obtain ⟨pa, pc, rfl⟩ := hp.slice
      have ht' := ht.isT
      obtain ⟨_, ta, tc, e, _⟩ := ht'.form
      simp only [Value.agg.injEq, Array.mk.injEq, List.cons.injEq, and_true] at e
      obtain ⟨rfl, rfl⟩ := e
      rw [pget_lt hk]
      exact ⟨((pa, pc), (ta, tc)), c0, c1, c2, hp, ht'⟩
    have : Inhabited ((Option Addr × Nat) × (Option Addr × Nat)) := ⟨((none, 0), (none, 0))⟩
    obtain ⟨F, hF⟩ := Go.Deep.choose_lt key
    exact ⟨b, o, fun k => (F k).1.1, fun k => (F k).1.2, fun k => (F k).2.1, fun k => (F k).2.2, fun _ _ => ha, hF⟩
theorem Od.lg_part {o : Od} {s t : T} (h : T.Part s t) : o.lknows t = true → o.lg t s = true := by
  induction h with
  | @arg f l a ha =>
    intro hk
    exact Od.lg_arg (fun hf => by have := (lknows_top hk).2 hf; rw [show l = [] from this] at ha; simp at ha) ha
  | @deep f l a b hb hp ih =>
    intro hk
    exact Od.lg_sub (fun hf => by have := (lknows_top hk).2 hf; rw [show l = [] from this] at hb; simp at hb) hb (.inr (ih (lknows_arg hk hb).1))
theorem places_proper {t : T} {k : Nat} (h0 : 0 < k) (hk : k < t.places.length) : T.Part (pget t.places k).2 t := by
  rw [pget_lt hk]
  obtain ⟨f, l⟩ := t
  obtain ⟨k, rfl⟩ : ∃ j, k = j + 1 := ⟨k - 1, by omega⟩
  simp only [T.places, List.getElem_cons_succ]
  exact T.placesL_part l 0 f l (fun a h => h) _ (List.getElem_mem _)
theorem lknows_part {o : Od} {s t : T} (h : T.Part s t) : o.lknows t = true → o.lknows s = true := by
  induction h with
  | arg ha => exact fun hk => (lknows_arg hk ha).1
  | deep hb _ ih => exact fun hk => ih (lknows_arg hk hb).1
theorem part_size {s t : T} (h : T.Part s t) : s.size ≤ t.size := by
  induction h with
  | @arg f l a ha => have := T.size_le_sizeL ha; rw [T.size]; omega
  | @deep f l a b hb _ ih => have := T.size_le_sizeL hb; rw [T.size]; omega
theorem ts1' {w : World} {t : T} {u v : Value} {ty : Nat} (h : IsT w t (.agg #[u, v])) : TsOf [t] (.slice (some ⟨w.heap.size, 0, none⟩) 1 1) (w.alloc (.cells #[u, v] ty)) := ts1 h
theorem places_of {t : T} {w : World} {v : Value} (hz : t.size ≤ 4294967290) (h : IsT w t v) : Calls Try.prog 16 #[v] w (Ret fun v' w' => (∃ a c, v' = .slice a t.places.length c ∧ t.places.length ≤ c ∧ c ≤ maxLen ∧ Old.InPls (Old.New w.heap.size w.heap.size) w' t.places a) ∧ Below w.heap.size w w') := by
  refine (Old.places_any w.heap.size t w v hz (Old.IsT.inT h) (Nat.le_refl _)).mono ?_
  rintro e w' ⟨a, c, rfl, h1, h2, h3, hb⟩
  exact ⟨_, rfl, ⟨a, c, rfl, h1, h2, h3⟩, hb⟩
set_option maxRecDepth 100000 in
theorem subterms_any (sg : List Sy) (o : Od) (t : T) (w : World) (vs vo v1 : Value) (zt : t.size ≤ 4294967290) (hst : IsSig w sg vs) (hot : IsOd w o vo) (ht : IsT w t v1) :
    Calls Try.prog 5 #[vs, vo, v1] w (Ret fun v' w' => v' = .bool true ∧ Below w.heap.size w w') := by
  have h0 := hst
  have h1 := hot
  have zt : t.size ≤ 4294967296 := by omega
  obtain ⟨p1, p2, k1, k2, rfl, _, _, _, _, hp, _, _⟩ := h1
  obtain ⟨a, c, rfl, _, _, _⟩ := h0
  obtain ⟨_, et, dt, rfl, _, _, _⟩ := ht.form
  refine Calls.walk (l := [.agg #[.slice a sg.length c], .agg #[.bool o.lpo, .slice p1 o.prec.length k1, .slice p2 o.weights.length k2, .int .i64 o.var], .agg #[.int .i64 t.f, .slice et t.args.length dt]]) Try.func5 rfl (by kernel_rfl) ?_
  refine WC.sub (K' := [(0, .agg #[.slice a sg.length c]), (1, .agg #[.bool o.lpo, .slice p1 o.prec.length k1, .slice p2 o.weights.length k2, .int .i64 o.var]), (2, .agg #[.int .i64 t.f, .slice et t.args.length dt])]) ⟨rfl, rfl, rfl, trivial⟩ ?_
  refine WC.seq ?_
  refine WC.region ?_
  refine WL.step (post := NewBlk w 35 #[.slice a sg.length c]) rfl rfl rfl (fun za zC zh zk => box_35 rfl (zh.ev rfl) (zk _ _ (newBlk _ _ _))) ?_
  rintro _ w1 ⟨g2, rfl, hg3, hB4, hb5, hz6⟩
  have hl7 : w.heap.size ≤ g2 := by omega
  refine WL.step (post := NewBlk w1 24 #[.bool o.lpo, .slice p1 o.prec.length k1, .slice p2 o.weights.length k2, .int .i64 o.var]) rfl rfl rfl (fun za zC zh zk => box_24 rfl (zh.ev rfl) (zk _ _ (newBlk _ _ _))) ?_
  rintro _ w8 ⟨g9, rfl, hg10, hB11, hb12, hz13⟩
  have hl14 : g2 < g9 := by have z1 := hB4.lt; omega
  have hl15 : w.heap.size ≤ g9 := by have z2 := (hb5).size; omega
  refine WL.step (post := NewBlk w8 27 #[.int .i64 t.f, .slice et t.args.length dt]) rfl rfl rfl (fun za zC zh zk => box_27 rfl (zh.ev rfl) (zk _ _ (newBlk _ _ _))) ?_
  rintro _ w16 ⟨g17, rfl, hg18, hB19, hb20, hz21⟩
  have hl22 : g2 < g17 := by have z1 := hB4.lt; have z2 := (hb12).size; omega
  have hl23 : g9 < g17 := by have z1 := hB11.lt; omega
  have hb24 : Below w.heap.size w w8 := (bstep hb5 hb12)
  have hl25 : w.heap.size ≤ g17 := by have z2 := (hb24).size; omega
  refine WL.val (.bool false) rfl rfl rfl (fun za zC zh zk => wp_assign rfl (zh.ev rfl) zk) ?_
  refine WL.nil (WE.sub (K' := [(0, .agg #[.slice a sg.length c]), (1, .agg #[.bool o.lpo, .slice p1 o.prec.length k1, .slice p2 o.weights.length k2, .int .i64 o.var]), (2, .agg #[.int .i64 t.f, .slice et t.args.length dt]), (3, .pointer (some ⟨g2, 0, none⟩)), (4, .pointer (some ⟨g9, 0, none⟩)), (5, .pointer (some ⟨g17, 0, none⟩)), (6, .bool false)]) ⟨rfl, rfl, rfl, rfl, rfl, rfl, rfl, trivial⟩ ?_)
  refine WE.next ?_
  refine WC.seq ?_
  refine WC.seq ?_
  have hb26 : Below w.heap.size w w16 := (bstep hb24 hb20)
  have hb28 : Below w1.heap.size w1 w16 := (bstep hb12 hb20)
  have hB27 := hB4.below hb28
  have hB29 := hB11.below hb20
  refine WC.opt [(true, .val (.agg #[.int .i64 t.f, .slice et t.args.length dt])), (true, .mem (TsOf [t]) (fun v w w' hb h => TsOf.bel h hb)), (true, .val (.bool ((greatB [t])))), (true, .val (.bool ((greatB [t])))), ((true && !(greatB [t])), .val (.agg #[.slice a sg.length c])), ((true && !(greatB [t])), .val (.agg #[.bool o.lpo, .slice p1 o.prec.length k1, .slice p2 o.weights.length k2, .int .i64 o.var])), ((true && !(greatB [t])), .val (.agg #[.int .i64 t.f, .slice et t.args.length dt])), ((true && !(greatB [t])), .mem (TsOf [t]) (fun v w w' hb h => TsOf.bel h hb)), ((true && !(greatB [t])), .val (.bool ((fitsB sg o [t])))), ((true && !(greatB [t])), .val (.bool ((!(fitsB sg o [t]))))), (true, .val (.bool (((greatB [t]) || (!(fitsB sg o [t]))))))] [(0, .agg #[.slice a sg.length c]), (1, .agg #[.bool o.lpo, .slice p1 o.prec.length k1, .slice p2 o.weights.length k2, .int .i64 o.var]), (2, .agg #[.int .i64 t.f, .slice et t.args.length dt]), (3, .pointer (some ⟨g2, 0, none⟩)), (4, .pointer (some ⟨g9, 0, none⟩)), (5, .pointer (some ⟨g17, 0, none⟩)), (6, .bool false)] ⟨rfl, rfl, rfl, rfl, rfl, rfl, rfl, trivial⟩ (by kernel_rfl) (by kernel_rfl) (by kernel_rfl) ?_ ?_
  · refine ⟨⟨true, .none rfl, fun h w => optUndef h, fun zβ za zw zc => ?_⟩, ?_⟩
    · exact ld_27 rfl (zc.kn.ev rfl) (bkeeps zc.below _ _ ((hB19.cell 0).trans rfl)) (bkeeps zc.below _ _ ((hB19.cell 1).trans rfl)) ⟨_, rfl, Below.refl _ _, optDef zβ rfl⟩
    refine ⟨⟨true, .none rfl, fun h w => optUndef h, fun zβ za zw zc => ?_⟩, ?_⟩
    · exact row_25_1 rfl ((show za.eval (.tmp 9) = za.tmps.getD 9 undef from rfl).trans (optVal (zc.dep 0 9 (by kernel_rfl)) rfl rfl)) ⟨_, rfl, balloc _ _, optDef zβ (ts1 (IsT.below (bstep hb26 zc.below) ht))⟩
    refine ⟨⟨true, .none rfl, fun h w => optUndef h, fun zβ za zw zc => ?_⟩, ?_⟩
    · exact wp_call (by kernel_rfl) rfl (hv1 (show za.eval (.tmp 10) = za.tmps.getD 10 undef from rfl)) (great_ts (optMem (zc.dep 1 10 (by kernel_rfl)) rfl rfl)) (fun v w' h => ⟨v, rfl, h.2, optDef zβ h.1⟩)
    refine ⟨⟨true, .none rfl, fun h w => optUndef h, fun zβ za zw zc => ?_⟩, ?_⟩
    · exact wp_move rfl ((show za.eval (.tmp 11) = za.tmps.getD 11 undef from rfl).trans (optVal (zc.dep 2 11 (by kernel_rfl)) rfl rfl)) ⟨_, rfl, Below.refl _ _, optDef zβ rfl⟩
    refine ⟨⟨(true && !(greatB [t])), .no (c := (greatB [t])) (d := true) rfl (fun v w h => h), fun h w => optUndef h, fun zβ za zw zc => ?_⟩, ?_⟩
    · exact ld_35 rfl (zc.kn.ev rfl) (bkeeps zc.below _ _ ((hB27.cell 0).trans rfl)) ⟨_, rfl, Below.refl _ _, optDef zβ rfl⟩
    refine ⟨⟨(true && !(greatB [t])), .no (c := (greatB [t])) (d := true) rfl (fun v w h => h), fun h w => optUndef h, fun zβ za zw zc => ?_⟩, ?_⟩
    · exact ld_24 rfl (zc.kn.ev rfl) (bkeeps zc.below _ _ ((hB29.cell 0).trans rfl)) (bkeeps zc.below _ _ ((hB29.cell 1).trans rfl)) (bkeeps zc.below _ _ ((hB29.cell 2).trans rfl)) (bkeeps zc.below _ _ ((hB29.cell 3).trans rfl)) ⟨_, rfl, Below.refl _ _, optDef zβ rfl⟩
    refine ⟨⟨(true && !(greatB [t])), .no (c := (greatB [t])) (d := true) rfl (fun v w h => h), fun h w => optUndef h, fun zβ za zw zc => ?_⟩, ?_⟩
    · exact ld_27 rfl (zc.kn.ev rfl) (bkeeps zc.below _ _ ((hB19.cell 0).trans rfl)) (bkeeps zc.below _ _ ((hB19.cell 1).trans rfl)) ⟨_, rfl, Below.refl _ _, optDef zβ rfl⟩
    refine ⟨⟨(true && !(greatB [t])), .no (c := (greatB [t])) (d := true) rfl (fun v w h => h), fun h w => optUndef h, fun zβ za zw zc => ?_⟩, ?_⟩
    · exact row_25_1 rfl ((show za.eval (.tmp 15) = za.tmps.getD 15 undef from rfl).trans (optVal (zc.dep 6 15 (by kernel_rfl)) rfl zβ)) ⟨_, rfl, balloc _ _, optDef zβ (ts1 (IsT.below (bstep hb26 zc.below) ht))⟩
    refine ⟨⟨(true && !(greatB [t])), .no (c := (greatB [t])) (d := true) rfl (fun v w h => h), fun h w => optUndef h, fun zβ za zw zc => ?_⟩, ?_⟩
    · exact wp_call (by kernel_rfl) rfl (hv3 ((show za.eval (.tmp 13) = za.tmps.getD 13 undef from rfl).trans (optVal (zc.dep 4 13 (by kernel_rfl)) rfl zβ)) ((show za.eval (.tmp 14) = za.tmps.getD 14 undef from rfl).trans (optVal (zc.dep 5 14 (by kernel_rfl)) rfl zβ)) (show za.eval (.tmp 16) = za.tmps.getD 16 undef from rfl)) (fits_ts (by intro x hx; simp only [List.mem_singleton] at hx; subst hx; exact zt) (IsSig.below (bstep hb26 zc.below) hst) (hot.below (bstep hb26 zc.below)) (optMem (zc.dep 7 16 (by kernel_rfl)) rfl zβ)) (fun v w' h => ⟨v, rfl, h.2, optDef zβ h.1⟩)
    refine ⟨⟨(true && !(greatB [t])), .no (c := (greatB [t])) (d := true) rfl (fun v w h => h), fun h w => optUndef h, fun zβ za zw zc => ?_⟩, ?_⟩
    · exact wp_not rfl ((show za.eval (.tmp 17) = za.tmps.getD 17 undef from rfl).trans (optVal (zc.dep 8 17 (by kernel_rfl)) rfl zβ)) ⟨_, rfl, Below.refl _ _, optDef zβ rfl⟩
    refine ⟨⟨true, .none rfl, fun h w => optUndef h, fun zβ za zw zc => ?_⟩, ?_⟩
    · exact wp_or rfl ((show za.eval (.tmp 12) = za.tmps.getD 12 undef from rfl).trans (optVal (zc.dep 3 12 (by kernel_rfl)) rfl rfl)) (fun hp => ((show za.eval (.tmp 18) = za.tmps.getD 18 undef from rfl).trans (optVal (zc.dep 9 18 (by kernel_rfl)) rfl (bMkN zβ hp)))) ⟨_, rfl, Below.refl _ _, optDef zβ rfl⟩
    exact trivial
  · intro za w30 zh hb31 zu
    have zh := zh.cons (d := 19) (v := .bool (((greatB [t]) || (!(fitsB sg o [t]))))) (optVal (zu 10 19 (by kernel_rfl)) rfl rfl)
    clear zu
    refine (show WE _ [(0, .agg #[.slice a sg.length c]), (1, .agg #[.bool o.lpo, .slice p1 o.prec.length k1, .slice p2 o.weights.length k2, .int .i64 o.var]), (2, .agg #[.int .i64 t.f, .slice et t.args.length dt]), (3, .pointer (some ⟨g2, 0, none⟩)), (4, .pointer (some ⟨g9, 0, none⟩)), (5, .pointer (some ⟨g17, 0, none⟩)), (6, .bool false), (19, .bool (((greatB [t]) || (!(fitsB sg o [t])))))] w30 _ .normal from ?_) za (zh.sub ⟨rfl, rfl, rfl, rfl, rfl, rfl, rfl, rfl, trivial⟩)
    refine WE.next ?_
    refine WC.cond rfl (fun h32 => ?_) (fun h32 => ?_)
    · have h32 : ((greatB [t]) = true) ∨ (¬ ((fitsB sg o [t]) = true)) := by simpa using h32
      refine WC.seq ?_
      refine WC.region ?_
      refine WL.call rfl rfl rfl (fun za zh zC => wp_call (by kernel_rfl) rfl (hv0)) (wakes_any _) ?_
      rintro _ w33 ⟨rfl, hbw⟩
      refine WL.val (.bool true) rfl rfl rfl (fun za zC zh zk => wp_assign rfl (zh.ev rfl) zk) ?_
      refine WL.nil (WE.sub (K' := [(0, .agg #[.slice a sg.length c]), (1, .agg #[.bool o.lpo, .slice p1 o.prec.length k1, .slice p2 o.weights.length k2, .int .i64 o.var]), (2, .agg #[.int .i64 t.f, .slice et t.args.length dt]), (3, .pointer (some ⟨g2, 0, none⟩)), (4, .pointer (some ⟨g9, 0, none⟩)), (5, .pointer (some ⟨g17, 0, none⟩)), (6, .bool true), (19, .bool (((greatB [t]) || (!(fitsB sg o [t])))))]) ⟨rfl, rfl, rfl, rfl, rfl, rfl, rfl, rfl, trivial⟩ ?_)
      refine WE.next ?_
      refine WC.ret ?_
      refine WE.thenRet ?_
      refine WE.ret1 rfl rfl ?_
      have hb34 : Below w.heap.size w w33 := (bstep (bstep hb26 hb31) hbw)
      exact ⟨_, rfl, rfl, hb34⟩
    · have h32 : ¬ (((greatB [t]) = true) ∨ (¬ ((fitsB sg o [t]) = true))) := by simpa using h32
      have hF := fitsB_of (sg := sg) (o := o) (l := [t]) (by have z := h32; simp at z; exact z.2)
      have kt := Od.lknown hF.2.1 (hF.2.2 t (by simp))
      refine WC.skip ?_
      refine WE.next ?_
      refine WC.seq ?_
      refine WC.region ?_
      have hB35 := hB19.below hb31
      refine WL.val (.agg #[.int .i64 t.f, .slice et t.args.length dt]) rfl rfl rfl (fun za zC zh zk => ld_27 rfl (zh.ev rfl) ((hB35.cell 0).trans rfl) ((hB35.cell 1).trans rfl) zk) ?_
      have hb36 : Below w.heap.size w w30 := (bstep hb26 hb31)
      refine WL.call rfl rfl rfl (fun za zh zC => wp_call (by kernel_rfl) rfl (hv1 (zh.ev rfl))) (places_of (by omega) (IsT.below hb36 ht)) ?_
      rintro _ w37 ⟨⟨qa, qc, rfl, hq1, hq2, hqI⟩, hbp⟩
      have hql : t.places.length ≤ 4294967296 := by rw [T.places_size]; exact zt
      have hqm := hq2
      unfold maxLen at hqm
      refine WL.val (.slice qa t.places.length qc) rfl rfl rfl (fun za zC zh zk => wp_assign rfl (zh.ev rfl) zk) ?_
      refine WL.nil (WE.sub (K' := [(0, .agg #[.slice a sg.length c]), (1, .agg #[.bool o.lpo, .slice p1 o.prec.length k1, .slice p2 o.weights.length k2, .int .i64 o.var]), (2, .agg #[.int .i64 t.f, .slice et t.args.length dt]), (3, .pointer (some ⟨g2, 0, none⟩)), (4, .pointer (some ⟨g9, 0, none⟩)), (5, .pointer (some ⟨g17, 0, none⟩)), (6, .bool false), (7, .slice qa t.places.length qc), (19, .bool (((greatB [t]) || (!(fitsB sg o [t])))))]) ⟨rfl, rfl, rfl, rfl, rfl, rfl, rfl, rfl, rfl, trivial⟩ ?_)
      refine WE.next ?_
      refine WC.seq ?_
      refine WC.seq ?_
      refine WC.region ?_
      refine WL.val (.int .i64 1) rfl rfl rfl (fun za zC zh zk => wp_assign rfl (zh.ev rfl) zk) ?_
      refine WL.nil (WE.sub (K' := [(0, .agg #[.slice a sg.length c]), (1, .agg #[.bool o.lpo, .slice p1 o.prec.length k1, .slice p2 o.weights.length k2, .int .i64 o.var]), (2, .agg #[.int .i64 t.f, .slice et t.args.length dt]), (3, .pointer (some ⟨g2, 0, none⟩)), (4, .pointer (some ⟨g9, 0, none⟩)), (5, .pointer (some ⟨g17, 0, none⟩)), (6, .bool false), (7, .slice qa t.places.length qc), (8, .int .i64 1), (19, .bool (((greatB [t]) || (!(fitsB sg o [t])))))]) ⟨rfl, rfl, rfl, rfl, rfl, rfl, rfl, rfl, rfl, rfl, trivial⟩ ?_)
      refine WE.next ?_
      refine WC.block ?_
      refine WC.loop (X := Nat) (fun k => t.places.length - k) (fun k => [(0, .agg #[.slice a sg.length c]), (1, .agg #[.bool o.lpo, .slice p1 o.prec.length k1, .slice p2 o.weights.length k2, .int .i64 o.var]), (2, .agg #[.int .i64 t.f, .slice et t.args.length dt]), (3, .pointer (some ⟨g2, 0, none⟩)), (4, .pointer (some ⟨g9, 0, none⟩)), (5, .pointer (some ⟨g17, 0, none⟩)), (7, .slice qa t.places.length qc), (8, .int .i64 (((k : Nat) : Int))), (19, .bool (((greatB [t]) || (!(fitsB sg o [t])))))]) (fun k w38 => 1 ≤ k ∧ Below w.heap.size w w38 ∧ Below w37.heap.size w37 w38 ∧ Blk w38 g2 35 #[.slice a sg.length c] ∧ Blk w38 g9 24 #[.bool o.lpo, .slice p1 o.prec.length k1, .slice p2 o.weights.length k2, .int .i64 o.var] ∧ Blk w38 g17 27 #[.int .i64 t.f, .slice et t.args.length dt]) 1 ⟨rfl, rfl, rfl, rfl, rfl, rfl, rfl, rfl, rfl, trivial⟩ ?_ ?_
      · have hb39 : Below w.heap.size w w37 := (bstep hb36 hbp)
        have hb41 : Below w16.heap.size w16 w37 := (bstep hb31 hbp)
        have hB40 := hB27.below hb41
        have hB42 := hB29.below hb41
        have hB43 := hB35.below hbp
        exact ⟨Nat.le_refl _, hb39, (Below.refl _ _), hB40, hB42, hB43⟩
      · rintro k w38 ⟨hk, hb44, hb45, hB46, hB47, hB48⟩
        refine WC.seq ?_
        refine WC.seq ?_
        refine WC.region ?_
        refine WL.val (.int .i64 (((k : Nat) : Int))) rfl rfl rfl (fun za zC zh zk => wp_move rfl (zh.ev rfl) zk) ?_
        refine WL.val (.slice qa t.places.length qc) rfl rfl rfl (fun za zC zh zk => wp_move rfl (zh.ev rfl) zk) ?_
        refine WL.val (.int .i64 (((t.places.length : Nat) : Int))) rfl rfl rfl (fun za zC zh zk => len_40 rfl (zh.ev rfl) zk) ?_
        refine WL.val (.bool ((decide ((((k : Nat) : Int) : Int) < (((t.places.length : Nat) : Int) : Int))))) rfl rfl rfl (fun za zC zh zk => lss_3 rfl (zh.ev rfl) (zh.ev rfl) zk) ?_
        refine WL.nil (WE.sub (K' := [(0, .agg #[.slice a sg.length c]), (1, .agg #[.bool o.lpo, .slice p1 o.prec.length k1, .slice p2 o.weights.length k2, .int .i64 o.var]), (2, .agg #[.int .i64 t.f, .slice et t.args.length dt]), (3, .pointer (some ⟨g2, 0, none⟩)), (4, .pointer (some ⟨g9, 0, none⟩)), (5, .pointer (some ⟨g17, 0, none⟩)), (7, .slice qa t.places.length qc), (8, .int .i64 (((k : Nat) : Int))), (19, .bool (((greatB [t]) || (!(fitsB sg o [t]))))), (26, .bool ((decide ((((k : Nat) : Int) : Int) < (((t.places.length : Nat) : Int) : Int)))))]) ⟨rfl, rfl, rfl, rfl, rfl, rfl, rfl, rfl, rfl, rfl, trivial⟩ ?_)
        refine WE.next ?_
        refine WC.cond rfl (fun h49 => ?_) (fun h49 => ?_)
        · have h49 : (((k : Nat) : Int) : Int) < (((t.places.length : Nat) : Int) : Int) := by simpa using h49
          refine WC.skip ?_
          refine WE.next ?_
          refine WC.seq ?_
          refine WC.block ?_
          refine WC.seq ?_
          obtain ⟨b50, o51, P52, PC53, A54, C55, ha56, hc57⟩ := plsOpen hqI
          refine WC.opt [(true, .val (.agg #[.bool o.lpo, .slice p1 o.prec.length k1, .slice p2 o.weights.length k2, .int .i64 o.var])), (true, .val (.agg #[.int .i64 t.f, .slice et t.args.length dt])), (true, .val (.slice qa t.places.length qc)), (true, .val (.int .i64 (((k : Nat) : Int)))), (true, .val (.pointer (some ⟨b50, o51 + k * 3, none⟩))), (true, .val (.pointer (some ⟨b50, o51 + k * 3 + 1, none⟩))), (true, .val (.agg #[.int .i64 ((pget t.places k).2.f), .slice ((A54 k)) ((pget t.places k).2.args.length) ((C55 k))])), (true, .val (.bool ((o.lcmp t ((pget t.places k).2) == 3)))), (true, .val (.bool ((!(o.lcmp t ((pget t.places k).2) == 3)))))] [(0, .agg #[.slice a sg.length c]), (1, .agg #[.bool o.lpo, .slice p1 o.prec.length k1, .slice p2 o.weights.length k2, .int .i64 o.var]), (2, .agg #[.int .i64 t.f, .slice et t.args.length dt]), (3, .pointer (some ⟨g2, 0, none⟩)), (4, .pointer (some ⟨g9, 0, none⟩)), (5, .pointer (some ⟨g17, 0, none⟩)), (7, .slice qa t.places.length qc), (8, .int .i64 (((k : Nat) : Int))), (19, .bool (((greatB [t]) || (!(fitsB sg o [t]))))), (26, .bool ((decide ((((k : Nat) : Int) : Int) < (((t.places.length : Nat) : Int) : Int)))))] ⟨rfl, rfl, rfl, rfl, rfl, rfl, rfl, rfl, rfl, rfl, trivial⟩ (by kernel_rfl) (by kernel_rfl) (by kernel_rfl) ?_ ?_
          · refine ⟨⟨true, .none rfl, fun h w => optUndef h, fun zβ za zw zc => ?_⟩, ?_⟩
            · exact ld_24 rfl (zc.kn.ev rfl) (bkeeps zc.below _ _ ((hB47.cell 0).trans rfl)) (bkeeps zc.below _ _ ((hB47.cell 1).trans rfl)) (bkeeps zc.below _ _ ((hB47.cell 2).trans rfl)) (bkeeps zc.below _ _ ((hB47.cell 3).trans rfl)) ⟨_, rfl, Below.refl _ _, optDef zβ rfl⟩
            refine ⟨⟨true, .none rfl, fun h w => optUndef h, fun zβ za zw zc => ?_⟩, ?_⟩
            · exact ld_27 rfl (zc.kn.ev rfl) (bkeeps zc.below _ _ ((hB48.cell 0).trans rfl)) (bkeeps zc.below _ _ ((hB48.cell 1).trans rfl)) ⟨_, rfl, Below.refl _ _, optDef zβ rfl⟩
            refine ⟨⟨true, .none rfl, fun h w => optUndef h, fun zβ za zw zc => ?_⟩, ?_⟩
            · exact wp_move rfl (zc.kn.ev rfl) ⟨_, rfl, Below.refl _ _, optDef zβ rfl⟩
            refine ⟨⟨true, .none rfl, fun h w => optUndef h, fun zβ za zw zc => ?_⟩, ?_⟩
            · exact wp_move rfl (zc.kn.ev rfl) ⟨_, rfl, Below.refl _ _, optDef zβ rfl⟩
            refine ⟨⟨true, .none rfl, fun h w => optUndef h, fun zβ za zw zc => ?_⟩, ?_⟩
            · exact ix_40 (k := k) rfl ((show za.eval (.tmp 31) = za.tmps.getD 31 undef from rfl).trans (optVal (zc.dep 2 31 (by kernel_rfl)) rfl rfl)) (ha56 k (by first | omega | (simp; omega))) ((show za.eval (.tmp 32) = za.tmps.getD 32 undef from rfl).trans (optVal (zc.dep 3 32 (by kernel_rfl)) rfl rfl)) (by first | omega | (simp; omega)) ⟨_, rfl, Below.refl _ _, optDef zβ rfl⟩
            refine ⟨⟨true, .none rfl, fun h w => optUndef h, fun zβ za zw zc => ?_⟩, ?_⟩
            · exact fld_44_1 rfl ((show za.eval (.tmp 33) = za.tmps.getD 33 undef from rfl).trans (optVal (zc.dep 4 33 (by kernel_rfl)) rfl rfl)) ⟨_, rfl, Below.refl _ _, optDef zβ rfl⟩
            refine ⟨⟨true, .none rfl, fun h w => optUndef h, fun zβ za zw zc => ?_⟩, ?_⟩
            · exact ld_27 rfl ((show za.eval (.tmp 34) = za.tmps.getD 34 undef from rfl).trans (optVal (zc.dep 5 34 (by kernel_rfl)) rfl rfl)) (bkeeps (bstep hb45 zc.below) _ _ (hc57 k (by first | omega | (simp; omega))).2.1) (bkeeps (bstep hb45 zc.below) _ _ (hc57 k (by first | omega | (simp; omega))).2.2.1) ⟨_, rfl, Below.refl _ _, optDef zβ rfl⟩
            refine ⟨⟨true, .none rfl, fun h w => optUndef h, fun zβ za zw zc => ?_⟩, ?_⟩
            · exact wp_call (by kernel_rfl) rfl (hv3 ((show za.eval (.tmp 29) = za.tmps.getD 29 undef from rfl).trans (optVal (zc.dep 0 29 (by kernel_rfl)) rfl rfl)) ((show za.eval (.tmp 30) = za.tmps.getD 30 undef from rfl).trans (optVal (zc.dep 1 30 (by kernel_rfl)) rfl rfl)) ((show za.eval (.tmp 35) = za.tmps.getD 35 undef from rfl).trans (optVal (zc.dep 6 35 (by kernel_rfl)) rfl rfl))) (lpoAbove_any o t ((pget t.places k).2) _ _ _ _ zt (Nat.le_trans (part_size (places_proper (k := k) (by omega) (by omega))) zt) (hot.below (bstep hb44 zc.below)) (IsT.below (bstep hb44 zc.below) ht) (IsT.below (bstep hb45 zc.below) (hc57 k (by first | omega | (simp; omega))).2.2.2.2)) (fun v w' h => ⟨v, rfl, h.2, optDef zβ h.1⟩)
            refine ⟨⟨true, .none rfl, fun h w => optUndef h, fun zβ za zw zc => ?_⟩, ?_⟩
            · exact wp_not rfl ((show za.eval (.tmp 36) = za.tmps.getD 36 undef from rfl).trans (optVal (zc.dep 7 36 (by kernel_rfl)) rfl rfl)) ⟨_, rfl, Below.refl _ _, optDef zβ rfl⟩
            exact trivial
          · intro za w58 zh hb59 zu
            have zh := zh.cons (d := 37) (v := .bool ((!(o.lcmp t ((pget t.places k).2) == 3)))) (optVal (zu 8 37 (by kernel_rfl)) rfl rfl)
            clear zu
            refine (show WE _ [(0, .agg #[.slice a sg.length c]), (1, .agg #[.bool o.lpo, .slice p1 o.prec.length k1, .slice p2 o.weights.length k2, .int .i64 o.var]), (2, .agg #[.int .i64 t.f, .slice et t.args.length dt]), (3, .pointer (some ⟨g2, 0, none⟩)), (4, .pointer (some ⟨g9, 0, none⟩)), (5, .pointer (some ⟨g17, 0, none⟩)), (7, .slice qa t.places.length qc), (8, .int .i64 (((k : Nat) : Int))), (19, .bool (((greatB [t]) || (!(fitsB sg o [t]))))), (26, .bool ((decide ((((k : Nat) : Int) : Int) < (((t.places.length : Nat) : Int) : Int))))), (37, .bool ((!(o.lcmp t ((pget t.places k).2) == 3))))] w58 _ .normal from ?_) za (zh.sub ⟨rfl, rfl, rfl, rfl, rfl, rfl, rfl, rfl, rfl, rfl, rfl, trivial⟩)
            refine WE.next ?_
            refine WC.cond rfl (fun h60 => ?_) (fun h60 => ?_)
            · have h60 : ¬ ((o.lcmp t ((pget t.places k).2) == 3) = true) := by simpa using h60
              exact absurd h60 (by have hpp := places_proper (t := t) (k := k) (by omega) (by omega); have z := Od.lcmp_above (o := o) kt (lknows_part hpp kt); rw [Od.lg_part hpp kt] at z; simp [z])
            · have h60 : ¬ (¬ ((o.lcmp t ((pget t.places k).2) == 3) = true)) := by simpa using h60
              refine WC.skip ?_
              refine WE.blockNormal ?_
              refine WE.next ?_
              refine WC.region ?_
              refine WL.val (.int .i64 (((k : Nat) : Int))) rfl rfl rfl (fun za zC zh zk => wp_move rfl (zh.ev rfl) zk) ?_
              refine WL.val (.int .i64 ((((k + 1) : Nat) : Int))) rfl rfl rfl (fun za zC zh zk => addb_3 rfl (zh.ev rfl) (zh.ev rfl) (wrap_eq (by omega) (by omega) (by omega)) zk) ?_
              refine WL.val (.int .i64 ((((k + 1) : Nat) : Int))) rfl rfl rfl (fun za zC zh zk => wp_assign rfl (zh.ev rfl) zk) ?_
              refine WL.nil (WE.sub (K' := [(0, .agg #[.slice a sg.length c]), (1, .agg #[.bool o.lpo, .slice p1 o.prec.length k1, .slice p2 o.weights.length k2, .int .i64 o.var]), (2, .agg #[.int .i64 t.f, .slice et t.args.length dt]), (3, .pointer (some ⟨g2, 0, none⟩)), (4, .pointer (some ⟨g9, 0, none⟩)), (5, .pointer (some ⟨g17, 0, none⟩)), (7, .slice qa t.places.length qc), (8, .int .i64 ((((k + 1) : Nat) : Int))), (19, .bool (((greatB [t]) || (!(fitsB sg o [t]))))), (26, .bool ((decide ((((k : Nat) : Int) : Int) < (((t.places.length : Nat) : Int) : Int))))), (37, .bool ((!(o.lcmp t ((pget t.places k).2) == 3))))]) ⟨rfl, rfl, rfl, rfl, rfl, rfl, rfl, rfl, rfl, rfl, rfl, trivial⟩ ?_)
              refine WE.round (k + 1) ⟨rfl, rfl, rfl, rfl, rfl, rfl, rfl, rfl, rfl, trivial⟩ ?_ ?_
              · have hb61 : Below w.heap.size w w58 := (bstep hb44 hb59)
                have hb62 : Below w37.heap.size w37 w58 := (bstep hb45 hb59)
                have hB63 := hB46.below hb59
                have hB64 := hB47.below hb59
                have hB65 := hB48.below hb59
                exact ⟨by omega, hb61, hb62, hB63, hB64, hB65⟩
              · omega
        · have h49 : ¬ ((((k : Nat) : Int) : Int) < (((t.places.length : Nat) : Int) : Int)) := by simpa using h49
          refine WC.exit ?_
          refine WE.thenExit ?_
          refine WE.thenExit ?_
          refine WE.blockIs rfl ?_
          refine WE.next ?_
          refine WC.seq ?_
          refine WC.region ?_
          refine WL.call rfl rfl rfl (fun za zh zC => wp_call (by kernel_rfl) rfl (hv0)) (wakes_any _) ?_
          rintro _ w66 ⟨rfl, hbw⟩
          refine WL.val (.bool true) rfl rfl rfl (fun za zC zh zk => wp_assign rfl (zh.ev rfl) zk) ?_
          refine WL.nil (WE.sub (K' := [(0, .agg #[.slice a sg.length c]), (1, .agg #[.bool o.lpo, .slice p1 o.prec.length k1, .slice p2 o.weights.length k2, .int .i64 o.var]), (2, .agg #[.int .i64 t.f, .slice et t.args.length dt]), (3, .pointer (some ⟨g2, 0, none⟩)), (4, .pointer (some ⟨g9, 0, none⟩)), (5, .pointer (some ⟨g17, 0, none⟩)), (6, .bool true), (7, .slice qa t.places.length qc), (8, .int .i64 (((k : Nat) : Int))), (19, .bool (((greatB [t]) || (!(fitsB sg o [t]))))), (26, .bool ((decide ((((k : Nat) : Int) : Int) < (((t.places.length : Nat) : Int) : Int)))))]) ⟨rfl, rfl, rfl, rfl, rfl, rfl, rfl, rfl, rfl, rfl, rfl, trivial⟩ ?_)
          refine WE.next ?_
          refine WC.ret ?_
          refine WE.ret1 rfl rfl ?_
          have hb67 : Below w.heap.size w w66 := (bstep hb44 hbw)
          exact ⟨_, rfl, rfl, hb67⟩

end Go.Proofs.Ytlkiabgpnboicaa

/- A region that draws its order, of which some operations change the memory, in whatever order, and the others only read: walked once. -/
namespace Go.Proofs.Ytlkiabgpnboicaa.Old
set_option maxRecDepth 100000
open Go.RowKit Go

section
variable {P : Program} {ops : Array Oper}

structure CtxM (ops : Array Oper) (chain : List Nat) (R : Nat → Value → Prop) (G : List (Option Value) → World → Prop) (tmps : Array Value) (i : Nat) (o : Oper) (f : Nat → Value) (w : World) (vs : List (Option Value)) : Prop where
  now : G vs w
  keep : ∀ d, (dstsOf ops).contains d = false → f d = tmps.getD d undef
  dep : ∀ j d, depB ops o j d = true → chain.contains j = false → R j (f d)
  len : vs.length = chain.length
  link : ∀ (p c d : Nat), chain[p]? = some c → depB ops o c d = true → vs[p]? = some (some (f d))
  done : ∀ (p c : Nat), chain[p]? = some c → o.after.any (fun e => e.on == c && Region.binds .any e) = true → ∃ v, vs[p]? = some (some v)
  most : ∀ (p c : Nat), chain[p]? = some c → afterB ops c i = true → vs[p]? = some none

def SoundM (P : Program) (ops : Array Oper) (Q : Exit → Act → World → Prop) (chain : List Nat) (R : Nat → Value → Prop) (G : List (Option Value) → World → Prop) (tmps : Array Value) (defers : List Deferred) (i : Nat) (o : Oper) : Prop :=
  (chain.contains i = false ∧ ∃ β, GuardC R chain o β ∧ (β = false → R i undef) ∧
    (β = true → ∀ (f : Nat → Value) (w : World) (vs : List (Option Value)), CtxM ops chain R G tmps i o f w vs →
      o.wp P ⟨((List.range tmps.size).map f).toArray, defers⟩ w (fun a' w' => ∃ v, a' = Act.put ⟨((List.range tmps.size).map f).toArray, defers⟩ o.dst v ∧ w' = w ∧ R i v) Q)) ∨
  (∃ p, chain[p]? = some i ∧ o.guard = none ∧ ∀ (f : Nat → Value) (w : World) (vs : List (Option Value)), CtxM ops chain R G tmps i o f w vs → vs[p]? = some none →
      o.wp P ⟨((List.range tmps.size).map f).toArray, defers⟩ w (fun a' w' => ∃ v, a' = Act.put ⟨((List.range tmps.size).map f).toArray, defers⟩ o.dst v ∧ G (vs.set p (some v)) w') Q)

def SoundFromM (P : Program) (ops : Array Oper) (Q : Exit → Act → World → Prop) (chain : List Nat) (R : Nat → Value → Prop) (G : List (Option Value) → World → Prop) (tmps : Array Value) (defers : List Deferred) : Nat → List Oper → Prop
  | _, [] => True
  | k, o :: r => SoundM P ops Q chain R G tmps defers k o ∧ SoundFromM P ops Q chain R G tmps defers (k + 1) r

theorem SoundFromM.at_ {Q : Exit → Act → World → Prop} {chain : List Nat} {R : Nat → Value → Prop} {G : List (Option Value) → World → Prop} {tmps : Array Value} {defers : List Deferred} : ∀ {l : List Oper} {k : Nat}, SoundFromM P ops Q chain R G tmps defers k l → ∀ i o, l[i]? = some o → SoundM P ops Q chain R G tmps defers (k + i) o
  | [], _, _, i, o, h => by simp at h
  | x :: r, k, h, 0, o, ho => by simp at ho; subst ho; exact h.1
  | x :: r, k, h, i + 1, o, ho => by
    have := h.2.at_ i o (by simpa using ho)
    rwa [show k + 1 + i = k + (i + 1) by omega] at this

structure AtM (ops : Array Oper) (chain : List Nat) (R : Nat → Value → Prop) (G : List (Option Value) → World → Prop) (tmps : Array Value) (listed : Array Bool) (f : Nat → Value) (vs : List (Option Value)) (w : World) : Prop where
  size : listed.size = ops.size
  keep : ∀ d, (dstsOf ops).contains d = false → f d = tmps.getD d undef
  plain : ∀ i d, chain.contains i = false → listed.getD i false = true → (ops[i]?).bind (·.dst) = some d → R i (f d)
  link : ∀ p c : Nat, chain[p]? = some c → (listed.getD c false = true ↔ ∃ v, vs[p]? = some (some v))
  vals : ∀ (p c d : Nat), chain[p]? = some c → listed.getD c false = true → (ops[c]?).bind (·.dst) = some d → vs[p]? = some (some (f d))
  len : vs.length = chain.length
  closed : ∀ i o, ops[i]? = some o → listed.getD i false = true → ∀ e ∈ o.after, Region.binds .any e = true → listed.getD e.on false = true
  now : G vs w

theorem wp_any_mem {Q : Exit → Act → World → Prop} {tmps : List Value} {defers : List Deferred} {w0 : World} (chain : List Nat) (R : Nat → Value → Prop) (G : List (Option Value) → World → Prop) (m : List Bool)
    (hB : opsB ops tmps.length = true) (hnd : chain.Nodup) (hin : (chain.all fun c => Nat.blt c ops.size) = true) (hmask : maskOf ops tmps.length = m) (h0 : G (List.replicate chain.length none) w0)
    (h : SoundFromM P ops Q chain R G tmps.toArray defers 0 ops.toList)
    (hQ : ∀ (u : Nat → Value) (w : World) (vs : List (Option Value)), vs.length = chain.length → (∀ p, p < chain.length → ∃ v, vs[p]? = some (some v)) → G vs w → (∀ i d, (ops[i]?).bind (·.dst) = some d → chain.contains i = false → R i (u d)) → (∀ (p c d : Nat), chain[p]? = some c → (ops[c]?).bind (·.dst) = some d → vs[p]? = some (some (u d))) → Q .normal ⟨(finM u m 0 tmps).toArray, defers⟩ w) :
    wpAny P .any ops Q ops.size (Array.replicate ops.size false) ⟨tmps.toArray, defers⟩ w0 := by
  have hB' : opsB ops tmps.toArray.size = true := by simpa using hB
  have main : ∀ (fuel : Nat) (listed : Array Bool) (f : Nat → Value) (vs : List (Option Value)) (w : World), listed.toList.count false ≤ fuel → AtM ops chain R G tmps.toArray listed f vs w →
      wpAny P .any ops Q fuel listed ⟨((List.range tmps.toArray.size).map f).toArray, defers⟩ w := by
    intro fuel
    have done : ∀ (listed : Array Bool) (f : Nat → Value) (vs : List (Option Value)) (w : World), Region.ready .any ops listed = [] → AtM ops chain R G tmps.toArray listed f vs w →
      Q .normal ⟨((List.range tmps.toArray.size).map f).toArray, defers⟩ w := by
      intro listed f vs w hr H
      have all : ∀ i, i < ops.size → listed.getD i false = true := fun i hi => by
        have := ready_nil hB' H.size hr i hi
        have hs := H.size
        simpa [Array.getD, show i < listed.size by omega] using this
      have hin' : ∀ p c, chain[p]? = some c → c < ops.size := fun p c hc => by
        have := List.all_eq_true.1 hin _ (List.mem_of_getElem? hc)
        simpa [Nat.blt_eq] using this
      have lt_of : ∀ i d, (ops[i]?).bind (·.dst) = some d → i < ops.size := fun i d hd => by
        rcases Nat.lt_or_ge i ops.size with h | h
        · exact h
        · simp [Array.getElem?_eq_none h] at hd
      have := hQ f w vs H.len (fun p hp => (H.link p chain[p] (by simp [hp])).1 (all _ (hin' p _ (by simp [hp])))) H.now (fun i d hd hc => H.plain i d hc (all i (lt_of i d hd)) hd) (fun p c d hc hd => H.vals p c d hc (all c (hin' p c hc)) hd)
      rw [← hmask, maskOf, List.range_eq_range', finM_fin] at this
      have e : fin (dstsOf ops) f 0 tmps = (List.range tmps.toArray.size).map f := by
        apply List.ext_getElem?
        intro k
        by_cases hk : k < tmps.length
        · rw [fin_at _ _ _ _ _ hk]
          simp only [List.size_toArray, Nat.zero_add, List.getElem?_map, List.getElem?_range hk, Option.map_some]
          congr 1
          cases hc : (dstsOf ops).contains k with
          | true => simp
          | false => simp [H.keep k hc, hk]
        · rw [List.getElem?_eq_none (by rw [fin_len]; simpa using hk), List.getElem?_eq_none (by simpa using hk)]
      rwa [e] at this
    induction fuel with
    | zero =>
      intro listed f vs w hc H
      have hr : Region.ready .any ops listed = [] := by
        cases hr : Region.ready .any ops listed with
        | nil => rfl
        | cons i r =>
          have := (mem_ready (md := .any) (ops := ops) (j := i) (listed := listed)).1 (by rw [hr]; simp)
          rw [count_zero hc i] at this
          simp at this
      exact ⟨hr, done listed f vs w hr H⟩
    | succ fuel ih =>
      intro listed f vs w hc H
      refine ⟨fun hr => done listed f vs w hr H, fun i hi => ?_⟩
      obtain ⟨hun, o, ho, haf⟩ := mem_ready.1 hi
      have hilt : i < ops.size := by
        rcases Nat.lt_or_ge i ops.size with h | h
        · exact h
        · simp [Array.getElem?_eq_none h] at ho
      have hils : i < listed.size := by have := H.size; omega
      have hun' := getD_false_of hun
      have ok := opsB_spec hB' ho
      have hs2 := h.at_ i o (by simpa using ho)
      rw [Nat.zero_add] at hs2
      have after_of : ∀ j d, depB ops o j d = true → listed.getD j false = true ∧ (ops[j]?).bind (·.dst) = some d := by
        intro j d hj
        simp only [depB, Bool.and_eq_true, Array.any_eq_true, beq_iff_eq] at hj
        obtain ⟨⟨k, hk, h1, h2⟩, h3⟩ := hj
        exact ⟨h1 ▸ haf _ (Array.getElem_mem hk) h2, h3⟩
      have ctx : CtxM ops chain R G tmps.toArray i o f w vs := by
        have opt : ∀ p c, chain[p]? = some c → listed.getD c false = false → vs[p]? = some none := fun p c hc hl => by
          have hp : p < vs.length := by rw [H.len]; exact (List.getElem?_eq_some_iff.1 hc).1
          rw [List.getElem?_eq_getElem hp]
          cases hx : vs[p] with
          | none => rfl
          | some v =>
            have := (H.link p c hc).2 ⟨v, by rw [List.getElem?_eq_getElem hp, hx]⟩
            rw [hl] at this; cases this
        refine ⟨H.now, H.keep, fun j d hj hc => H.plain j d hc (after_of j d hj).1 (after_of j d hj).2, H.len, fun p c d hc hj => H.vals p c d hc (after_of c d hj).1 (after_of c d hj).2, fun p c hc ha => ?_, fun p c hc ha => opt p c hc ?_⟩
        · simp only [Array.any_eq_true, Bool.and_eq_true, beq_iff_eq] at ha
          obtain ⟨k, hk, h1, h2⟩ := ha
          exact (H.link p c hc).1 (h1 ▸ haf _ (Array.getElem_mem hk) h2)
        · cases hl : listed.getD c false with
          | false => rfl
          | true =>
            exfalso
            unfold afterB at ha
            split at ha
            · rename_i oc hoc
              simp only [Array.any_eq_true, Bool.and_eq_true, beq_iff_eq] at ha
              obtain ⟨k, hk, h1, h2⟩ := ha
              have := H.closed c oc hoc hl _ (Array.getElem_mem hk) h2
              rw [h1, hun'] at this
              cases this
            · cases ha
      unfold wpOp
      simp only [ho]
      -- what is behind a step
      have step : ∀ (v : Value) (vs' : List (Option Value)) (w' : World), G vs' w' → (∀ d, o.dst = some d → chain.contains i = false → R i v) →
          ((chain.contains i = false ∧ vs' = vs) ∨ (∃ p, chain[p]? = some i ∧ vs' = vs.set p (some v))) →
          wpAny P .any ops Q fuel (listed.setIfInBounds i true) (Act.put ⟨((List.range tmps.toArray.size).map f).toArray, defers⟩ o.dst v) w' := by
        intro v vs' w' hG hRi hvs
        have hc' := count_set (l := listed) hils hun hc
        have hset : ∀ j, (listed.setIfInBounds i true).getD j false = true ↔ j = i ∨ listed.getD j false = true := by
          intro j
          by_cases hj : j = i
          · subst hj; simp [getD_set_eq hils]
          · rw [getD_set_ne false (Ne.symm hj)]; simp [hj]
        obtain ⟨f', hf', hput⟩ : ∃ f', (∀ k, f' k = match o.dst with | some d => if k = d then v else f k | none => f k) ∧ Act.put ⟨((List.range tmps.toArray.size).map f).toArray, defers⟩ o.dst v = ⟨((List.range tmps.toArray.size).map f').toArray, defers⟩ := by
          cases hd : o.dst with
          | none => exact ⟨f, fun k => rfl, rfl⟩
          | some d =>
            have hdlt := ok.lt d hd
            refine ⟨fun k => if k = d then v else f k, fun k => rfl, ?_⟩
            simp only [Act.put, Act.mk.injEq, and_true]
            apply Array.ext_getElem?
            intro k
            rw [Array.getElem?_setIfInBounds]
            by_cases hk : k < tmps.toArray.size
            · by_cases hkd : d = k
              · subst hkd; simp at hk; simp [hk]
              · simp at hk; simp [hk, hkd, Ne.symm hkd]
            · have : ¬ d = k := fun e => hk (e ▸ hdlt)
              simp only [this, if_false]
              rw [Array.getElem?_eq_none (by simpa using hk), Array.getElem?_eq_none (by simpa using hk)]
        rw [hput]
        have hother : ∀ j k, j ≠ i → (ops[j]?).bind (·.dst) = some k → f' k = f k := by
          intro j k hji hjk
          rw [hf']
          cases hd : o.dst with
          | none => rfl
          | some d =>
            have hkd : k ≠ d := by
              rintro rfl
              have hjlt : j < ops.size := by
                rcases Nat.lt_or_ge j ops.size with h | h
                · exact h
                · simp [Array.getElem?_eq_none h] at hjk
              exact hji (ok.own k j hd hjlt hjk).symm
            simp [hkd]
        have hself : ∀ d, (ops[i]?).bind (·.dst) = some d → f' d = v := by
          intro d hd
          rw [ho] at hd
          simp only [Option.bind_some] at hd
          rw [hf', hd]; simp
        refine ih _ f' vs' w' hc' ⟨by simpa using H.size, fun d hd => ?_, fun j d hjc hj hjd => ?_, fun p c hpc => ?_, fun p c d hpc hp hcd => ?_, ?_, fun j oj hoj hj e he hb => ?_, hG⟩
        · rw [hf']
          cases hd2 : o.dst with
          | none => exact H.keep d hd
          | some d' =>
            have : d ≠ d' := by rintro rfl; rw [mem_dsts ho hd2] at hd; cases hd
            simp only [this, if_false]
            exact H.keep d hd
        · by_cases hji : j = i
          · subst hji
            rw [hself d hjd]
            rw [ho] at hjd
            exact hRi d hjd hjc
          · rw [hother j d hji hjd]
            exact H.plain j d hjc (((hset j).1 hj).resolve_left hji) hjd
        · rw [hset]
          rcases hvs with ⟨hci, rfl⟩ | ⟨q, hq, rfl⟩
          · have : c ≠ i := by
              rintro rfl
              have := List.mem_of_getElem? hpc
              simp [this] at hci
            exact ⟨fun h => (H.link p c hpc).1 (h.resolve_left this), fun h => .inr ((H.link p c hpc).2 h)⟩
          · have hpl : q < vs.length := by rw [H.len]; exact (List.getElem?_eq_some_iff.1 hq).1
            by_cases hpq : p = q
            · subst hpq
              rw [hq] at hpc
              simp only [Option.some.injEq] at hpc
              subst hpc
              exact ⟨fun _ => ⟨v, by rw [List.getElem?_set_self hpl]⟩, fun _ => .inl rfl⟩
            · have hci : c ≠ i := by
                rintro rfl
                exact hpq ((List.getElem?_inj (List.getElem?_eq_some_iff.1 hpc).1 hnd).1 (hpc.trans hq.symm))
              rw [List.getElem?_set_ne (Ne.symm hpq)]
              exact ⟨fun h => (H.link p c hpc).1 (h.resolve_left hci), fun h => .inr ((H.link p c hpc).2 h)⟩
        · rcases hvs with ⟨hci, rfl⟩ | ⟨q, hq, rfl⟩
          · have hne : c ≠ i := by
              rintro rfl
              have := List.mem_of_getElem? hpc
              simp [this] at hci
            rw [hother c d hne hcd]
            exact H.vals p c d hpc (((hset c).1 hp).resolve_left hne) hcd
          · have hpl : q < vs.length := by rw [H.len]; exact (List.getElem?_eq_some_iff.1 hq).1
            by_cases hpq : p = q
            · subst hpq
              rw [hq] at hpc
              simp only [Option.some.injEq] at hpc
              subst hpc
              rw [hself d hcd, List.getElem?_set_self hpl]
            · have hne : c ≠ i := by
                rintro rfl
                exact hpq ((List.getElem?_inj (List.getElem?_eq_some_iff.1 hpc).1 hnd).1 (hpc.trans hq.symm))
              rw [hother c d hne hcd, List.getElem?_set_ne (Ne.symm hpq)]
              exact H.vals p c d hpc (((hset c).1 hp).resolve_left hne) hcd
        · rcases hvs with ⟨hci, rfl⟩ | ⟨q, hq, rfl⟩
          · exact H.len
          · rw [List.length_set]; exact H.len
        · rw [hset]
          by_cases hji : j = i
          · subst hji
            rw [ho] at hoj
            simp only [Option.some.injEq] at hoj
            subst hoj
            exact .inr (haf e he hb)
          · exact .inr (H.closed j oj hoj (((hset j).1 hj).resolve_left hji) e he hb)
      rcases hs2 with ⟨hci, β, hg, hs1, hs2⟩ | ⟨p, hp, hgn, hs2⟩
      · have hwant : Region.wanted o (yielded ops ((List.range tmps.toArray.size).map f).toArray) = β := by
          have known : ∀ g c d b, o.guard = some (g, b) → chain.contains g = false → (∀ v, R g v → (d = true → v = .bool c) ∧ (d = false → v = undef)) → yielded ops ((List.range tmps.toArray.size).map f).toArray g = if d then some c else none := by
            intro g c dd b hgb hgc hv
            obtain ⟨⟨e, he, h1, h2⟩, d, hd⟩ := ok.guard g b hgb
            have hv := hv (f d) (H.plain g d hgc (h1 ▸ haf e he h2) hd)
            have hdlt : d < tmps.toArray.size := by
              obtain ⟨og, hog, hgd⟩ := Option.bind_eq_some_iff.1 hd
              exact (opsB_spec hB' hog).lt d hgd
            simp only [List.size_toArray] at hdlt
            unfold yielded
            rw [hd]
            cases dd with
            | true => simp [hdlt, hv.1 rfl]
            | false => simp [hdlt, hv.2 rfl, undef]
          cases hg with
          | none h => unfold Region.wanted; rw [h]
          | @yes g c d h hc hv => have := known _ _ _ _ h hc hv; unfold Region.wanted; rw [h]; simp only [this]; cases d <;> simp
          | @no g c d h hc hv => have := known _ _ _ _ h hc hv; unfold Region.wanted; rw [h]; simp only [this]; cases d <;> cases c <;> simp
        cases hβ : β with
        | false =>
          rw [hβ] at hwant
          simp only [hwant, Bool.false_eq_true, if_false]
          exact step undef vs w H.now (fun _ _ _ => hs1 hβ) (.inl ⟨hci, rfl⟩)
        | true =>
          rw [hβ] at hwant
          simp only [hwant, if_true]
          refine Or.inl (Oper.wp_mono ?_ (hs2 hβ f w vs ctx))
          rintro a' w' ⟨v, rfl, rfl, hRi⟩
          exact step v vs w' H.now (fun _ _ _ => hRi) (.inl ⟨hci, rfl⟩)
      · have hwant : Region.wanted o (yielded ops ((List.range tmps.toArray.size).map f).toArray) = true := by unfold Region.wanted; rw [hgn]
        have hnone : vs[p]? = some none := by
          have hp' : p < vs.length := by rw [H.len]; exact (List.getElem?_eq_some_iff.1 hp).1
          rw [List.getElem?_eq_getElem hp']
          cases hx : vs[p] with
          | none => rfl
          | some v =>
            have := (H.link p i hp).2 ⟨v, by rw [List.getElem?_eq_getElem hp', hx]⟩
            rw [hun'] at this; cases this
        simp only [hwant, if_true]
        refine Or.inl (Oper.wp_mono ?_ (hs2 f w vs ctx hnone))
        rintro a' w' ⟨v, rfl, hG⟩
        have hcc : chain.contains i = true := by
          have := List.mem_of_getElem? hp
          simpa using this
        exact step v (vs.set p (some v)) w' hG (fun _ _ h => by rw [hcc] at h; cases h) (.inr ⟨p, hp, rfl⟩)
  have e0 : (⟨tmps.toArray, defers⟩ : Act) = ⟨((List.range tmps.toArray.size).map (fun d => tmps.toArray.getD d undef)).toArray, defers⟩ := by
    simp only [Act.mk.injEq, and_true]
    apply Array.ext_getElem?
    intro k
    by_cases hk : k < tmps.length <;> simp [hk]
  rw [e0]
  have nothing : ∀ i, ((List.replicate ops.size false).toArray).getD i false = false := fun i => by
    by_cases h : i < ops.size <;> simp [Array.getD, h]
  have nothing' : ∀ i, (Array.replicate ops.size false).getD i false = false := fun i => by
    by_cases h : i < ops.size <;> simp [Array.getD, h]
  refine main _ _ _ (List.replicate chain.length none) _ (by simp) ⟨by simp, fun _ _ => rfl, fun i d _ hi => ?_, fun p c hpc => ?_, fun p c d _ hp => ?_, by simp, fun i o _ hi => ?_, h0⟩
  · rw [nothing'] at hi; cases hi
  · rw [nothing']
    refine ⟨fun h => (by cases h), fun ⟨v, hv⟩ => ?_⟩
    have hp := (List.getElem?_eq_some_iff.1 hpc).1
    simp [hp] at hv
  · rw [nothing'] at hp; cases hp
  · rw [nothing'] at hi; cases hi

theorem wp_region_mem {id : Nat} {dr : Bool} {Q : Exit → Act → World → Prop} {tmps : List Value} {defers : List Deferred} {w0 : World} (chain : List Nat) (R : Nat → Value → Prop) (G : List (Option Value) → World → Prop) (m : List Bool)
    (hm : P.follows .mixedOrders = true) (hB : opsB ops tmps.length = true) (hnd : chain.Nodup) (hin : (chain.all fun c => Nat.blt c ops.size) = true) (hmask : maskOf ops tmps.length = m) (h0 : G (List.replicate chain.length none) (bif dr then w0.drew else w0))
    (h : SoundFromM P ops Q chain R G tmps.toArray defers 0 ops.toList)
    (hQ : ∀ (u : Nat → Value) (w : World) (vs : List (Option Value)), vs.length = chain.length → (∀ p, p < chain.length → ∃ v, vs[p]? = some (some v)) → G vs w → (∀ i d, (ops[i]?).bind (·.dst) = some d → chain.contains i = false → R i (u d)) → (∀ (p c d : Nat), chain[p]? = some c → (ops[c]?).bind (·.dst) = some d → vs[p]? = some (some (u d))) → Q .normal ⟨(finM u m 0 tmps).toArray, defers⟩ w) :
    (Code.region id ops dr).wp P Q ⟨tmps.toArray, defers⟩ w0 := by
  cases dr with
  | true => exact wp_region_any hm (wp_any_mem chain R G m hB hnd hin hmask h0 h hQ)
  | false => exact any_start hB (wp_any_mem chain R G m hB hnd hin hmask h0 h hQ)

end
end Go.Proofs.Ytlkiabgpnboicaa.Old

/- Two terms that calls make, each put into a box of its own: 'a, b := F(..), G(..)' where both are boxed. The calls, the boxes, the stores, in whatever order. -/
namespace Go.Proofs.Ytlkiabgpnboicaa.Old
set_option maxRecDepth 100000
open Go.RowKit Go

/-- Blocks that a call may leave, but for the two boxes. -/
def Fr (B N : Nat) (g1 g2 : Option Nat) (b : Nat) : Prop := New B N b ∧ g1 ≠ some b ∧ g2 ≠ some b
def ptr (g : Nat) : Value := .pointer (some ⟨g, 0, none⟩)

structure StG (B : Nat) (w0 : World) (a b : T) (c1 c2 a1 a2 s1 s2 : Option Value) (g1 g2 : Option Nat) (w : World) : Prop where
  le : B ≤ w0.heap.size
  below : Below w0.heap.size w0 w
  p1 : a1 = g1.map ptr
  p2 : a2 = g2.map ptr
  lo : ∀ g, g1 = some g ∨ g2 = some g → w0.heap.size ≤ g
  ne : ∀ g, g1 = some g → g2 ≠ some g
  b1 : ∀ g, g1 = some g → ∃ x y, Blk w g 27 #[x, y] ∧ (s1 ≠ none → c1 = some (.agg #[x, y]))
  b2 : ∀ g, g2 = some g → ∃ x y, Blk w g 27 #[x, y] ∧ (s2 ≠ none → c2 = some (.agg #[x, y]))
  v1 : ∀ v, c1 = some v → InT (Fr B w0.heap.size g1 g2) w a v
  v2 : ∀ v, c2 = some v → InT (Fr B w0.heap.size g1 g2) w b v

def TwoG (B : Nat) (w0 : World) (a b : T) : List (Option Value) → World → Prop
  | [c1, c2, a1, a2, s1, s2], w => ∃ g1 g2, StG B w0 a b c1 c2 a1 a2 s1 s2 g1 g2 w
  | _, _ => False

section
variable {B : Nat} {w0 w : World} {a b : T} {c1 c2 a1 a2 s1 s2 : Option Value} {g1 g2 : Option Nat}

theorem StG.lt (h : StG B w0 a b c1 c2 a1 a2 s1 s2 g1 g2 w) : ∀ g, g1 = some g ∨ g2 = some g → g < w.heap.size := by
  rintro g (e | e)
  · obtain ⟨_, _, hb, _⟩ := h.b1 g e; exact hb.lt
  · obtain ⟨_, _, hb, _⟩ := h.b2 g e; exact hb.lt

theorem StG.start (hle : B ≤ w0.heap.size) (hb : Below w0.heap.size w0 w) : StG B w0 a b none none none none none none none none w :=
  ⟨hle, hb, rfl, rfl, fun _ h => by simp at h, fun _ h => by simp at h, fun _ h => by simp at h, fun _ h => by simp at h, fun _ h => by simp at h, fun _ h => by simp at h⟩

theorem StG.fresh (h : StG B w0 a b c1 c2 a1 a2 s1 s2 g1 g2 w) {w' : World} {t : T} {v : Value} (hv : InT (New B w.heap.size) w' t v) : InT (Fr B w0.heap.size g1 g2) w' t v := by
  have hlt := h.lt
  have hlo := h.lo
  have hle := h.le
  have hsz := h.below.size
  refine hv.mono fun b hb _ => ⟨hb.imp id (fun h => by omega), fun e => ?_, fun e => ?_⟩
  · have := hlt b (.inl e); have := hlo b (.inl e); rcases hb with hb | hb <;> omega
  · have := hlt b (.inr e); have := hlo b (.inr e); rcases hb with hb | hb <;> omega

theorem StG.call1 {w' : World} {v : Value} (h : StG B w0 a b none c2 a1 a2 none s2 g1 g2 w) (hv : InT (New B w.heap.size) w' a v) (hb : Below w.heap.size w w') : StG B w0 a b (some v) c2 a1 a2 none s2 g1 g2 w' := by
  refine ⟨h.le, bstep h.below hb, h.p1, h.p2, h.lo, h.ne, fun g hg => ?_, fun g hg => ?_, fun v' hv' => ?_, fun v' hv' => (h.v2 v' hv').below hb⟩
  · obtain ⟨x, y, h1, _⟩ := h.b1 g hg; exact ⟨x, y, h1.below hb, fun e => absurd rfl e⟩
  · obtain ⟨x, y, h1, h2⟩ := h.b2 g hg; exact ⟨x, y, h1.below hb, h2⟩
  · simp only [Option.some.injEq] at hv'; subst hv'; exact h.fresh hv
theorem StG.call2 {w' : World} {v : Value} (h : StG B w0 a b c1 none a1 a2 s1 none g1 g2 w) (hv : InT (New B w.heap.size) w' b v) (hb : Below w.heap.size w w') : StG B w0 a b c1 (some v) a1 a2 s1 none g1 g2 w' := by
  refine ⟨h.le, bstep h.below hb, h.p1, h.p2, h.lo, h.ne, fun g hg => ?_, fun g hg => ?_, fun v' hv' => (h.v1 v' hv').below hb, fun v' hv' => ?_⟩
  · obtain ⟨x, y, h1, h2⟩ := h.b1 g hg; exact ⟨x, y, h1.below hb, h2⟩
  · obtain ⟨x, y, h1, _⟩ := h.b2 g hg; exact ⟨x, y, h1.below hb, fun e => absurd rfl e⟩
  · simp only [Option.some.injEq] at hv'; subst hv'; exact h.fresh hv

theorem StG.keepN (h : StG B w0 a b c1 c2 a1 a2 s1 s2 g1 g2 w) {o : Obj} {t : T} {v : Value} (hv : InT (Fr B w0.heap.size g1 g2) w t v) : InT (fun b => New B w0.heap.size b ∧ b < w.heap.size ∧ g1 ≠ some b ∧ g2 ≠ some b) (w.alloc o) t v :=
  (hv.mono fun b hb hlt => ⟨hb.1, hlt, hb.2⟩).below (balloc w o)

theorem StG.alloc1 {x y : Value} (h : StG B w0 a b c1 c2 none a2 none s2 g1 g2 w) : StG B w0 a b c1 c2 (some (ptr w.heap.size)) a2 none s2 (some w.heap.size) g2 (w.alloc (.cells #[x, y] 27)) := by
  have hb := balloc w (.cells #[x, y] 27)
  have hlt := h.lt
  have hsz := h.below.size
  refine ⟨h.le, bstep h.below hb, rfl, h.p2, ?_, ?_, fun g hg => ?_, fun g hg => ?_, fun v' hv' => ?_, fun v' hv' => ?_⟩
  · rintro g (e | e)
    · simp only [Option.some.injEq] at e; omega
    · exact h.lo g (.inr e)
  · intro g e e2; simp only [Option.some.injEq] at e; have := hlt g (.inr e2); omega
  · simp only [Option.some.injEq] at hg; subst hg; exact ⟨x, y, Blk.new' rfl, fun e => absurd rfl e⟩
  · obtain ⟨x', y', h1, h2⟩ := h.b2 g hg; exact ⟨x', y', h1.below hb, h2⟩
  · exact (h.keepN (h.v1 v' hv')).mono fun b hb _ => ⟨hb.1, fun e => by simp only [Option.some.injEq] at e; omega, hb.2.2.2⟩
  · exact (h.keepN (h.v2 v' hv')).mono fun b hb _ => ⟨hb.1, fun e => by simp only [Option.some.injEq] at e; omega, hb.2.2.2⟩
theorem StG.alloc2 {x y : Value} (h : StG B w0 a b c1 c2 a1 none s1 none g1 g2 w) : StG B w0 a b c1 c2 a1 (some (ptr w.heap.size)) s1 none g1 (some w.heap.size) (w.alloc (.cells #[x, y] 27)) := by
  have hb := balloc w (.cells #[x, y] 27)
  have hlt := h.lt
  have hsz := h.below.size
  refine ⟨h.le, bstep h.below hb, h.p1, rfl, ?_, ?_, fun g hg => ?_, fun g hg => ?_, fun v' hv' => ?_, fun v' hv' => ?_⟩
  · rintro g (e | e)
    · exact h.lo g (.inl e)
    · simp only [Option.some.injEq] at e; omega
  · intro g e e2; simp only [Option.some.injEq] at e2; have := hlt g (.inl e); omega
  · obtain ⟨x', y', h1, h2⟩ := h.b1 g hg; exact ⟨x', y', h1.below hb, h2⟩
  · simp only [Option.some.injEq] at hg; subst hg; exact ⟨x, y, Blk.new' rfl, fun e => absurd rfl e⟩
  · exact (h.keepN (h.v1 v' hv')).mono fun b hb _ => ⟨hb.1, hb.2.2.1, fun e => by simp only [Option.some.injEq] at e; omega⟩
  · exact (h.keepN (h.v2 v' hv')).mono fun b hb _ => ⟨hb.1, hb.2.2.1, fun e => by simp only [Option.some.injEq] at e; omega⟩

theorem InT.far2 {S : Nat → Prop} {g : Nat} {x y v : Value} {t : T} (hg : ¬ S g) (h : InT S w t v) : InT S ((w.setCell ⟨g, 0, none⟩ x).setCell ⟨g, 1, none⟩ y) t v := New.far hg rfl (New.far hg rfl h)

theorem StG.store1 {g : Nat} {x y q : Value} (h : StG B w0 a b (some (.agg #[x, y])) c2 a1 a2 none s2 (some g) g2 w) : StG B w0 a b (some (.agg #[x, y])) c2 a1 a2 (some q) s2 (some g) g2 ((w.setCell ⟨g, 0, none⟩ x).setCell ⟨g, 1, none⟩ y) := by
  have hlo := h.lo g (.inl rfl)
  obtain ⟨x', y', hB, _⟩ := h.b1 g rfl
  refine ⟨h.le, (h.below.setCell (p := ⟨g, 0, none⟩) hlo _).setCell (p := ⟨g, 1, none⟩) hlo _, h.p1, h.p2, h.lo, h.ne, fun g' hg => ?_, fun g' hg => ?_, fun v' hv' => (h.v1 v' hv').far2 (fun e => e.2.1 rfl), fun v' hv' => (h.v2 v' hv').far2 (fun e => e.2.1 rfl)⟩
  · simp only [Option.some.injEq] at hg; subst hg
    exact ⟨x, y, by simpa using (hB.set_ 0 x).set_ 1 y, fun _ => rfl⟩
  · obtain ⟨u, v, h1, h2⟩ := h.b2 g' hg
    have hne : g' ≠ g := fun e => h.ne g rfl (by rw [← e]; exact hg)
    exact ⟨u, v, (h1.far (p := ⟨g, 0, none⟩) (by simpa using hne) _).far (p := ⟨g, 1, none⟩) (by simpa using hne) _, h2⟩
theorem StG.store2 {g : Nat} {x y q : Value} (h : StG B w0 a b c1 (some (.agg #[x, y])) a1 a2 s1 none g1 (some g) w) : StG B w0 a b c1 (some (.agg #[x, y])) a1 a2 s1 (some q) g1 (some g) ((w.setCell ⟨g, 0, none⟩ x).setCell ⟨g, 1, none⟩ y) := by
  have hlo := h.lo g (.inr rfl)
  obtain ⟨x', y', hB, _⟩ := h.b2 g rfl
  refine ⟨h.le, (h.below.setCell (p := ⟨g, 0, none⟩) hlo _).setCell (p := ⟨g, 1, none⟩) hlo _, h.p1, h.p2, h.lo, h.ne, fun g' hg => ?_, fun g' hg => ?_, fun v' hv' => (h.v1 v' hv').far2 (fun e => e.2.2 rfl), fun v' hv' => (h.v2 v' hv').far2 (fun e => e.2.2 rfl)⟩
  · obtain ⟨u, v, h1, h2⟩ := h.b1 g' hg
    have hne : g' ≠ g := fun e => h.ne g' hg (by rw [e])
    exact ⟨u, v, (h1.far (p := ⟨g, 0, none⟩) (by simpa using hne) _).far (p := ⟨g, 1, none⟩) (by simpa using hne) _, h2⟩
  · simp only [Option.some.injEq] at hg; subst hg
    exact ⟨x, y, by simpa using (hB.set_ 0 x).set_ 1 y, fun _ => rfl⟩

theorem six {vs : List (Option Value)} (h : vs.length = 6) : ∃ a b c d e f, vs = [a, b, c, d, e, f] := by
  match vs, h with
  | [a, b, c, d, e, f], _ => exact ⟨a, b, c, d, e, f, rfl⟩

theorem TwoG.out {vs : List (Option Value)} (h : TwoG B w0 a b vs w) : ∃ c1 c2 a1 a2 s1 s2 g1 g2, vs = [c1, c2, a1, a2, s1, s2] ∧ StG B w0 a b c1 c2 a1 a2 s1 s2 g1 g2 w := by
  unfold TwoG at h
  split at h
  · obtain ⟨g1, g2, h⟩ := h
    exact ⟨_, _, _, _, _, _, g1, g2, rfl, h⟩
  · exact h.elim

theorem TwoG.below {vs : List (Option Value)} (h : TwoG B w0 a b vs w) : Below w0.heap.size w0 w := by
  obtain ⟨_, _, _, _, _, _, _, _, _, h⟩ := h.out
  exact h.below
theorem TwoG.le {vs : List (Option Value)} (h : TwoG B w0 a b vs w) : B ≤ w.heap.size := by
  obtain ⟨_, _, _, _, _, _, _, _, _, h⟩ := h.out
  have := h.le
  have := h.below.size
  omega

variable {av : Act} {K : Act → World → Prop} {Q : Exit → Act → World → Prop} {o : Oper}
theorem wp_allocT (ho : o.op = .alloc 27) (hK : K (av.put o.dst (.pointer (some ⟨w.heap.size, 0, none⟩))) (w.alloc (.cells #[.int .i64 0, .slice none 0 0] 27))) : o.wp Try.prog av w K Q := by
  unfold Oper.wp execOp
  simp only [ho]
  go_simp
  exact hK
theorem wp_storeTerm {x y : Operand} {g : Nat} {f : Int} {ra : Option Addr} {rn rc : Nat} {q0 q1 : Value} (ho : o.op = .store 27 x y) (hx : av.eval x = .pointer (some ⟨g, 0, none⟩)) (hy : av.eval y = .agg #[.int .i64 f, .slice ra rn rc]) (hB : Blk w g 27 #[q0, q1])
    (hK : ∀ v, K (av.put o.dst v) ((w.setCell ⟨g, 0, none⟩ (.int .i64 f)).setCell ⟨g, 1, none⟩ (.slice ra rn rc))) : o.wp Try.prog av w K Q := by
  have h0 := hB.cell 0
  have h1 := hB.cell 1
  have f0 := hB.frozen 0
  have f1 := hB.frozen 1
  simp only [List.getElem?_toArray, List.getElem?_cons_zero, List.getElem?_cons_succ] at h0 h1
  unfold Oper.wp execOp
  simp only [ho, hx, hy]
  go_simp
  exact hK _

theorem StG.store1_op {x y : Operand} {p v : Value} (h : StG B w0 a b c1 c2 a1 a2 none s2 g1 g2 w) (ho : o.op = .store 27 x y) (hc : c1 = some v) (ha : a1 = some p) (hx : av.eval x = p) (hy : av.eval y = v)
    (hK : ∀ q w', (∃ g1 g2, StG B w0 a b c1 c2 a1 a2 (some q) s2 g1 g2 w') → K (av.put o.dst q) w') : o.wp Try.prog av w K Q := by
  subst hc ha
  have hp := h.p1
  cases g1 with
  | none => cases hp
  | some g =>
    simp only [Option.map_some, Option.some.injEq] at hp
    subst hp
    obtain ⟨_, ra, rc, hv, _⟩ := (h.v1 v rfl).form
    subst hv
    obtain ⟨x0, y0, hB, _⟩ := h.b1 g rfl
    exact wp_storeTerm ho hx hy hB (fun q => hK q _ ⟨_, _, h.store1⟩)
theorem StG.store2_op {x y : Operand} {p v : Value} (h : StG B w0 a b c1 c2 a1 a2 s1 none g1 g2 w) (ho : o.op = .store 27 x y) (hc : c2 = some v) (ha : a2 = some p) (hx : av.eval x = p) (hy : av.eval y = v)
    (hK : ∀ q w', (∃ g1 g2, StG B w0 a b c1 c2 a1 a2 s1 (some q) g1 g2 w') → K (av.put o.dst q) w') : o.wp Try.prog av w K Q := by
  subst hc ha
  have hp := h.p2
  cases g2 with
  | none => cases hp
  | some g =>
    simp only [Option.map_some, Option.some.injEq] at hp
    subst hp
    obtain ⟨_, ra, rc, hv, _⟩ := (h.v2 v rfl).form
    subst hv
    obtain ⟨x0, y0, hB, _⟩ := h.b2 g rfl
    exact wp_storeTerm ho hx hy hB (fun q => hK q _ ⟨_, _, h.store2⟩)

/-- All is done. -/
theorem StG.end_ {q1 q2 p1 p2 u1 u2 : Value} (h : StG B w0 a b (some u1) (some u2) (some p1) (some p2) (some q1) (some q2) g1 g2 w) :
    ∃ g h' x y z r, p1 = .pointer (some ⟨g, 0, none⟩) ∧ p2 = .pointer (some ⟨h', 0, none⟩) ∧ Box w g [x, y] ∧ Box w h' [z, r] ∧ IsT w a (.agg #[x, y]) ∧ IsT w b (.agg #[z, r]) := by
  have e1 := h.p1
  have e2 := h.p2
  cases g1 with
  | none => cases e1
  | some g =>
    cases g2 with
    | none => cases e2
    | some h' =>
      simp only [Option.map_some, Option.some.injEq] at e1 e2
      obtain ⟨x, y, hB, hv⟩ := h.b1 g rfl
      obtain ⟨z, r, hB', hv'⟩ := h.b2 h' rfl
      have hv := hv (by simp)
      have hv' := hv' (by simp)
      simp only [Option.some.injEq] at hv hv'
      subst hv hv'
      exact ⟨g, h', x, y, z, r, e1, e2, fun i v hi => by rw [hB.cell]; simpa using hi, fun i v hi => by rw [hB'.cell]; simpa using hi, (h.v1 _ rfl).isT, (h.v2 _ rfl).isT⟩
end
end Go.Proofs.Ytlkiabgpnboicaa.Old

/- 'x, ok := F(..)' where x is boxed: the call, its parts, the box, the store, in whatever order. -/
namespace Go.Proofs.Ytlkiabgpnboicaa.Old
set_option maxRecDepth 100000
open Go.RowKit Go

structure RpG (B : Nat) (w0 : World) (x : T) (c m e0 e1 al st as_ : Option Value) (g : Option Nat) (w : World) : Prop where
  le : B ≤ w0.heap.size
  below : Below w0.heap.size w0 w
  pc : ∀ v, c = some v → ∃ v', v = .tuple #[v', .bool true] ∧ InT (fun b => New B w0.heap.size b ∧ g ≠ some b) w x v'
  pm : ∀ v, m = some v → c = some v
  p0 : ∀ v, e0 = some v → c = some (.tuple #[v, .bool true])
  p1 : ∀ v, e1 = some v → v = .bool true
  ps : ∀ v, as_ = some v → v = .bool true
  pa : al = g.map ptr
  lo : ∀ g', g = some g' → w0.heap.size ≤ g'
  pb : ∀ g', g = some g' → ∃ y z, Blk w g' 27 #[y, z] ∧ (st ≠ none → e0 = some (.agg #[y, z]))

def PairG (B : Nat) (w0 : World) (x : T) : List (Option Value) → World → Prop
  | [c, m, e0, e1, al, st, as_], w => ∃ g, RpG B w0 x c m e0 e1 al st as_ g w
  | _, _ => False

section
variable {B : Nat} {w0 w w' : World} {x : T} {c m e0 e1 al st as_ : Option Value} {g : Option Nat}

theorem RpG.start (hle : B ≤ w0.heap.size) (hb : Below w0.heap.size w0 w) : RpG B w0 x none none none none none none none none w :=
  ⟨hle, hb, fun _ h => by simp at h, fun _ h => by simp at h, fun _ h => by simp at h, fun _ h => by simp at h, fun _ h => by simp at h, rfl, fun _ h => by simp at h, fun _ h => by simp at h⟩

theorem RpG.lt (h : RpG B w0 x c m e0 e1 al st as_ g w) : ∀ g', g = some g' → g' < w.heap.size := fun g' e => by
  obtain ⟨_, _, hb, _⟩ := h.pb g' e; exact hb.lt

theorem RpG.call {v' : Value} (h : RpG B w0 x none m e0 e1 al none as_ g w) (hv : InT (New B w.heap.size) w' x v') (hb : Below w.heap.size w w') : RpG B w0 x (some (.tuple #[v', .bool true])) m e0 e1 al none as_ g w' := by
  have hsz := h.below.size
  have hle := h.le
  refine ⟨h.le, bstep h.below hb, fun v e => ?_, fun v e => ?_, fun v e => ?_, h.p1, h.ps, h.pa, h.lo, fun g' e => ?_⟩
  · simp only [Option.some.injEq] at e; subst e
    refine ⟨v', rfl, hv.mono fun b hb _ => ⟨hb.imp id (fun h => by omega), fun e => ?_⟩⟩
    have := h.lt b e; have := h.lo b e; rcases hb with hb | hb <;> omega
  · have := h.pm v e; cases this
  · have := h.p0 v e; cases this
  · obtain ⟨y, z, h1, _⟩ := h.pb g' e; exact ⟨y, z, h1.below hb, fun e => absurd rfl e⟩

theorem RpG.move {v : Value} (h : RpG B w0 x (some v) none e0 e1 al st as_ g w) : RpG B w0 x (some v) (some v) e0 e1 al st as_ g w := ⟨h.le, h.below, h.pc, fun _ e => e, h.p0, h.p1, h.ps, h.pa, h.lo, h.pb⟩
theorem RpG.first {v' : Value} (h : RpG B w0 x (some (.tuple #[v', .bool true])) m none e1 al none as_ g w) : RpG B w0 x (some (.tuple #[v', .bool true])) m (some v') e1 al none as_ g w :=
  ⟨h.le, h.below, h.pc, h.pm, fun v e => by simp only [Option.some.injEq] at e; rw [e], h.p1, h.ps, h.pa, h.lo, fun g' e => by obtain ⟨y, z, h1, _⟩ := h.pb g' e; exact ⟨y, z, h1, fun e => absurd rfl e⟩⟩
theorem RpG.first_ {t v' : Value} (h : RpG B w0 x (some t) m none e1 al none as_ g w) (e : t = .tuple #[v', .bool true]) : RpG B w0 x (some t) m (some v') e1 al none as_ g w := by subst e; exact h.first
theorem tuple_of {P : Program} {F : FuncId} {vs : Array Value} {R : Value → World → Prop} (h : Calls P F vs w fun e w' => ∃ v', e = .returned (.tuple #[v', .bool true]) ∧ R v' w') : Calls P F vs w fun e w' => ∃ v, e = .returned v ∧ (∃ v', v = .tuple #[v', .bool true] ∧ R v' w') :=
  h.mono (by rintro e w' ⟨v', rfl, h⟩; exact ⟨_, rfl, v', rfl, h⟩)
theorem RpG.second (h : RpG B w0 x c m e0 none al st as_ g w) : RpG B w0 x c m e0 (some (.bool true)) al st as_ g w :=
  ⟨h.le, h.below, h.pc, h.pm, h.p0, fun v e => by simp only [Option.some.injEq] at e; exact e.symm, h.ps, h.pa, h.lo, h.pb⟩
theorem RpG.assign (h : RpG B w0 x c m e0 e1 al st none g w) : RpG B w0 x c m e0 e1 al st (some (.bool true)) g w :=
  ⟨h.le, h.below, h.pc, h.pm, h.p0, h.p1, fun v e => by simp only [Option.some.injEq] at e; exact e.symm, h.pa, h.lo, h.pb⟩
theorem RpG.alloc {y z : Value} (h : RpG B w0 x c m e0 e1 none none as_ g w) : RpG B w0 x c m e0 e1 (some (ptr w.heap.size)) none as_ (some w.heap.size) (w.alloc (.cells #[y, z] 27)) := by
  have hb := balloc w (.cells #[y, z] 27)
  have hsz := h.below.size
  refine ⟨h.le, bstep h.below hb, fun v e => ?_, h.pm, h.p0, h.p1, h.ps, rfl, fun g' e => by simp only [Option.some.injEq] at e; omega, fun g' e => ?_⟩
  · obtain ⟨v', e', hv⟩ := h.pc v e
    refine ⟨v', e', (hv.mono (S' := fun b => New B w0.heap.size b ∧ b < w.heap.size) fun b hb hlt => ⟨hb.1, hlt⟩).below hb |>.mono fun b hb _ => ⟨hb.1, fun e => ?_⟩⟩
    simp only [Option.some.injEq] at e
    omega
  · simp only [Option.some.injEq] at e; subst e; exact ⟨y, z, Blk.new' rfl, fun e => absurd rfl e⟩
theorem RpG.store {g' : Nat} {y z q : Value} (h : RpG B w0 x c m (some (.agg #[y, z])) e1 al none as_ (some g') w) : RpG B w0 x c m (some (.agg #[y, z])) e1 al (some q) as_ (some g') ((w.setCell ⟨g', 0, none⟩ y).setCell ⟨g', 1, none⟩ z) := by
  have hlo := h.lo g' rfl
  obtain ⟨y', z', hB, _⟩ := h.pb g' rfl
  refine ⟨h.le, (h.below.setCell (p := ⟨g', 0, none⟩) hlo _).setCell (p := ⟨g', 1, none⟩) hlo _, fun v e => ?_, h.pm, h.p0, h.p1, h.ps, h.pa, h.lo, fun g2 e => ?_⟩
  · obtain ⟨v', e', hv⟩ := h.pc v e
    exact ⟨v', e', hv.far2 (fun e => e.2 rfl)⟩
  · simp only [Option.some.injEq] at e; subst e
    exact ⟨y, z, by simpa using (hB.set_ 0 y).set_ 1 z, fun _ => rfl⟩

theorem seven {vs : List (Option Value)} (h : vs.length = 7) : ∃ a b c d e f g, vs = [a, b, c, d, e, f, g] := by
  match vs, h with
  | [a, b, c, d, e, f, g], _ => exact ⟨a, b, c, d, e, f, g, rfl⟩
theorem PairG.out {vs : List (Option Value)} (h : PairG B w0 x vs w) : ∃ c m e0 e1 al st as_ g, vs = [c, m, e0, e1, al, st, as_] ∧ RpG B w0 x c m e0 e1 al st as_ g w := by
  unfold PairG at h
  split at h
  · obtain ⟨g, h⟩ := h
    exact ⟨_, _, _, _, _, _, _, g, rfl, h⟩
  · exact h.elim
theorem PairG.below {vs : List (Option Value)} (h : PairG B w0 x vs w) : Below w0.heap.size w0 w := by
  obtain ⟨_, _, _, _, _, _, _, _, _, h⟩ := h.out; exact h.below
theorem PairG.le {vs : List (Option Value)} (h : PairG B w0 x vs w) : B ≤ w.heap.size := by
  obtain ⟨_, _, _, _, _, _, _, _, _, h⟩ := h.out
  have := h.le; have := h.below.size; omega

variable {av : Act} {K : Act → World → Prop} {Q : Exit → Act → World → Prop} {o : Oper}
theorem wp_extract0 {y : Operand} {u v : Value} (ho : o.op = .extract y 0) (hy : av.eval y = .tuple #[u, v]) (hK : K (av.put o.dst u) w) : o.wp Try.prog av w K Q := by
  unfold Oper.wp execOp
  simp only [ho, hy]
  go_simp
  exact hK
theorem wp_extract1 {y : Operand} {u v : Value} (ho : o.op = .extract y 1) (hy : av.eval y = .tuple #[u, v]) (hK : K (av.put o.dst v) w) : o.wp Try.prog av w K Q := by
  unfold Oper.wp execOp
  simp only [ho, hy]
  go_simp
  exact hK
theorem wp_slice1 {y : Operand} {b p n c : Nat} (ho : o.op = .slice 42 y (some (.const (.int .i64 1))) none none) (hy : av.eval y = .slice (some ⟨b, p, none⟩) (n + 1) c) (hc : n + 1 ≤ c) (_ : c ≤ 9223372036854775807) (hK : K (av.put o.dst (.slice (if c = 1 then some ⟨b, p, none⟩ else some ⟨b, p + 1, none⟩) n (c - 1))) w) : o.wp Try.prog av w K Q := by
  have h1 : (1 : Int) ≤ ((n : Int) + 1) := by omega
  have h2 : ((n : Int) + 1) ≤ (c : Int) := by omega
  have h3 : 1 ≤ n + 1 := by omega
  unfold Oper.wp execOp
  simp only [ho, hy]
  go_simp
  exact hK

theorem RpG.store_op {y z : Operand} {p v : Value} (h : RpG B w0 x c m e0 e1 al none as_ g w) (ho : o.op = .store 27 y z) (hc : e0 = some v) (ha : al = some p) (hx : av.eval y = p) (hy : av.eval z = v)
    (hK : ∀ q w', (∃ g, RpG B w0 x c m e0 e1 al (some q) as_ g w') → K (av.put o.dst q) w') : o.wp Try.prog av w K Q := by
  subst hc ha
  have hp := h.pa
  cases g with
  | none => cases hp
  | some g =>
    simp only [Option.map_some, Option.some.injEq] at hp
    subst hp
    obtain ⟨v', e', hv⟩ := h.pc _ (h.p0 v rfl)
    simp only [Value.tuple.injEq, Array.mk.injEq, List.cons.injEq, and_true] at e'
    obtain ⟨_, ra, rc, hv2, _⟩ := hv.form
    rw [← e'] at hv2
    subst hv2
    obtain ⟨x0, y0, hB, _⟩ := h.pb g rfl
    exact wp_storeTerm ho hx hy hB (fun q => hK q _ ⟨_, h.store⟩)

/-- All is done. -/
theorem RpG.end_ {q1 q2 q3 q4 q5 q6 q7 : Value} (h : RpG B w0 x (some q1) (some q2) (some q3) (some q4) (some q5) (some q6) (some q7) g w) :
    ∃ h' y z, q5 = .pointer (some ⟨h', 0, none⟩) ∧ w0.heap.size ≤ h' ∧ Blk w h' 27 #[y, z] ∧ q7 = .bool true ∧ InT (fun b => New B w0.heap.size b ∧ b ≠ h') w x (.agg #[y, z]) := by
  have e1 := h.pa
  cases g with
  | none => cases e1
  | some h' =>
    simp only [Option.map_some, Option.some.injEq] at e1
    obtain ⟨y, z, hB, hv⟩ := h.pb h' rfl
    have hv := hv (by simp)
    simp only [Option.some.injEq] at hv
    subst hv
    obtain ⟨v', e', hI⟩ := h.pc _ (h.p0 _ rfl)
    simp only [Value.tuple.injEq, Array.mk.injEq, List.cons.injEq, and_true] at e'
    rw [← e'] at hI
    exact ⟨h', y, z, e1, h.lo h' rfl, hB, h.ps _ rfl, hI.mono fun b hb _ => ⟨hb.1, fun e => hb.2 (by rw [e])⟩⟩
end
end Go.Proofs.Ytlkiabgpnboicaa.Old

/- A copy of a term: its row is its own. -/
namespace Go.Proofs.Ytlkiabgpnboicaa.Old
set_option maxRecDepth 100000
open Go.RowKit Go.Sort Go

theorem oR_mono {w : World} {base base' : Nat} {e : TypeId} {size : Nat} {v : Value} {n : Nat} {xs : List Value} (h : w.ownsRow base e size v n xs) (hb : base' ≤ base) : w.ownsRow base' e size v n xs := by
  refine ⟨h.1, h.2.imp id ?_⟩
  rintro ⟨g, cap, cur, e1, e2, r⟩
  exact ⟨g, cap, cur, e1, Nat.le_trans hb e2, r⟩

theorem Grow.rows_far {B : Nat} {w0 w : World} {y0 y1 : Value} {f : Int} {ts : List T} {r u0 u1 : Value} (h : Grow B w0 y0 y1 f ts w r r) :
    ∃ xs, ((w.setCell ⟨w0.heap.size + 1, 0, none⟩ u0).setCell ⟨w0.heap.size + 1, 1, none⟩ u1).ownsRow w0.heap.size 27 2 r ts.length xs ∧ Elems (Own B w0.heap.size r) ((w.setCell ⟨w0.heap.size + 1, 0, none⟩ u0).setCell ⟨w0.heap.size + 1, 1, none⟩ u1) ts xs := by
  obtain ⟨xs, h1, h2⟩ := h.rows
  have G := (gsetc w ⟨w0.heap.size + 1, 0, none⟩ u0).trans (gsetc (w.setCell ⟨w0.heap.size + 1, 0, none⟩ u0) ⟨w0.heap.size + 1, 1, none⟩ u1)
  have hle := h.le
  refine ⟨xs, oR_mono (h1.kept G (.inr fun e => ?_)) (by omega), Elems.mono (S := Own B (w0.heap.size + 3) r) (fun b hb _ => ⟨hb.1.imp id (fun h => by omega), hb.2⟩) (h2.keep fun p x hp hx => G.cell hx (fun e => ?_))⟩
  · have := h1.lt _ e; simp at this
  · have hp := hp.1
    simp only [Option.some.injEq] at e
    rw [e] at hp
    simp at hp
    omega

def copySp2 (w : World) (bt ot ct k : Nat) (ar : List T) (rv u x : Value) : List (Bool × Value) := [(true, .pointer (some ⟨(w.heap.size + 2), 1, none⟩)), (true, rv), (true, .pointer (some ⟨w.heap.size, 1, none⟩)), (true, .slice (some ⟨bt, ot, none⟩) ar.length ct), (true, .int .i64 k), (true, .pointer (some ⟨bt, ot + k * 2, none⟩)), (true, (.agg #[u, x])), (true, undef), (true, undef), (true, undef), (true, .pointer (some ⟨(w.heap.size + 2), 1, none⟩)), (true, undef)]

set_option maxHeartbeats 2000000 in
theorem copy_own (B : Nat) (t : T) (w : World) (v : Value) (hmax : t.size ≤ 4294967296) (hv : InT (fun b => b < B) w t v) (hB : B ≤ w.heap.size) :
    Calls Try.prog 31 #[v] w fun e w' => ∃ r, e = .returned (.agg #[.int .i64 t.f, r]) ∧ ((∃ xs, w'.ownsRow w.heap.size 27 2 r t.args.length xs ∧ Elems (Own B w.heap.size r) w' t.args xs) ∧ Below w.heap.size w w') := by
  cases t with
  | mk f ar =>
    obtain ⟨hf, at_, ct, rfl, hc, hm, hl⟩ := hv
    have hlen : ar.length ≤ 4294967295 := by
      have := T.size_eq (T.mk f ar)
      have h2 := len_sizeL ar
      simp at this; omega
    unfold maxLen at hm
    go_enter Try.func31, Try.ntmps31
    go_wp2_with (refine stop_region ?_)
    go_loopw [4] (fun i wr => ∃ (k : Nat) (rv : Value), k ≤ ar.length ∧ i = .int .i64 k ∧ Hid (Grow B w (.int .i64 f) (.slice at_ ar.length ct) f (ar.take k) wr rv rv) ∧ Hid (∃ a n c, rv = .slice a n c)) (fun i _ => ar.length - (intOf i).toNat)
    case atStart =>
      exact ⟨0, .slice none 0 0, Nat.zero_le _, rfl, .start3 hB, ⟨_, _, _, rfl⟩⟩
    case round =>
      obtain ⟨k, rv, hk, rfl, HG, hsh⟩ := hrel
      have k0 := HG.out.arg.cell 0
      have k1 := HG.out.arg.cell 1
      simp only [List.getElem?_toArray, List.getElem?_cons_zero, List.getElem?_cons_succ] at k0 k1
      by_cases hlt : k < ar.length
      · obtain ⟨bt, ot, u, x, rfl, hS, g0, g1, gt⟩ := hl.at_ k hlt
        have RC := Lib.hid (fun (w : World) => copy_any B ar[k] w (.agg #[u, x]) (by have := T.size_eq (T.mk f ar); have := T.size_le_sizeL (List.getElem_mem hlt); simp at *; omega))
        have HS := Lib.hid hS
        have Hlt := Lib.hid hlt
        have Hmax := Lib.hid hlen
        have HR := Lib.hid (show ∀ b, rv.ownBlock = some b → b < wr.heap.size from fun b hb => by obtain ⟨xs, h1, _⟩ := HG.out.rows; exact (h1.lt b hb).2)
        have HN := Lib.hid (show w.heap.size + 3 ≤ wr.heap.size from HG.out.out.lt)
        have z1 : (k : Int) < (ar.length : Int) := by omega
        have Hg0 := Lib.hid g0
        have Hg1 := Lib.hid g1
        have Hgt := Lib.hid gt
        clear g0 g1 gt
        clear hS hlen
        go_wp2_with (refine stop_region ?_)
        refine Stop.mk ?_
        refine wp_region_chain [7, 8, 9, 11] (optP (copySp2 w bt ot ct k ar rv u x)) (GrowG B w wr (.int .i64 f) (.slice (some ⟨bt, ot, none⟩) ar.length ct) f (ar.take k) rv (ar[k])) [false, false, false, false, false, false, false, false, false, false, false, false, false, false, false, true, true, true, true, true, true, true, true, true, true, true, false] (by kernel_rfl) (by kernel_rfl) (by kernel_rfl) (by decide) (by kernel_rfl) (by kernel_rfl) (⟨rfl, HG.out.drew⟩) ?_ ?_
        · refine ⟨.inl ⟨by decide, true, .none rfl, fun h => optUndef h, fun hβ fx wx vs C => ?_⟩, ?_⟩
          · exact wp_fld_apiTerm_1 rfl ((rel_eval (by kernel_rfl)).trans (show fx 3 = .pointer (some ⟨(w.heap.size + 2), 0, none⟩) from C.keep 3 (by kernel_rfl))) ⟨_, rfl, rfl, optDef hβ rfl⟩
          refine ⟨.inl ⟨by decide, true, .none rfl, fun h => optUndef h, fun hβ fx wx vs C => ?_⟩, ?_⟩
          · exact wp_ld_LapiTerm rfl ((rel_eval (by kernel_rfl)).trans (optPVal (x := .pointer (some ⟨(w.heap.size + 2), 1, none⟩)) (β := true) (C.dep 0 15 (by kernel_rfl) (by decide)) rfl rfl)) (C.now.out (Nat.le_trans (C.most 2 9 rfl (by kernel_rfl)) (by decide))) ⟨_, rfl, rfl, optDef hβ rfl⟩
          refine ⟨.inl ⟨by decide, true, .none rfl, fun h => optUndef h, fun hβ fx wx vs C => ?_⟩, ?_⟩
          · exact wp_fld_apiTerm_1 rfl ((rel_eval (by kernel_rfl)).trans (show fx 1 = .pointer (some ⟨w.heap.size, 0, none⟩) from C.keep 1 (by kernel_rfl))) ⟨_, rfl, rfl, optDef hβ rfl⟩
          refine ⟨.inl ⟨by decide, true, .none rfl, fun h => optUndef h, fun hβ fx wx vs C => ?_⟩, ?_⟩
          · exact wp_ld_LapiTerm rfl ((rel_eval (by kernel_rfl)).trans (optPVal (x := .pointer (some ⟨w.heap.size, 1, none⟩)) (β := true) (C.dep 2 17 (by kernel_rfl) (by decide)) rfl rfl)) (C.now.arg.2) ⟨_, rfl, rfl, optDef hβ rfl⟩
          refine ⟨.inl ⟨by decide, true, .none rfl, fun h => optUndef h, fun hβ fx wx vs C => ?_⟩, ?_⟩
          · exact wp_move rfl ((rel_eval (by kernel_rfl)).trans (show fx 4 = .int .i64 k from C.keep 4 (by kernel_rfl))) ⟨_, rfl, rfl, optDef hβ rfl⟩
          refine ⟨.inl ⟨by decide, true, .none rfl, fun h => optUndef h, fun hβ fx wx vs C => ?_⟩, ?_⟩
          · exact wp_ix_LapiTerm rfl ((rel_eval (by kernel_rfl)).trans (optPVal (x := .slice (some ⟨bt, ot, none⟩) ar.length ct) (β := true) (C.dep 3 18 (by kernel_rfl) (by decide)) rfl rfl)) ((rel_eval (by kernel_rfl)).trans (optPVal (x := .int .i64 k) (β := true) (C.dep 4 19 (by kernel_rfl) (by decide)) rfl rfl)) (Hlt.out) ⟨_, rfl, rfl, optDef hβ rfl⟩
          refine ⟨.inl ⟨by decide, true, .none rfl, fun h => optUndef h, fun hβ fx wx vs C => ?_⟩, ?_⟩
          · exact wp_ld_apiTerm rfl ((rel_eval (by kernel_rfl)).trans (optPVal (x := .pointer (some ⟨bt, ot + k * 2, none⟩)) (β := true) (C.dep 5 20 (by kernel_rfl) (by decide)) rfl rfl)) (C.now.old HS.out Hg0.out) (C.now.old HS.out Hg1.out) ⟨_, rfl, rfl, optDef hβ rfl⟩
          refine ⟨.inr ⟨0, rfl, rfl, fun fx wx vs C hlen => ?_⟩, ?_⟩
          · obtain ⟨rfl⟩ := vs_eq0 hlen
            exact wp_call (by kernel_rfl) rfl (hv1 ((rel_eval (by kernel_rfl)).trans (optPVal (x := (.agg #[u, x])) (β := true) (C.dep 6 21 (by kernel_rfl) (by decide)) rfl rfl))) (RC.out _ (C.now.oldT Hgt.out) C.now.size) (fun v w' h => ⟨v, rfl, C.now.call h.1 h.2⟩)
          refine ⟨.inr ⟨1, rfl, rfl, fun fx wx vs C hlen => ?_⟩, ?_⟩
          · obtain ⟨v0, rfl⟩ := vs_eq1 hlen
            exact wp_rowT rfl ((rel_eval (by kernel_rfl)).trans (Option.some.inj (C.link 0 7 22 rfl (by kernel_rfl))).symm) (C.now.inT) (fun u y h1 h2 h3 => ⟨_, rfl, C.now.row h1 h2 h3⟩)
          refine ⟨.inr ⟨2, rfl, rfl, fun fx wx vs C hlen => ?_⟩, ?_⟩
          · obtain ⟨v0, v1, rfl⟩ := vs_eq2 hlen
            exact wp_appendT rfl ((rel_eval (by kernel_rfl)).trans (optPVal (x := rv) (β := true) (C.dep 1 16 (by kernel_rfl) (by decide)) rfl rfl)) ((rel_eval (by kernel_rfl)).trans (Option.some.inj (C.link 1 8 23 rfl (by kernel_rfl))).symm) (by have := Hmax.out; simp; omega) C.now HR.out HN.out (fun r w' h => ⟨_, rfl, h⟩)
          refine ⟨.inl ⟨by decide, true, .none rfl, fun h => optUndef h, fun hβ fx wx vs C => ?_⟩, ?_⟩
          · exact wp_fld_apiTerm_1 rfl ((rel_eval (by kernel_rfl)).trans (show fx 3 = .pointer (some ⟨(w.heap.size + 2), 0, none⟩) from C.keep 3 (by kernel_rfl))) ⟨_, rfl, rfl, optDef hβ rfl⟩
          refine ⟨.inr ⟨3, rfl, rfl, fun fx wx vs C hlen => ?_⟩, ?_⟩
          · obtain ⟨v0, v1, v2, rfl⟩ := vs_eq3 hlen
            obtain ⟨hq, ra, rn, rc, hr⟩ := C.now.three
            subst hr
            exact wp_storeT rfl ((rel_eval (by kernel_rfl)).trans (optPVal (x := .pointer (some ⟨(w.heap.size + 2), 1, none⟩)) (β := true) (C.dep 10 25 (by kernel_rfl) (by decide)) rfl rfl)) ((rel_eval (by kernel_rfl)).trans (Option.some.inj (C.link 2 9 24 rfl (by kernel_rfl))).symm) (hq.out.cell 1) (hq.out.frozen 1) (fun v => ⟨v, rfl, C.now.store⟩)
          exact trivial
        intro ux w3 vs hlen hG hu hch
        obtain ⟨v0, v1, v2, v3, rfl⟩ := vs_eq4 hlen
        obtain ⟨hG2, hsh2⟩ := hG.four
        have HhG2 := Lib.hid hG2
        have Hhsh2 := Lib.hid hsh2
        clear hG2 hsh2
        clear hG hu hch HG hsh k0 k1
        simp only [finM]
        go_wp2_with fail
        go_roundw
        case rel => exact ⟨k + 1, v2, by omega, by go_num, by rw [List.take_succ_eq_append_getElem hlt]; exact HhG2.out, Hhsh2.out⟩
        case measure => simp [intOf]; omega
      · obtain rfl : k = ar.length := by omega
        obtain ⟨ra, rn, rc, rfl⟩ := hsh.out
        have o0 := HG.out.out.cell 0
        have o1 := HG.out.out.cell 1
        obtain ⟨x0, x1, hr⟩ := HG.out.res
        have c0 := hr.cell 0
        have c1 := hr.cell 1
        have y0 := hr.frozen 0
        have y1 := hr.frozen 1
        simp only [List.getElem?_toArray, List.getElem?_cons_zero, List.getElem?_cons_succ] at o0 o1 c0 c1
        have Hhr := Lib.hid hr
        clear hr
        go_wp2_with fail
        refine bodyPost_ret (v := .agg #[.int .i64 f, .slice ra rn rc]) (by simp [results, Try.results31, go_sem, c0, c1]) rfl ?_
        have hrow := HG.out.rows_far (u0 := .int .i64 f) (u1 := .slice ra rn rc)
        rw [List.take_length] at hrow
        exact ⟨_, rfl, hrow, (HG.out.finish (u0 := .int .i64 f) (u1 := .slice ra rn rc) hf).2⟩

end Go.Proofs.Ytlkiabgpnboicaa.Old

/- A store of a term into a row that is the call's own. -/
namespace Go.Proofs.Ytlkiabgpnboicaa.Old
open Go.RowKit Go

def StoG (W : World) (g i : Nat) (y z : Value) : List (Option Value) → World → Prop
  | [none], w => w = W
  | _, w => w = (W.setCell ⟨g, 0 + i * 2, none⟩ y).setCell ⟨g, 0 + i * 2 + 1, none⟩ z

section
variable {W w : World} {g i : Nat} {y z : Value} {vs : List (Option Value)}
theorem StoG.none_of (_ : StoG W g i y z vs w) (hl : vs.length = 1) (h : vs[0]? = some none) : vs = [none] := by
  match vs, hl, h with
  | [none], _, _ => rfl
theorem StoG.reads (h : StoG W g i y z vs w) {q : Addr} {v : Value} (hq : q.block ≠ g ∧ W.cell? q = some v) : w.cell? q = some v := by
  have hs : ∀ (W : World) (i : Nat) (u : Value), W.cell? q = some v → (W.setCell ⟨g, i, none⟩ u).cell? q = some v := fun W i u h => (gsetc W ⟨g, i, none⟩ u).cell h (by simpa using hq.1)
  unfold StoG at h
  split at h
  · rw [h]; exact hq.2
  · rw [h]; exact hs _ _ _ (hs _ _ _ hq.2)

variable {av : Act} {K : Act → World → Prop} {Q : Exit → Act → World → Prop} {o : Oper}
theorem wp_storeAt {x q : Operand} {p : Nat} {f : Int} {ra : Option Addr} {rn rc : Nat} {cur : Array Value} (ho : o.op = .store 27 x q) (hx : av.eval x = .pointer (some ⟨g, p, none⟩)) (hy : av.eval q = .agg #[.int .i64 f, .slice ra rn rc]) (hB : Blk w g 27 cur) (hp : p + 1 < cur.size)
    (hK : ∀ v, K (av.put o.dst v) ((w.setCell ⟨g, p, none⟩ (.int .i64 f)).setCell ⟨g, p + 1, none⟩ (.slice ra rn rc))) : o.wp Try.prog av w K Q := by
  have h0 := hB.cell p
  have h1 := hB.cell (p + 1)
  have f0 := hB.frozen p
  have f1 := hB.frozen (p + 1)
  rw [Array.getElem?_eq_getElem (by omega)] at h0 h1
  unfold Oper.wp execOp
  simp only [ho, hx, hy]
  go_simp
  exact hK _

theorem Elems.set {S : Nat → Prop} {t : T} (ht : InT S w t (.agg #[y, z])) : ∀ {l : List T} {xs : List Value} (i : Nat), Elems S w l xs → i < l.length → Elems S w (l.set i t) ((xs.set (i * 2) y).set (i * 2 + 1) z)
  | _ :: _, _ :: _ :: _, 0, h, _ => ⟨ht, h.2⟩
  | _ :: _, _ :: _ :: _, i + 1, h, hi => by
    rw [show (i + 1) * 2 = i * 2 + 1 + 1 by omega]
    exact ⟨h.1, Elems.set ht i h.2 (by simpa using hi)⟩
  | [], [], _, _, hi => by simp at hi
  | [], _ :: _, _, h, _ => h.elim
  | _ :: _, [], _, h, _ => h.elim
  | _ :: _, [_], _, h, _ => h.elim

/-- The row with one term another one. -/
theorem row_stored {N B : Nat} {cap : Nat} {l : List T} {xs : List Value} {t : T} {fh : Int} (hf : I64 fh) (hN : B ≤ N) (hi : i < l.length) (h1 : w.ownsRow N 27 2 (.slice (some ⟨g, 0, none⟩) l.length cap) l.length xs) (h2 : Elems (Own B N (.slice (some ⟨g, 0, none⟩) l.length cap)) w l xs) (ht : InT (Own B N (.slice (some ⟨g, 0, none⟩) l.length cap)) w t (.agg #[y, z])) :
    InT (New B N) ((w.setCell ⟨g, 0 + i * 2, none⟩ y).setCell ⟨g, 0 + i * 2 + 1, none⟩ z) (.mk fh (l.set i t)) (.agg #[.int .i64 fh, .slice (some ⟨g, 0, none⟩) l.length cap]) := by
  obtain ⟨o1, g1⟩ := h1.stored (0 + i * 2) y
  obtain ⟨o2, g2⟩ := o1.stored (0 + i * 2 + 1) z
  have G := g1.trans g2
  have kk : ∀ (p : Addr) (v : Value), Own B N (.slice (some ⟨g, 0, none⟩) l.length cap) p.block → w.cell? p = some v → ((w.setCell ⟨g, 0 + i * 2, none⟩ y).setCell ⟨g, 0 + i * 2 + 1, none⟩ z).cell? p = some v := fun p v hp hv => G.cell hv (fun e => hp.2 (by simpa [Value.ownBlock] using e.symm))
  have hE := Elems.set (ht.keep kk) i (h2.keep kk) hi
  rcases h1.2 with ⟨_, h0⟩ | ⟨g', cap', cur, e, hg, _, hc, hm, _, _⟩
  · omega
  · simp only [Value.slice.injEq, Option.some.injEq, Addr.mk.injEq, and_true, true_and] at e
    obtain ⟨rfl, rfl⟩ := e
    refine ⟨hf, some ⟨g, 0, none⟩, cap, by simp, by simpa using hc, hm, ?_⟩
    refine InTs.mono (S := New B N) (fun b hb _ => hb) (Elems.row (.inr hg) (Elems.mono (fun b hb _ => hb.1) hE) (fun j u hj => ?_))
    have := o2.cells (g := g) rfl j u (by simpa using hj)
    have e : (⟨g, 0, none⟩ : Addr).add j = ⟨g, j, none⟩ := by unfold Addr.add; split <;> simp_all
    rw [e] at this
    simpa using this
end
end Go.Proofs.Ytlkiabgpnboicaa.Old

/- The walk through the document's Put: a term with another one at a place. -/
namespace Go.Proofs.Ytlkiabgpnboicaa.Old
open Go.RowKit Go.Sort Go

def rp3 (w : World) (bp op pc bt ot ct i : Nat) (p : List Nat) (ar : List T) : List (Bool × Sp) := [(true, .val (.slice (some ⟨bp, op, none⟩) (p.length + 1) pc)), (true, .val (.pointer (some ⟨bp, op, none⟩))), (true, .val (.int .i64 i)), (true, .val (.bool (decide ((i : Int) < (0 : Int))))), (true, .val (.bool (decide ((i : Int) < (0 : Int))))), ((true && !(decide ((i : Int) < (0 : Int)))), .val (.slice (some ⟨bp, op, none⟩) (p.length + 1) pc)), ((true && !(decide ((i : Int) < (0 : Int)))), .val (.pointer (some ⟨bp, op, none⟩))), ((true && !(decide ((i : Int) < (0 : Int)))), .val (.int .i64 i)), ((true && !(decide ((i : Int) < (0 : Int)))), .val (.pointer (some ⟨w.heap.size, 1, none⟩))), ((true && !(decide ((i : Int) < (0 : Int)))), .val (.slice (some ⟨bt, ot, none⟩) ar.length ct)), ((true && !(decide ((i : Int) < (0 : Int)))), .val (.int .i64 ar.length)), ((true && !(decide ((i : Int) < (0 : Int)))), .val (.bool (decide ((ar.length : Int) ≤ (i : Int))))), (true, .val (.bool ((decide ((i : Int) < (0 : Int))) || (decide ((ar.length : Int) ≤ (i : Int))))))]
def rp5 (w : World) (s : T) (as_ : Option Addr) (bp op pc bt ot ct i cs : Nat) (p : List Nat) (ar : List T) (u x : Value) : List (Bool × Value) := [(true, .pointer (some ⟨w.heap.size, 1, none⟩)), (true, .slice (some ⟨bt, ot, none⟩) ar.length ct), (true, .slice (some ⟨bp, op, none⟩) (p.length + 1) pc), (true, .pointer (some ⟨bp, op, none⟩)), (true, .int .i64 i), (true, .pointer (some ⟨bt, ot + i * 2, none⟩)), (true, (.agg #[u, x])), (true, .slice (some ⟨bp, op, none⟩) (p.length + 1) pc), (true, .slice (if pc = 1 then some ⟨bp, op, none⟩ else some ⟨bp, op + 1, none⟩) p.length (pc - 1)), (true, (.agg #[.int .i64 s.f, .slice as_ s.args.length cs])), (true, undef), (true, undef), (true, undef), (true, undef), (true, undef), (true, undef), (true, undef)]
def rp9 (w4 : World) (bp op pc i h8 gr cap : Nat) (p : List Nat) (ar : List T) (X : T) (xa : Option Addr) (xc : Nat) : List (Bool × Value) := [(true, .pointer (some ⟨w4.heap.size, 1, none⟩)), (true, .slice (some ⟨gr, 0, none⟩) ar.length cap), (true, .slice (some ⟨bp, op, none⟩) (p.length + 1) pc), (true, .pointer (some ⟨bp, op, none⟩)), (true, .int .i64 i), (true, (.agg #[.int .i64 X.f, .slice xa X.args.length xc])), (true, .pointer (some ⟨gr, 0 + i * 2, none⟩)), (true, undef)]

set_option maxRecDepth 100000 in
set_option maxHeartbeats 8000000 in
theorem rput_any (B : Nat) (s : T) (hs : s.size ≤ 4294967290) : ∀ (p : List Nat) (t : T) (w : World) (tv pv sv : Value), t.size ≤ 4294967290 → p.length ≤ 4294967290 → InT (fun b => b < B) w t tv → PIn (fun b => b < B) w p pv → InT (fun b => b < B) w s sv → B ≤ w.heap.size → Od.Within t p →
    Calls Try.prog 19 #[tv, pv, sv] w fun e w' => ∃ v', e = .returned (.tuple #[v', .bool true]) ∧ (InT (New B w.heap.size) w' (t.into p s) v' ∧ Below w.heap.size w w') := by
  intro p
  induction p with
  | nil =>
    intro t w tv pv sv ht _ hv hp hsv hB _
    have Hsv := Lib.hid hsv
    obtain ⟨_, at_, ct, rfl, _, _, _⟩ := hv.form
    obtain ⟨_, as_, cs, rfl, _, _, _⟩ := hsv.form
    obtain ⟨pa, pc, rfl, _, _, _⟩ := hp
    have CP := fun (W : World) (h : InT (fun b => b < B) W s (.agg #[.int .i64 s.f, .slice as_ s.args.length cs])) (h2 : B ≤ W.heap.size) => copy_any B s W _ (by omega) h h2
    clear hv hsv
    go_enter Try.func19, Try.ntmps19
    go_wp2_with fail
    refine (CP _ (Hsv.out.below (bstep (balloc2 _ _ _) (balloc _ _))) (by simp; omega)).mono ?_
    rintro e w1 ⟨cv, rfl, hcv, hb1⟩
    obtain ⟨B0, B1, B2, hw1⟩ := box3 hb1
    have hR : Blk w1 (w.heap.size + 2) 27 #[.int .i64 0, .slice none 0 0] := (Blk.new' (by simp)).below hb1
    have r0 := hR.cell 0
    have r1 := hR.cell 1
    have y0 := hR.frozen 0
    have y1 := hR.frozen 1
    simp only [List.getElem?_toArray, List.getElem?_cons_zero, List.getElem?_cons_succ] at r0 r1
    obtain ⟨_, ca, cc, rfl, _, _, _⟩ := id hcv.form
    have Hhcv := Lib.hid hcv
    have Hhw1 := Lib.hid hw1
    have HB0 := Lib.hid B0
    have HB1 := Lib.hid B1
    have HB2 := Lib.hid B2
    have HhR := Lib.hid hR
    clear hcv hw1 B0 B1 B2 hR
    clear hb1 CP
    go_wp2_with fail
    refine bodyPost_ret (v := .tuple #[.agg #[.int .i64 s.f, .slice ca s.args.length cc], .bool true]) (by simp [results, Try.results19, go_sem, r0, r1]) rfl ?_
    have e : t.into [] s = s := by cases t; rfl
    rw [e]
    have hn : ¬ New B (w.heap.size + 3) (w.heap.size + 2) := by unfold New; omega
    have hcv := Hhcv.out
    simp only [World.size_alloc] at hcv
    refine ⟨_, rfl, (InT.far2 hn hcv).mono (fun b hb _ => hb.imp id (fun h => by omega)), ?_⟩
    exact (Hhw1.out.setCell (p := ⟨w.heap.size + 2, 0, none⟩) (by simp) _).setCell (p := ⟨w.heap.size + 2, 1, none⟩) (by simp) _
  | cons i p ih =>
    intro t w tv pv sv ht hpl hv hp hsv hB hW
    obtain ⟨f, ar⟩ := t
    obtain ⟨hlt, hW⟩ := hW
    have Hsv := Lib.hid hsv
    have Hv := Lib.hid hv
    obtain ⟨hf, at_, ct, rfl, hct, hctm, hl⟩ := hv
    obtain ⟨_, as_, cs, rfl, _, _, _⟩ := hsv.form
    obtain ⟨pa, pc, rfl, hpc, hpm, hcells⟩ := hp
    obtain ⟨bp, op, e, hSp, gp⟩ := hcells 0 (by simp)
    subst e
    simp only [Nat.add_zero, List.getElem_cons_zero] at gp
    have htail : PIn (fun b => b < B) w p (.slice (if pc = 1 then some ⟨bp, op, none⟩ else some ⟨bp, op + 1, none⟩) p.length (pc - 1)) := by
      simp only [List.length_cons] at hpc
      refine ⟨_, _, rfl, by omega, by unfold maxLen at *; omega, fun j hj => ?_⟩
      obtain ⟨b, o, e, hb, hc⟩ := hcells (j + 1) (by simp; omega)
      simp only [Option.some.injEq, Addr.mk.injEq, and_true] at e
      obtain ⟨rfl, rfl⟩ := e
      refine ⟨bp, op + 1, by rw [if_neg (by omega)], hb, ?_⟩
      rw [show op + 1 + j = op + (j + 1) by omega]
      simpa using hc
    obtain ⟨bt, ot, u, x, rfl, hS, g0, g1, gt⟩ := hl.at_ i hlt
    have hsi : ar[i].size ≤ 4294967290 := by
      have := T.size_eq (T.mk f ar)
      have := T.size_le_sizeL (List.getElem_mem hlt)
      simp at *
      omega
    have Hpc := Lib.hid (show p.length + 1 ≤ pc ∧ pc ≤ 9223372036854775807 from ⟨by simpa using hpc, by unfold maxLen at hpm; omega⟩)
    have Hmax := Lib.hid ht
    have HB := Lib.hid hB
    have Hpl : p.length ≤ 4294967290 := by simp at hpl; omega
    clear hsv hcells hpl
    unfold maxLen at hctm hpm
    simp only [List.length_cons] at hpc ⊢
    go_enter Try.func19, Try.ntmps19
    go_wp2_with (with_reducible refine stop_region ?_)
    have hR : Blk (((w.alloc (.cells #[.int .i64 f, .slice (some ⟨bt, ot, none⟩) ar.length ct] 27)).alloc (.cells #[.int .i64 s.f, .slice as_ s.args.length cs] 27)).alloc (.cells #[.int .i64 0, .slice none 0 0] 27)) (w.heap.size + 2) 27 #[.int .i64 0, .slice none 0 0] := Blk.new' (by simp)
    have hA := ((Blk.new' (w := w) (t := 27) (cs := #[.int .i64 f, .slice (some ⟨bt, ot, none⟩) ar.length ct]) rfl).alloc (.cells #[.int .i64 s.f, .slice as_ s.args.length cs] 27)).alloc (.cells #[.int .i64 0, .slice none 0 0] 27)
    have hS2 := (Blk.new' (w := w.alloc (.cells #[.int .i64 f, .slice (some ⟨bt, ot, none⟩) ar.length ct] 27)) (t := 27) (cs := #[.int .i64 s.f, .slice as_ s.args.length cs]) (b := w.heap.size + 1) (by simp)).alloc (.cells #[.int .i64 0, .slice none 0 0] 27)
    have hw := bstep (balloc2 w (.cells #[.int .i64 f, .slice (some ⟨bt, ot, none⟩) ar.length ct] 27) (.cells #[.int .i64 s.f, .slice as_ s.args.length cs] 27)) (balloc _ (.cells #[.int .i64 0, .slice none 0 0] 27))
    generalize (((w.alloc (.cells #[.int .i64 f, .slice (some ⟨bt, ot, none⟩) ar.length ct] 27)).alloc (.cells #[.int .i64 s.f, .slice as_ s.args.length cs] 27)).alloc (.cells #[.int .i64 0, .slice none 0 0] 27)) = W0 at hR hA hS2 hw ⊢
    have Hgp := Lib.hid (bkeeps hw _ _ gp)
    have Hk1 := Lib.hid (show W0.cell? ⟨w.heap.size, 1, none⟩ = some (.slice (some ⟨bt, ot, none⟩) ar.length ct) from hA.cell 1)
    refine Stop.mk ?_
    refine wp_region_lit (optR (rp3 w bp op pc bt ot ct i p ar)) [false, false, false, false, false, false, false, false, false, false, false, false, false, false, false, false, true, true, true, true, true, true, true, true, true, true, true, true, true, false, false, false, false, false, false, false, false, false, false, false, false, false, false, false, false, false, false, false, false, false, false, false, false, false, false, false, false] (by kernel_rfl) (by kernel_rfl) (by kernel_rfl) (optKeep _) ?_ ?_
    · refine ⟨⟨true, .none rfl, fun h w => optUndef h, fun hβ fx wx hwx hn hd => ?_⟩, ?_⟩
      · exact wp_move rfl ((rel_eval (by kernel_rfl)).trans (show fx 1 = .slice (some ⟨bp, op, none⟩) (p.length + 1) pc from hn 1 (by kernel_rfl))) ⟨_, rfl, Below.refl _ _, optDef hβ rfl⟩
      refine ⟨⟨true, .none rfl, fun h w => optUndef h, fun hβ fx wx hwx hn hd => ?_⟩, ?_⟩
      · exact wp_ix0_apiPos rfl ((rel_eval (by kernel_rfl)).trans (optVal (x := .slice (some ⟨bp, op, none⟩) (p.length + 1) pc) (β := true) (hd 0 16 (by kernel_rfl)) rfl rfl)) rfl (Nat.succ_pos _) ⟨_, rfl, Below.refl _ _, optDef hβ rfl⟩
      refine ⟨⟨true, .none rfl, fun h w => optUndef h, fun hβ fx wx hwx hn hd => ?_⟩, ?_⟩
      · exact wp_ld_int rfl ((rel_eval (by kernel_rfl)).trans (optVal (x := .pointer (some ⟨bp, op, none⟩)) (β := true) (hd 1 17 (by kernel_rfl)) rfl rfl)) (bkeeps hwx _ _ (Hgp.out)) ⟨_, rfl, Below.refl _ _, optDef hβ rfl⟩
      refine ⟨⟨true, .none rfl, fun h w => optUndef h, fun hβ fx wx hwx hn hd => ?_⟩, ?_⟩
      · exact wp_lt_int rfl ((rel_eval (by kernel_rfl)).trans (optVal (x := .int .i64 i) (β := true) (hd 2 18 (by kernel_rfl)) rfl rfl)) rfl ⟨_, rfl, Below.refl _ _, optDef hβ rfl⟩
      refine ⟨⟨true, .none rfl, fun h w => optUndef h, fun hβ fx wx hwx hn hd => ?_⟩, ?_⟩
      · exact wp_move rfl ((rel_eval (by kernel_rfl)).trans (optVal (x := .bool (decide ((i : Int) < (0 : Int)))) (β := true) (hd 3 19 (by kernel_rfl)) rfl rfl)) ⟨_, rfl, Below.refl _ _, optDef hβ rfl⟩
      refine ⟨⟨(true && !(decide ((i : Int) < (0 : Int)))), .no (c := (decide ((i : Int) < (0 : Int)))) (d := true) rfl (fun v w h => h), fun h w => optUndef h, fun hβ fx wx hwx hn hd => ?_⟩, ?_⟩
      · exact wp_move rfl ((rel_eval (by kernel_rfl)).trans (show fx 1 = .slice (some ⟨bp, op, none⟩) (p.length + 1) pc from hn 1 (by kernel_rfl))) ⟨_, rfl, Below.refl _ _, optDef hβ rfl⟩
      refine ⟨⟨(true && !(decide ((i : Int) < (0 : Int)))), .no (c := (decide ((i : Int) < (0 : Int)))) (d := true) rfl (fun v w h => h), fun h w => optUndef h, fun hβ fx wx hwx hn hd => ?_⟩, ?_⟩
      · exact wp_ix0_apiPos rfl ((rel_eval (by kernel_rfl)).trans (optVal (x := .slice (some ⟨bp, op, none⟩) (p.length + 1) pc) (β := (true && !(decide ((i : Int) < (0 : Int))))) (hd 5 21 (by kernel_rfl)) rfl hβ)) rfl (Nat.succ_pos _) ⟨_, rfl, Below.refl _ _, optDef hβ rfl⟩
      refine ⟨⟨(true && !(decide ((i : Int) < (0 : Int)))), .no (c := (decide ((i : Int) < (0 : Int)))) (d := true) rfl (fun v w h => h), fun h w => optUndef h, fun hβ fx wx hwx hn hd => ?_⟩, ?_⟩
      · exact wp_ld_int rfl ((rel_eval (by kernel_rfl)).trans (optVal (x := .pointer (some ⟨bp, op, none⟩)) (β := (true && !(decide ((i : Int) < (0 : Int))))) (hd 6 22 (by kernel_rfl)) rfl hβ)) (bkeeps hwx _ _ (Hgp.out)) ⟨_, rfl, Below.refl _ _, optDef hβ rfl⟩
      refine ⟨⟨(true && !(decide ((i : Int) < (0 : Int)))), .no (c := (decide ((i : Int) < (0 : Int)))) (d := true) rfl (fun v w h => h), fun h w => optUndef h, fun hβ fx wx hwx hn hd => ?_⟩, ?_⟩
      · exact wp_fld_apiTerm_1 rfl ((rel_eval (by kernel_rfl)).trans (show fx 3 = .pointer (some ⟨w.heap.size, 0, none⟩) from hn 3 (by kernel_rfl))) ⟨_, rfl, Below.refl _ _, optDef hβ rfl⟩
      refine ⟨⟨(true && !(decide ((i : Int) < (0 : Int)))), .no (c := (decide ((i : Int) < (0 : Int)))) (d := true) rfl (fun v w h => h), fun h w => optUndef h, fun hβ fx wx hwx hn hd => ?_⟩, ?_⟩
      · exact wp_ld_LapiTerm rfl ((rel_eval (by kernel_rfl)).trans (optVal (x := .pointer (some ⟨w.heap.size, 1, none⟩)) (β := (true && !(decide ((i : Int) < (0 : Int))))) (hd 8 24 (by kernel_rfl)) rfl hβ)) (bkeeps hwx _ _ (Hk1.out)) ⟨_, rfl, Below.refl _ _, optDef hβ rfl⟩
      refine ⟨⟨(true && !(decide ((i : Int) < (0 : Int)))), .no (c := (decide ((i : Int) < (0 : Int)))) (d := true) rfl (fun v w h => h), fun h w => optUndef h, fun hβ fx wx hwx hn hd => ?_⟩, ?_⟩
      · exact wp_len_LapiTerm rfl ((rel_eval (by kernel_rfl)).trans (optVal (x := .slice (some ⟨bt, ot, none⟩) ar.length ct) (β := (true && !(decide ((i : Int) < (0 : Int))))) (hd 9 25 (by kernel_rfl)) rfl hβ)) ⟨_, rfl, Below.refl _ _, optDef hβ rfl⟩
      refine ⟨⟨(true && !(decide ((i : Int) < (0 : Int)))), .no (c := (decide ((i : Int) < (0 : Int)))) (d := true) rfl (fun v w h => h), fun h w => optUndef h, fun hβ fx wx hwx hn hd => ?_⟩, ?_⟩
      · exact wp_ge_int rfl ((rel_eval (by kernel_rfl)).trans (optVal (x := .int .i64 i) (β := (true && !(decide ((i : Int) < (0 : Int))))) (hd 7 23 (by kernel_rfl)) rfl hβ)) ((rel_eval (by kernel_rfl)).trans (optVal (x := .int .i64 ar.length) (β := (true && !(decide ((i : Int) < (0 : Int))))) (hd 10 26 (by kernel_rfl)) rfl hβ)) ⟨_, rfl, Below.refl _ _, optDef hβ rfl⟩
      refine ⟨⟨true, .none rfl, fun h w => optUndef h, fun hβ fx wx hwx hn hd => ?_⟩, ?_⟩
      · exact wp_or rfl ((rel_eval (by kernel_rfl)).trans (optVal (x := .bool (decide ((i : Int) < (0 : Int)))) (β := true) (hd 4 20 (by kernel_rfl)) rfl rfl)) (fun hp => ((rel_eval (by kernel_rfl)).trans (optVal (x := .bool (decide ((ar.length : Int) ≤ (i : Int)))) (β := (true && !(decide ((i : Int) < (0 : Int))))) (hd 11 27 (by kernel_rfl)) rfl (bMkN hβ hp)))) ⟨_, rfl, Below.refl _ _, optDef hβ rfl⟩
      exact trivial
    intro ux w3 hb3 hu
    have eu := optVal (x := .bool ((decide ((i : Int) < (0 : Int))) || (decide ((ar.length : Int) ≤ (i : Int))))) (β := true) (hu 12 28 (by kernel_rfl)) rfl rfl
    simp only [finM]
    rw [eu]
    clear hu eu
    have hE : ((decide ((i : Int) < (0 : Int))) || (decide ((ar.length : Int) ≤ (i : Int)))) = false := by simp; omega
    rw [hE]
    go_wp2_with (with_reducible refine stop_region ?_)
    clear Hgp Hk1 hE
    have hw1 := bstep hw hb3
    have hA := hA.below hb3
    have hS2 := hS2.below hb3
    have hR := hR.below hb3
    have hltR1 := Lib.hid hR.lt
    obtain ⟨W1, hW1⟩ : ∃ W1, W1 = w3 := ⟨_, rfl⟩
    subst hW1
    have Hgp := Lib.hid (bkeeps hw1 _ _ gp)
    have Hk1 := Lib.hid (show W1.cell? ⟨w.heap.size, 1, none⟩ = some (.slice (some ⟨bt, ot, none⟩) ar.length ct) from hA.cell 1)
    have Hs0 := Lib.hid (show W1.cell? ⟨w.heap.size + 1, 0, none⟩ = some (.int .i64 s.f) from hS2.cell 0)
    have Hs1 := Lib.hid (show W1.cell? ⟨w.heap.size + 1, 1, none⟩ = some (.slice as_ s.args.length cs) from hS2.cell 1)
    have Hg0 := Lib.hid (bkeeps hw1 _ _ g0)
    have Hg1 := Lib.hid (bkeeps hw1 _ _ g1)
    have Hle := Lib.hid (Nat.le_trans hB hw1.size)
    have RC := Lib.hid (fun (W : World) (hb : Below W1.heap.size W1 W) (h2 : B ≤ W.heap.size) => ih ar[i] W _ _ _ hsi Hpl (InT.old (bstep hw1 hb) hB gt) (PIn.keep (S := fun b => b < B) (fun q y (hq : q.block < B) hy => ((bstep hw1 hb).cell (Nat.lt_of_lt_of_le hq hB)).trans hy) htail) (InT.old (bstep hw1 hb) hB Hsv.out) h2 hW)
    refine Stop.mk ?_
    refine wp_region_mem [10, 11, 12, 13, 14, 15, 16] (optP (rp5 w s as_ bp op pc bt ot ct i cs p ar u x)) (PairG B W1 (ar[i].into p s)) [false, false, false, false, false, false, false, false, true, true, false, false, false, false, false, false, false, false, false, false, false, false, false, false, false, false, false, false, false, false, true, true, true, true, true, true, true, true, true, true, true, true, true, true, false, false, false, false, false, false, false, false, false, false, false, false, false] (by kernel_rfl) (by kernel_rfl) (by decide) (by kernel_rfl) (by kernel_rfl) (⟨none, .start Hle.out ((Below.refl _ _).drew)⟩) ?_ ?_
    · refine ⟨.inl ⟨by decide, true, .none rfl, fun h => optUndef h, fun hβ fx wx vs C => ?_⟩, ?_⟩
      · exact wp_fld_apiTerm_1 rfl ((rel_eval (by kernel_rfl)).trans (show fx 3 = .pointer (some ⟨w.heap.size, 0, none⟩) from C.keep 3 (by kernel_rfl))) ⟨_, rfl, rfl, optDef hβ rfl⟩
      refine ⟨.inl ⟨by decide, true, .none rfl, fun h => optUndef h, fun hβ fx wx vs C => ?_⟩, ?_⟩
      · exact wp_ld_LapiTerm rfl ((rel_eval (by kernel_rfl)).trans (optPVal (x := .pointer (some ⟨w.heap.size, 1, none⟩)) (β := true) (C.dep 0 31 (by kernel_rfl) (by decide)) rfl rfl)) (bkeeps C.now.below _ _ Hk1.out) ⟨_, rfl, rfl, optDef hβ rfl⟩
      refine ⟨.inl ⟨by decide, true, .none rfl, fun h => optUndef h, fun hβ fx wx vs C => ?_⟩, ?_⟩
      · exact wp_move rfl ((rel_eval (by kernel_rfl)).trans (show fx 1 = .slice (some ⟨bp, op, none⟩) (p.length + 1) pc from C.keep 1 (by kernel_rfl))) ⟨_, rfl, rfl, optDef hβ rfl⟩
      refine ⟨.inl ⟨by decide, true, .none rfl, fun h => optUndef h, fun hβ fx wx vs C => ?_⟩, ?_⟩
      · exact wp_ix0_apiPos rfl ((rel_eval (by kernel_rfl)).trans (optPVal (x := .slice (some ⟨bp, op, none⟩) (p.length + 1) pc) (β := true) (C.dep 2 33 (by kernel_rfl) (by decide)) rfl rfl)) rfl (Nat.succ_pos _) ⟨_, rfl, rfl, optDef hβ rfl⟩
      refine ⟨.inl ⟨by decide, true, .none rfl, fun h => optUndef h, fun hβ fx wx vs C => ?_⟩, ?_⟩
      · exact wp_ld_int rfl ((rel_eval (by kernel_rfl)).trans (optPVal (x := .pointer (some ⟨bp, op, none⟩)) (β := true) (C.dep 3 34 (by kernel_rfl) (by decide)) rfl rfl)) (bkeeps C.now.below _ _ Hgp.out) ⟨_, rfl, rfl, optDef hβ rfl⟩
      refine ⟨.inl ⟨by decide, true, .none rfl, fun h => optUndef h, fun hβ fx wx vs C => ?_⟩, ?_⟩
      · exact wp_ix_LapiTerm rfl ((rel_eval (by kernel_rfl)).trans (optPVal (x := .slice (some ⟨bt, ot, none⟩) ar.length ct) (β := true) (C.dep 1 32 (by kernel_rfl) (by decide)) rfl rfl)) ((rel_eval (by kernel_rfl)).trans (optPVal (x := .int .i64 i) (β := true) (C.dep 4 35 (by kernel_rfl) (by decide)) rfl rfl)) (hlt) ⟨_, rfl, rfl, optDef hβ rfl⟩
      refine ⟨.inl ⟨by decide, true, .none rfl, fun h => optUndef h, fun hβ fx wx vs C => ?_⟩, ?_⟩
      · exact wp_ld_apiTerm rfl ((rel_eval (by kernel_rfl)).trans (optPVal (x := .pointer (some ⟨bt, ot + i * 2, none⟩)) (β := true) (C.dep 5 36 (by kernel_rfl) (by decide)) rfl rfl)) (bkeeps C.now.below _ _ Hg0.out) (bkeeps C.now.below _ _ Hg1.out) ⟨_, rfl, rfl, optDef hβ rfl⟩
      refine ⟨.inl ⟨by decide, true, .none rfl, fun h => optUndef h, fun hβ fx wx vs C => ?_⟩, ?_⟩
      · exact wp_move rfl ((rel_eval (by kernel_rfl)).trans (show fx 1 = .slice (some ⟨bp, op, none⟩) (p.length + 1) pc from C.keep 1 (by kernel_rfl))) ⟨_, rfl, rfl, optDef hβ rfl⟩
      refine ⟨.inl ⟨by decide, true, .none rfl, fun h => optUndef h, fun hβ fx wx vs C => ?_⟩, ?_⟩
      · exact wp_slice1 rfl ((rel_eval (by kernel_rfl)).trans (optPVal (x := .slice (some ⟨bp, op, none⟩) (p.length + 1) pc) (β := true) (C.dep 7 38 (by kernel_rfl) (by decide)) rfl rfl)) Hpc.out.1 Hpc.out.2 ⟨_, rfl, rfl, optDef hβ rfl⟩
      refine ⟨.inl ⟨by decide, true, .none rfl, fun h => optUndef h, fun hβ fx wx vs C => ?_⟩, ?_⟩
      · exact wp_ld_apiTerm rfl ((rel_eval (by kernel_rfl)).trans (show fx 5 = .pointer (some ⟨(w.heap.size + 1), 0, none⟩) from C.keep 5 (by kernel_rfl))) (bkeeps C.now.below _ _ Hs0.out) (bkeeps C.now.below _ _ Hs1.out) ⟨_, rfl, rfl, optDef hβ rfl⟩
      refine ⟨.inr ⟨0, rfl, rfl, fun fx wx vs C hnone => ?_⟩, ?_⟩
      · obtain ⟨c, m, e0, e1, al, st, asg, g, rfl, h⟩ := C.now.out
        obtain rfl : c = none := by simpa using hnone
        obtain rfl : st = none := by simpa using C.most 5 15 rfl (by kernel_rfl)
        exact wp_call (by kernel_rfl) rfl (hv3 ((rel_eval (by kernel_rfl)).trans (optPVal (x := (.agg #[u, x])) (β := true) (C.dep 6 37 (by kernel_rfl) (by decide)) rfl rfl)) ((rel_eval (by kernel_rfl)).trans (optPVal (x := .slice (if pc = 1 then some ⟨bp, op, none⟩ else some ⟨bp, op + 1, none⟩) p.length (pc - 1)) (β := true) (C.dep 8 39 (by kernel_rfl) (by decide)) rfl rfl)) ((rel_eval (by kernel_rfl)).trans (optPVal (x := (.agg #[.int .i64 s.f, .slice as_ s.args.length cs])) (β := true) (C.dep 9 40 (by kernel_rfl) (by decide)) rfl rfl))) (tuple_of (RC.out _ C.now.below C.now.le)) (fun v w' hv => by obtain ⟨v', rfl, h1, h2⟩ := hv; exact ⟨_, rfl, ⟨g, h.call h1 h2⟩⟩)
      refine ⟨.inr ⟨1, rfl, rfl, fun fx wx vs C hnone => ?_⟩, ?_⟩
      · obtain ⟨c, m, e0, e1, al, st, asg, g, rfl, h⟩ := C.now.out
        obtain rfl : m = none := by simpa using hnone
        have l0 := C.link 0 10 41 rfl (by kernel_rfl)
        simp only [List.getElem?_cons_zero, Option.some.injEq] at l0
        subst l0
        exact wp_move rfl (rel_eval (by kernel_rfl)) ⟨_, rfl, ⟨g, h.move⟩⟩
      refine ⟨.inr ⟨2, rfl, rfl, fun fx wx vs C hnone => ?_⟩, ?_⟩
      · obtain ⟨c, m, e0, e1, al, st, asg, g, rfl, h⟩ := C.now.out
        obtain rfl : e0 = none := by simpa using hnone
        have l1 := C.link 1 11 30 rfl (by kernel_rfl)
        obtain rfl : st = none := by simpa using C.most 5 15 rfl (by kernel_rfl)
        simp only [List.getElem?_cons_zero, List.getElem?_cons_succ, Option.some.injEq] at l1
        have hc := h.pm _ l1
        obtain ⟨v', e', hI⟩ := h.pc _ hc
        subst l1
        subst hc
        exact wp_extract0 rfl ((rel_eval (by kernel_rfl)).trans e') ⟨_, rfl, ⟨g, h.first_ e'⟩⟩
      refine ⟨.inr ⟨3, rfl, rfl, fun fx wx vs C hnone => ?_⟩, ?_⟩
      · obtain ⟨c, m, e0, e1, al, st, asg, g, rfl, h⟩ := C.now.out
        obtain rfl : e1 = none := by simpa using hnone
        have l1 := C.link 1 11 30 rfl (by kernel_rfl)
        simp only [List.getElem?_cons_zero, List.getElem?_cons_succ, Option.some.injEq] at l1
        obtain ⟨v', e', hI⟩ := h.pc _ (h.pm _ l1)
        exact wp_extract1 rfl ((rel_eval (by kernel_rfl)).trans e') ⟨_, rfl, ⟨g, h.second⟩⟩
      refine ⟨.inr ⟨4, rfl, rfl, fun fx wx vs C hnone => ?_⟩, ?_⟩
      · obtain ⟨c, m, e0, e1, al, st, asg, g, rfl, h⟩ := C.now.out
        obtain rfl : al = none := by simpa using hnone
        obtain rfl : st = none := by simpa using C.most 5 15 rfl (by kernel_rfl)
        exact wp_allocT rfl ⟨_, rfl, ⟨_, h.alloc⟩⟩
      refine ⟨.inr ⟨5, rfl, rfl, fun fx wx vs C hnone => ?_⟩, ?_⟩
      · obtain ⟨c, m, e0, e1, al, st, asg, g, rfl, h⟩ := C.now.out
        obtain rfl : st = none := by simpa using hnone
        have l4 := C.link 4 14 8 rfl (by kernel_rfl)
        have l2 := C.link 2 12 42 rfl (by kernel_rfl)
        exact h.store_op rfl (by simpa using l2) (by simpa using l4) (rel_eval (by kernel_rfl)) (rel_eval (by kernel_rfl)) (fun q w' hq => ⟨q, rfl, hq⟩)
      refine ⟨.inr ⟨6, rfl, rfl, fun fx wx vs C hnone => ?_⟩, ?_⟩
      · obtain ⟨c, m, e0, e1, al, st, asg, g, rfl, h⟩ := C.now.out
        obtain rfl : asg = none := by simpa using hnone
        have l3 := C.link 3 13 43 rfl (by kernel_rfl)
        simp only [List.getElem?_cons_zero, List.getElem?_cons_succ, Option.some.injEq] at l3
        exact wp_assign rfl ((rel_eval (by kernel_rfl)).trans (h.p1 _ l3)) ⟨_, rfl, ⟨g, h.assign⟩⟩
      exact trivial
    intro ux w3 vs hlen hall hG hu hch
    obtain ⟨c, m, e0, e1, al, st, asg, g, rfl, hS⟩ := hG.out
    clear hG
    obtain ⟨q1, hq1⟩ := hall 0 (by decide)
    obtain ⟨q2, hq2⟩ := hall 1 (by decide)
    obtain ⟨q3, hq3⟩ := hall 2 (by decide)
    obtain ⟨q4, hq4⟩ := hall 3 (by decide)
    obtain ⟨q5, hq5⟩ := hall 4 (by decide)
    obtain ⟨q6, hq6⟩ := hall 5 (by decide)
    obtain ⟨q7, hq7⟩ := hall 6 (by decide)
    simp only [List.getElem?_cons_zero, List.getElem?_cons_succ, Option.some.injEq] at hq1 hq2 hq3 hq4 hq5 hq6 hq7
    subst hq1 hq2 hq3 hq4 hq5 hq6 hq7
    have l8 := hch 4 14 8 rfl (by kernel_rfl)
    have l9 := hch 6 16 9 rfl (by kernel_rfl)
    simp only [List.getElem?_cons_zero, List.getElem?_cons_succ, Option.some.injEq] at l8 l9
    have hbW := hS.below
    obtain ⟨h8, y, z, r5, hlo, hB8, r7, tx⟩ := hS.end_
    have e8 := l8.symm.trans r5
    have e9 := l9.symm.trans r7
    clear l8 l9 r5 r7 hS hch hu hall RC Hgp Hk1 Hs0 Hs1 Hg0 Hg1 hlen
    simp only [finM]
    rw [e8, e9]
    clear e8 e9
    generalize hX : ar[i].into p s = X at tx
    have HX := Lib.hid hX
    clear hX
    obtain ⟨_, xa, xc, hyz, _, _, _⟩ := id tx.form
    simp only [Value.agg.injEq, Array.mk.injEq, List.cons.injEq, and_true] at hyz
    obtain ⟨rfl, rfl⟩ := hyz
    have hw2 := bstep hw1 hbW
    have hA := hA.below hbW
    have hR := hR.below hbW
    have k0 := hA.cell 0
    have k1 := hA.cell 1
    simp only [List.getElem?_toArray, List.getElem?_cons_zero, List.getElem?_cons_succ] at k0 k1
    have CO := copy_own B (.mk f ar) w3 _ (by have := Hmax.out; omega) (InT.old hw2 hB Hv.out) (Nat.le_trans hB hw2.size)
    have Htx := Lib.hid tx
    have HB8 := Lib.hid hB8
    have Hlo := Lib.hid hlo
    have Hw1 := Lib.hid hw1
    have hltW1 := Lib.hid (show w.heap.size + 2 < W1.heap.size from hltR1.out)
    have Hhw2 := Lib.hid hw2
    have HhA := Lib.hid hA
    have HhR := Lib.hid hR
    clear hw2 hA hR
    have hsz3 := Lib.hid hbW.size
    clear tx hB8 hlo hw1 hw hb3 hbW hS2
    go_wp2_with fail
    refine CO.mono ?_
    rintro e w4 ⟨r, rfl, ⟨xs, hr1, hr2⟩, hb4⟩
    clear CO k0 k1
    obtain ⟨gr, cap, hrv, hgr, hgl⟩ := hr1.form (by simp; omega)
    subst hrv
    simp only [T.args_mk, T.f_mk] at *
    have Hr1x := Lib.hid hr1
    have Hr2x := Lib.hid hr2
    have Hb4 := Lib.hid hb4
    have Hgr := Lib.hid (And.intro hgr hgl)
    clear hr1 hr2 hb4 hgr hgl
    go_wp2_with (with_reducible refine stop_region ?_)
    have hb5 := balloc w4 (.cells #[.int .i64 f, .slice (some ⟨gr, 0, none⟩) ar.length cap] 27)
    have hX10 : Blk (w4.alloc (.cells #[.int .i64 f, .slice (some ⟨gr, 0, none⟩) ar.length cap] 27)) w4.heap.size 27 #[.int .i64 f, .slice (some ⟨gr, 0, none⟩) ar.length cap] := Blk.new' rfl
    generalize (w4.alloc (.cells #[.int .i64 f, .slice (some ⟨gr, 0, none⟩) ar.length cap] 27)) = W5 at hb5 hX10 ⊢
    have hb35 := bstep Hb4.out hb5
    have hw5 := bstep Hhw2.out hb35
    have hrow := oR_below Hr1x.out hb5
    have helem := Hr2x.out.keep (fun p x _ hx => bkeeps hb5 p x hx)
    have htx := Htx.out.below hb35
    have hR5 := HhR.out.below hb35
    have hB85 := HB8.out.below hb35
    have hlt8 := HB8.out.lt
    have hBw : B ≤ w.heap.size := HB.out
    have hsz13 : W1.heap.size ≤ w3.heap.size := hsz3.out
    have hltR := HhR.out.lt
    obtain ⟨cur, hcur, hcs⟩ : ∃ cur, Blk W5 gr 27 cur ∧ cur.size = cap * 2 ∧ ar.length ≤ cap := by
      rcases hrow.2 with ⟨_, h0⟩ | ⟨g', cap', cur, e, _, hB, hc, _, hs, _⟩
      · omega
      · simp only [Value.slice.injEq, Option.some.injEq, Addr.mk.injEq, and_true, true_and] at e
        obtain ⟨rfl, rfl⟩ := e
        exact ⟨cur, hB, hs, hc⟩
    have hgr1 := Hgr.out.1
    have hgr2 := Hgr.out.2
    have Hr1 := Lib.hid (show (⟨w4.heap.size, 1, none⟩ : Addr).block ≠ gr ∧ W5.drew.cell? ⟨w4.heap.size, 1, none⟩ = some (.slice (some ⟨gr, 0, none⟩) ar.length cap) from ⟨by simp; omega, hX10.cell 1⟩)
    have Hgp := Lib.hid (show (⟨bp, op, none⟩ : Addr).block ≠ gr ∧ W5.drew.cell? ⟨bp, op, none⟩ = some (.int .i64 i) from ⟨by have := Hhw2.out.size; simp; omega, bkeeps hw5 _ _ gp⟩)
    have Hy := Lib.hid (show (⟨h8, 0, none⟩ : Addr).block ≠ gr ∧ W5.drew.cell? ⟨h8, 0, none⟩ = some (.int .i64 X.f) from ⟨by simp; omega, hB85.cell 0⟩)
    have Hz := Lib.hid (show (⟨h8, 1, none⟩ : Addr).block ≠ gr ∧ W5.drew.cell? ⟨h8, 1, none⟩ = some (.slice xa X.args.length xc) from ⟨by simp; omega, hB85.cell 1⟩)
    have HrB := Lib.hid (show Blk W5.drew gr 27 cur from hcur)
    have Hcap := Lib.hid (show 0 + i * 2 + 1 < cur.size by omega)
    have hI := row_stored (w := W5.drew) (N := W1.heap.size) (B := B) (i := i) (g := gr) (cap := cap) (l := ar) (t := X) (y := .int .i64 X.f) (z := .slice xa X.args.length xc) hf (by have := Hle.out; omega) hlt (oR_mono hrow hsz13 : W5.ownsRow _ _ _ _ _ _) (Elems.keep (w := W5) (w' := W5.drew) (fun p x _ hx => hx) (Elems.mono (fun b hb _ => ⟨hb.1.imp id (fun h => by omega), hb.2⟩) helem)) (InT.keep (w := W5) (w' := W5.drew) (fun p x _ hx => hx) ((Htx.out.mono (S' := fun b => New B W1.heap.size b ∧ b < w3.heap.size) (fun b hb hlt => ⟨hb.1, hlt⟩)).below hb35 |>.mono (fun b hb _ => ⟨hb.1, by simp only [Value.ownBlock, ne_eq, Option.some.injEq]; omega⟩)))
    refine Stop.mk ?_
    refine wp_region_mem [7] (optP (rp9 w4 bp op pc i h8 gr cap p ar X xa xc)) (StoG W5.drew gr i (.int .i64 X.f) (.slice xa X.args.length xc)) [false, false, false, false, false, false, false, false, false, false, false, false, false, false, false, false, false, false, false, false, false, false, false, false, false, false, false, false, false, false, false, false, false, false, false, false, false, false, false, false, false, false, false, false, false, false, false, false, false, true, true, true, true, true, true, true, false] (by kernel_rfl) (by kernel_rfl) (by decide) (by kernel_rfl) (by kernel_rfl) (rfl) ?_ ?_
    · refine ⟨.inl ⟨by decide, true, .none rfl, fun h => optUndef h, fun hβ fx wx vs C => ?_⟩, ?_⟩
      · exact wp_fld_apiTerm_1 rfl ((rel_eval (by kernel_rfl)).trans (show fx 10 = .pointer (some ⟨w4.heap.size, 0, none⟩) from C.keep 10 (by kernel_rfl))) ⟨_, rfl, rfl, optDef hβ rfl⟩
      refine ⟨.inl ⟨by decide, true, .none rfl, fun h => optUndef h, fun hβ fx wx vs C => ?_⟩, ?_⟩
      · exact wp_ld_LapiTerm rfl ((rel_eval (by kernel_rfl)).trans (optPVal (x := .pointer (some ⟨w4.heap.size, 1, none⟩)) (β := true) (C.dep 0 49 (by kernel_rfl) (by decide)) rfl rfl)) (C.now.reads Hr1.out) ⟨_, rfl, rfl, optDef hβ rfl⟩
      refine ⟨.inl ⟨by decide, true, .none rfl, fun h => optUndef h, fun hβ fx wx vs C => ?_⟩, ?_⟩
      · exact wp_move rfl ((rel_eval (by kernel_rfl)).trans (show fx 1 = .slice (some ⟨bp, op, none⟩) (p.length + 1) pc from C.keep 1 (by kernel_rfl))) ⟨_, rfl, rfl, optDef hβ rfl⟩
      refine ⟨.inl ⟨by decide, true, .none rfl, fun h => optUndef h, fun hβ fx wx vs C => ?_⟩, ?_⟩
      · exact wp_ix0_apiPos rfl ((rel_eval (by kernel_rfl)).trans (optPVal (x := .slice (some ⟨bp, op, none⟩) (p.length + 1) pc) (β := true) (C.dep 2 51 (by kernel_rfl) (by decide)) rfl rfl)) rfl (Nat.succ_pos _) ⟨_, rfl, rfl, optDef hβ rfl⟩
      refine ⟨.inl ⟨by decide, true, .none rfl, fun h => optUndef h, fun hβ fx wx vs C => ?_⟩, ?_⟩
      · exact wp_ld_int rfl ((rel_eval (by kernel_rfl)).trans (optPVal (x := .pointer (some ⟨bp, op, none⟩)) (β := true) (C.dep 3 52 (by kernel_rfl) (by decide)) rfl rfl)) (C.now.reads Hgp.out) ⟨_, rfl, rfl, optDef hβ rfl⟩
      refine ⟨.inl ⟨by decide, true, .none rfl, fun h => optUndef h, fun hβ fx wx vs C => ?_⟩, ?_⟩
      · exact wp_ld_apiTerm rfl ((rel_eval (by kernel_rfl)).trans (show fx 8 = .pointer (some ⟨h8, 0, none⟩) from C.keep 8 (by kernel_rfl))) (C.now.reads Hy.out) (C.now.reads Hz.out) ⟨_, rfl, rfl, optDef hβ rfl⟩
      refine ⟨.inl ⟨by decide, true, .none rfl, fun h => optUndef h, fun hβ fx wx vs C => ?_⟩, ?_⟩
      · exact wp_ix_LapiTerm rfl ((rel_eval (by kernel_rfl)).trans (optPVal (x := .slice (some ⟨gr, 0, none⟩) ar.length cap) (β := true) (C.dep 1 50 (by kernel_rfl) (by decide)) rfl rfl)) ((rel_eval (by kernel_rfl)).trans (optPVal (x := .int .i64 i) (β := true) (C.dep 4 53 (by kernel_rfl) (by decide)) rfl rfl)) (hlt) ⟨_, rfl, rfl, optDef hβ rfl⟩
      refine ⟨.inr ⟨0, rfl, rfl, fun fx wx vs C hnone => ?_⟩, ?_⟩
      · obtain rfl : vs = [none] := C.now.none_of C.len hnone
        have l0 : wx = W5.drew := C.now
        subst l0
        exact wp_storeAt rfl ((rel_eval (by kernel_rfl)).trans (optPVal (x := .pointer (some ⟨gr, 0 + i * 2, none⟩)) (β := true) (C.dep 6 55 (by kernel_rfl) (by decide)) rfl rfl)) ((rel_eval (by kernel_rfl)).trans (optPVal (x := (.agg #[.int .i64 X.f, .slice xa X.args.length xc])) (β := true) (C.dep 5 54 (by kernel_rfl) (by decide)) rfl rfl)) HrB.out (by have := Hcap.out; omega) (fun q => ⟨q, rfl, rfl⟩)
      exact trivial
    intro ux w3 vs hlen hall hG hu hch
    obtain ⟨q, hq⟩ := hall 0 (by decide)
    obtain ⟨q0, rfl⟩ : ∃ q0, vs = [q0] := by
      match vs, hlen with
      | [q0], _ => exact ⟨q0, rfl⟩
    simp only [List.getElem?_cons_zero, Option.some.injEq] at hq
    subst hq
    have hG2 : w3 = (W5.drew.setCell ⟨gr, 0 + i * 2, none⟩ (.int .i64 X.f)).setCell ⟨gr, 0 + i * 2 + 1, none⟩ (.slice xa X.args.length xc) := hG
    rw [← hG2] at hI
    have hX6 : Blk w3 w4.heap.size 27 #[.int .i64 f, .slice (some ⟨gr, 0, none⟩) ar.length cap] := by
      rw [hG2]
      exact ((show Blk W5.drew w4.heap.size _ _ from hX10).far (p := ⟨gr, 0 + i * 2, none⟩) (by simp; omega) _).far (p := ⟨gr, 0 + i * 2 + 1, none⟩) (by simp; omega) _
    have hR6 : Blk w3 (w.heap.size + 2) 27 #[.int .i64 0, .slice none 0 0] := by
      rw [hG2]
      exact ((show Blk W5.drew (w.heap.size + 2) _ _ from hR5).far (p := ⟨gr, 0 + i * 2, none⟩) (by simp; omega) _).far (p := ⟨gr, 0 + i * 2 + 1, none⟩) (by simp; omega) _
    have hw6 : Below w.heap.size w w3 := by
      have := Hhw2.out.size
      rw [hG2]
      exact (hw5.drew.setCell (p := ⟨gr, 0 + i * 2, none⟩) (by simp; omega) _).setCell (p := ⟨gr, 0 + i * 2 + 1, none⟩) (by simp; omega) _
    have hn2 : ¬ New B W1.heap.size (w.heap.size + 2) := by
      have := HhR.out.lt
      have := hltW1.out
      unfold New; omega
    have hle1 := Hle.out
    have hsz1 : w.heap.size ≤ W1.heap.size := Hw1.out.size
    have hinto : T.into (.mk f ar) (i :: p) s = .mk f (ar.set i X) := by
      rw [T.into, ← HX.out]
      congr 2
      simp [hlt]
    have o0 := hX6.cell 0
    have o1 := hX6.cell 1
    have r0 := hR6.cell 0
    have r1 := hR6.cell 1
    have y0 := hR6.frozen 0
    have y1 := hR6.frozen 1
    simp only [List.getElem?_toArray, List.getElem?_cons_zero, List.getElem?_cons_succ] at o0 o1 r0 r1
    have HhI := Lib.hid hI
    have HhX6 := Lib.hid hX6
    have HhR6 := Lib.hid hR6
    have Hhw6 := Lib.hid hw6
    have Hhn2 := Lib.hid hn2
    have Hhinto := Lib.hid hinto
    have Hhle1 := Lib.hid hle1
    have Hhsz1 := Lib.hid hsz1
    clear hI hX6 hR6 hw6 hn2 hinto hle1 hsz1
    clear hG hG2 hu hch hcur hrow helem htx hR5 hB85 hw5 hb35 hb5 hX10 hall Hr1 Hgp Hy Hz HrB Hcap hlen
    simp only [finM]
    go_wp2_with fail
    refine bodyPost_ret (v := .tuple #[.agg #[.int .i64 f, .slice (some ⟨gr, 0, none⟩) ar.length cap], .bool true]) (by simp [results, Try.results19, go_sem, r0, r1]) rfl ?_
    rw [Hhinto.out]
    refine ⟨_, rfl, (InT.far2 Hhn2.out HhI.out).mono (fun b hb _ => hb.imp id (fun h => by have := Hhsz1.out; omega)), ?_⟩
    exact (Hhw6.out.setCell (p := ⟨w.heap.size + 2, 0, none⟩) (by simp) _).setCell (p := ⟨w.heap.size + 2, 1, none⟩) (by simp) _

end Go.Proofs.Ytlkiabgpnboicaa.Old

namespace Go.Proofs.Ytlkiabgpnboicaa.Old
set_option maxRecDepth 100000
open Go.RowKit Go.Sort Go

/-- A number put into a row: as it is if it has it; else ahead of the first greater one. -/
def insI (v : Int) (l : List Int) : List Int := if v ∈ l then l else l.takeWhile (fun x => decide (x ≤ v)) ++ v :: l.dropWhile (fun x => decide (x ≤ v))
theorem insI_pos (v : Int) (l : List Int) : 0 < (insI v l).length := by
  unfold insI
  split
  · rename_i h; exact List.length_pos_of_mem h
  · simp; omega
theorem insI_le (v : Int) (l : List Int) : (insI v l).length ≤ l.length + 1 ∧ l.length ≤ (insI v l).length := by
  unfold insI
  split
  · omega
  · have := congrArg List.length (List.takeWhile_append_dropWhile (p := fun x => decide (x ≤ v)) (l := l))
    simp only [List.length_append, List.length_cons] at this ⊢
    omega
theorem insI_i64 {v : Int} {l : List Int} (hv : I64 v) (h : ∀ x ∈ l, I64 x) : ∀ x ∈ insI v l, I64 x := by
  unfold insI
  split
  · exact h
  · intro x hx
    simp only [List.mem_append, List.mem_cons] at hx
    rcases hx with hx | rfl | hx
    · exact h x ((List.takeWhile_sublist _).mem hx)
    · exact hv
    · exact h x ((List.dropWhile_sublist _).mem hx)

namespace T
open Go.Proofs.Ytlkiabgpnboicaa.T
mutual
def joinI : List Int → T → List Int
  | l, .mk f a => joinL (if f < 0 then insI (-1 - f) l else l) a
def joinL : List Int → List T → List Int
  | l, [] => l
  | l, t :: r => joinL (joinI l t) r
end
theorem joinL_append : ∀ (q r : List T) (l : List Int), joinL l (q ++ r) = joinL (joinL l q) r
  | [], r, l => rfl
  | t :: q, r, l => by rw [List.cons_append, joinL, joinL, joinL_append q r]
mutual
theorem joinI_le : ∀ (t : T) (l : List Int), (joinI l t).length ≤ l.length + t.size ∧ l.length ≤ (joinI l t).length
  | .mk f a, l => by
    have h := joinL_le a (if f < 0 then insI (-1 - f) l else l)
    rw [joinI, size]
    have := insI_le (-1 - f) l
    split at h <;> split <;> omega
theorem joinL_le : ∀ (a : List T) (l : List Int), (joinL l a).length ≤ l.length + T.sizeL a ∧ l.length ≤ (joinL l a).length
  | [], l => by simp [joinL, sizeL]
  | t :: r, l => by
    rw [joinL, sizeL]
    have := joinI_le t l
    have := joinL_le r (joinI l t)
    omega
end
mutual
theorem joinI_vars : ∀ (t : T) (l : List Int), (joinI l t).length = 0 → vars t = []
  | .mk f a, l, h => by
    rw [joinI] at h
    by_cases hf : f < 0
    · rw [if_pos hf] at h
      have := (joinL_le a (insI (-1 - f) l)).2
      have := insI_pos (-1 - f) l
      omega
    · rw [vars, if_neg hf]
      rw [if_neg hf] at h
      exact joinL_vars a l h
theorem joinL_vars : ∀ (a : List T) (l : List Int), (joinL l a).length = 0 → varsL a = []
  | [], l, _ => rfl
  | t :: r, l, h => by
    rw [joinL] at h
    have h1 := (joinL_le r (joinI l t)).2
    rw [varsL, joinI_vars t l (by omega), joinL_vars r _ h]; rfl
end
end T

def intV (n : Int) : Value := .int .i64 n

section
variable {w0 w : World} {ov : Value} {lo : List Int}
theorem wpList_appI {ops : Array Oper} {rest : List Oper} {o : Oper} {a : Act} {K : Exit → Act → World → Prop} {x y : Operand} {g : Nat} {v : Int} (hgd : o.guard = none) (ho : o.op = .call { callee := .builtin .append, args := #[x, y], argTypes := #[22, 22] })
    (hx : a.eval x = ov) (hy : a.eval y = .slice (some ⟨g, 0, none⟩) 1 1) (hB : Blk w g 3 #[.int .i64 v]) (h : w.ownsRow w0.heap.size 3 1 ov lo.length (lo.map intV)) (hb : Below w0.heap.size w0 w) (hlen : lo.length ≤ 4294967295)
    (hK : ∀ ra rc w', w'.ownsRow w0.heap.size 3 1 (.slice ra (lo.length + 1) rc) (lo ++ [v]).length ((lo ++ [v]).map intV) → Below w0.heap.size w0 w' → wpList Try.prog ops K rest (a.put o.dst (.slice ra (lo.length + 1) rc)) w') : wpList Try.prog ops K (o :: rest) a w := by
  have hint : (Try.prog.info? 3).map (fun i => (i.zero, i.size, i.bytes)) = some (some (.int .i64 0), 1, 8) := by kernel_rfl
  obtain ⟨i0, hi, hz0, hz1, hz2⟩ := info_parts hint
  have hN := hb.size
  refine wpList_append_lies w hgd x y 22 ho w0.heap.size 3 i0 (.int .i64 0) 1 8 Try.underlying22 hi hz0 hz1 hz2 rfl (by decide) ov lo.length (lo.map intV) hx h ⟨g, 0, none⟩ 1 1 [.int .i64 v] hy rfl (World.news_of_block hB) (ints_oneCell .i64 [v]) (by omega) (by unfold maxLen; omega) (by omega) (by omega) _ rfl ?_
  intro g1 c1 w4 hown hgrow hat _
  refine hK _ _ _ (by simpa [intV] using hown) (hb.grown hgrow hN (fun b hb2 => (h.lt b hb2).1))

/-- What owns a row of integers is one. -/
theorem ints_of_own2 {N : Nat} {a : Option Addr} {c : Nat} (h : w.ownsRow N 3 1 (.slice a lo.length c) lo.length (lo.map intV)) (hl : ∀ x ∈ lo, I64 x) : lo.length ≤ c ∧ c ≤ maxLen ∧ IsInts w lo a := by
  rcases h.2 with ⟨e, h0⟩ | ⟨g, cap, cur, e, _, hB, hc, hm, _, _⟩
  · simp only [Value.slice.injEq] at e
    have : lo = [] := List.length_eq_zero_iff.1 h0
    subst this
    exact ⟨Nat.zero_le _, by rw [e.2.2]; unfold maxLen; omega, fun k hk => by simp at hk⟩
  · simp only [Value.slice.injEq, true_and] at e
    obtain ⟨rfl, rfl⟩ := e
    refine ⟨hc, hm, fun k hk => ⟨g, 0, [.int .i64 lo[k]], rfl, rfl, fun j hj => ?_, rfl, hl _ (List.getElem_mem hk)⟩⟩
    have hj0 : j = 0 := by omega
    subst hj0
    have := h.cells (g := g) rfl k (.int .i64 lo[k]) (by simp [hk, intV])
    have e : (⟨g, 0, none⟩ : Addr).add k = ⟨g, k, none⟩ := by unfold Addr.add; split <;> simp_all
    rw [e] at this
    simpa using this
end

/-- What has been put out when 'k' numbers were read, none of them 'v'. -/
def outI (v : Int) (l : List Int) : List Int := if l.all (fun x => decide (x ≤ v)) then l else l.takeWhile (fun x => decide (x ≤ v)) ++ v :: l.dropWhile (fun x => decide (x ≤ v))
def doneI (v : Int) (l : List Int) : Bool := !l.all (fun x => decide (x ≤ v))

theorem outI_snoc_done {v x : Int} {l : List Int} (h : doneI v l = true) : outI v (l ++ [x]) = outI v l ++ [x] ∧ doneI v (l ++ [x]) = true := by
  unfold doneI at h ⊢
  have h1 : l.all (fun x => decide (x ≤ v)) = false := by simpa using h
  have h2 : (l ++ [x]).all (fun x => decide (x ≤ v)) = false := by rw [List.all_append, h1]; rfl
  have ht : ∀ l : List Int, l.all (fun x => decide (x ≤ v)) = false → (l ++ [x]).takeWhile (fun x => decide (x ≤ v)) = l.takeWhile (fun x => decide (x ≤ v)) ∧ (l ++ [x]).dropWhile (fun x => decide (x ≤ v)) = l.dropWhile (fun x => decide (x ≤ v)) ++ [x] := by
    intro l
    induction l with
    | nil => intro h; simp at h
    | cons a r ih =>
      intro h
      by_cases ha : a ≤ v
      · have hr : r.all (fun x => decide (x ≤ v)) = false := by simpa [ha] using h
        obtain ⟨i1, i2⟩ := ih hr
        simp [ha, i1, i2]
      · simp [ha]
  obtain ⟨i1, i2⟩ := ht l h1
  unfold outI
  rw [h1, h2, i1, i2]
  simp
theorem outI_snoc_le {v x : Int} {l : List Int} (h : doneI v l = false) (hx : x ≤ v) : outI v (l ++ [x]) = outI v l ++ [x] ∧ doneI v (l ++ [x]) = false := by
  unfold doneI at h ⊢
  have h1 : l.all (fun x => decide (x ≤ v)) = true := by simpa using h
  have h2 : (l ++ [x]).all (fun x => decide (x ≤ v)) = true := by rw [List.all_append, h1]; simp [hx]
  unfold outI
  rw [h1, h2]; simp
theorem outI_snoc_gt {v x : Int} {l : List Int} (h : doneI v l = false) (hx : ¬ x ≤ v) : outI v (l ++ [x]) = outI v l ++ [v] ++ [x] ∧ doneI v (l ++ [x]) = true := by
  unfold doneI at h ⊢
  have h1 : l.all (fun x => decide (x ≤ v)) = true := by simpa using h
  have h2 : (l ++ [x]).all (fun x => decide (x ≤ v)) = false := by rw [List.all_append, h1]; simp [hx]
  have ht : ∀ l : List Int, l.all (fun x => decide (x ≤ v)) = true → (l ++ [x]).takeWhile (fun x => decide (x ≤ v)) = l ∧ (l ++ [x]).dropWhile (fun x => decide (x ≤ v)) = [x] := by
    intro l
    induction l with
    | nil => intro _; simp [hx]
    | cons a r ih =>
      intro h
      simp only [List.all_cons, Bool.and_eq_true, decide_eq_true_eq] at h
      obtain ⟨i1, i2⟩ := ih h.2
      simp [h.1, i1, i2]
  obtain ⟨i1, i2⟩ := ht l h1
  unfold outI
  rw [h1, h2, i1, i2]
  simp
theorem outI_end {v : Int} {l : List Int} (h : v ∉ l) : insI v l = if doneI v l then outI v l else outI v l ++ [v] := by
  unfold insI doneI outI
  rw [if_neg h]
  cases ha : l.all (fun x => decide (x ≤ v)) with
  | false => simp
  | true =>
    have ht : ∀ l : List Int, l.all (fun x => decide (x ≤ v)) = true → l.takeWhile (fun x => decide (x ≤ v)) = l ∧ l.dropWhile (fun x => decide (x ≤ v)) = [] := by
      intro l
      induction l with
      | nil => intro _; simp
      | cons a r ih =>
        intro h
        simp only [List.all_cons, Bool.and_eq_true, decide_eq_true_eq] at h
        obtain ⟨i1, i2⟩ := ih h.2
        simp [h.1, i1, i2]
    obtain ⟨i1, i2⟩ := ht l ha
    simp [i1, i2]
theorem outI_le (v : Int) (l : List Int) : (outI v l).length ≤ l.length + 1 := by
  unfold outI
  split
  · omega
  · have := congrArg List.length (List.takeWhile_append_dropWhile (p := fun x => decide (x ≤ v)) (l := l))
    simp only [List.length_append, List.length_cons] at this ⊢
    omega
theorem outI_i64 {v : Int} {l : List Int} (hv : I64 v) (h : ∀ x ∈ l, I64 x) : ∀ x ∈ outI v l, I64 x := by
  unfold outI
  split
  · exact h
  · intro x hx
    simp only [List.mem_append, List.mem_cons] at hx
    rcases hx with hx | rfl | hx
    · exact h x ((List.takeWhile_sublist _).mem hx)
    · exact hv
    · exact h x ((List.dropWhile_sublist _).mem hx)

end Go.Proofs.Ytlkiabgpnboicaa.Old

/- The walks through the document's variables of a term. -/
namespace Go.Proofs.Ytlkiabgpnboicaa.Old
open Go.RowKit Go.Sort Go


set_option maxHeartbeats 4000000 in
theorem insert_any (l : List Int) (v : Int) (w : World) (a : Option Addr) (c : Nat) (hc : l.length ≤ c) (hm : c ≤ maxLen) (hlen : l.length ≤ 4294967290) (hl : IsInts w l a) (hv : I64 v) :
    Calls Try.prog 43 #[.slice a l.length c, .int .i64 v] w fun e w' => (∃ a' c', e = .returned (.slice a' (insI v l).length c') ∧ (insI v l).length ≤ c' ∧ c' ≤ maxLen ∧ IsInts w' (insI v l) a') ∧ Below w.heap.size w w' := by
  have hli : ∀ x ∈ l, I64 x := fun x hx => by
    obtain ⟨k, hk, rfl⟩ := List.getElem_of_mem hx
    obtain ⟨_, _, _, _, h⟩ := hl.at_ (Below.refl _ _) k hk
    exact h
  have Hli := Lib.hid hli
  have Hv := Lib.hid hv
  have Hm0 := Lib.hid (And.intro hc hm)
  clear hli hv
  unfold maxLen at hm
  go_enter Try.func43, Try.ntmps43
  go_wp2_with fail
  go_loopw [5, 6, 7] (fun ov dv iv wr => ∃ (k : Nat), k ≤ l.length ∧ iv = .int .i64 k ∧ dv = .bool (doneI v (l.take k)) ∧ Hid (wr.ownsRow w.heap.size 3 1 ov (outI v (l.take k)).length ((outI v (l.take k)).map intV)) ∧ Hid (v ∉ l.take k) ∧ Hid (∃ a n c, ov = .slice a n c) ∧ Below w.heap.size w wr) (fun _ _ iv _ => l.length - (intOf iv).toNat)
  case atStart => exact ⟨0, Nat.zero_le _, rfl, rfl, ⟨rfl, .inl ⟨rfl, rfl⟩⟩, by simp [Hid], ⟨_, _, _, rfl⟩, Below.refl _ _⟩
  case round =>
    obtain ⟨k, hk, rfl, rfl, HO, Hn, Hsh, hw⟩ := hrel
    have Hol := Lib.hid (show (outI v (l.take k)).length ≤ 4294967291 by have := outI_le v (l.take k); simp at this; omega)
    by_cases hlt : k < l.length
    · obtain ⟨b, o, rfl, g0, gI⟩ := hl.at_ hw k hlt
      have z0 : (0 : Int) ≤ (k : Int) := by omega
      have z1 : (k : Int) < (l.length : Int) := by omega
      clear gI
      by_cases heq : l[k] = v
      · have q1 : (l[k] == v) = true := by simp [heq]
        have HV := Lib.hid (show insI v l = l by unfold insI; rw [if_pos (by rw [← heq]; exact List.getElem_mem hlt)])
        clear heq
        go_wp2_with fail
        go_ret
        rw [HV.out]
        exact ⟨⟨_, c, rfl, Hm0.out.1, Hm0.out.2, hl.below hw⟩, hw⟩
      · have q1 : (l[k] == v) = false := by simpa using heq
        have Hne := Lib.hid heq
        clear heq
        obtain ⟨oa, on, oc, rfl⟩ := Hsh.out
        by_cases hle : l[k] ≤ v
        · have hle' : ¬ v < l[k] := by omega
          cases hd : doneI v (l.take k) with
          | true =>
            have HS := Lib.hid (show outI v (l.take k ++ [l[k]]) = outI v (l.take k) ++ [l[k]] ∧ doneI v (l.take k ++ [l[k]]) = true from outI_snoc_done hd)
            have Hhw := Lib.hid hw
            clear hw
            clear hd hle
            have Hlo3 := Lib.hid (show (outI v (l.take k)).length ≤ 4294967295 from Nat.le_trans Hol.out (by omega))
            go_wp2_with (with_reducible refine stop_app ?_)
            refine Stop.mk ?_
            refine wpList_appI (lo := outI v (l.take k)) rfl rfl rfl rfl (Blk.new' rfl) (oR_below HO.out (balloc _ _)) (bstep Hhw.out (balloc _ _)) Hlo3.out ?_
            intro ra rc w4 hown4 hb4
            have Hhown4 := Lib.hid hown4
            have Hhb4 := Lib.hid hb4
            clear hown4 hb4
            clear HO Hhw
            go_wp2_with fail
            go_roundw
            case measure => simp [intOf]; omega
            case rel =>
              refine ⟨k + 1, by omega, by go_num, ?_, ?_, ?_, ⟨_, _, _, rfl⟩, Hhb4.out⟩
              · rw [List.take_succ_eq_append_getElem hlt, HS.out.2]
              · rw [List.take_succ_eq_append_getElem hlt, HS.out.1]; simpa [Hid] using Hhown4.out
              · rw [List.take_succ_eq_append_getElem hlt]
                show v ∉ l.take k ++ [l[k]]
                rw [List.mem_append, List.mem_singleton]
                exact fun h => h.elim Hn.out (fun h => Hne.out h.symm)
          | false =>
            have HS := Lib.hid (show outI v (l.take k ++ [l[k]]) = outI v (l.take k) ++ [l[k]] ∧ doneI v (l.take k ++ [l[k]]) = false from outI_snoc_le hd hle)
            have Hhw := Lib.hid hw
            clear hw
            clear hd hle
            have Hlo3 := Lib.hid (show (outI v (l.take k)).length ≤ 4294967295 from Nat.le_trans Hol.out (by omega))
            go_wp2_with (with_reducible refine stop_app ?_)
            refine Stop.mk ?_
            refine wpList_appI (lo := outI v (l.take k)) rfl rfl rfl rfl (Blk.new' rfl) (oR_below HO.out (balloc _ _)) (bstep Hhw.out (balloc _ _)) Hlo3.out ?_
            intro ra rc w4 hown4 hb4
            have Hhown4 := Lib.hid hown4
            have Hhb4 := Lib.hid hb4
            clear hown4 hb4
            clear HO Hhw
            go_wp2_with fail
            go_roundw
            case measure => simp [intOf]; omega
            case rel =>
              refine ⟨k + 1, by omega, by go_num, ?_, ?_, ?_, ⟨_, _, _, rfl⟩, Hhb4.out⟩
              · rw [List.take_succ_eq_append_getElem hlt, HS.out.2]
              · rw [List.take_succ_eq_append_getElem hlt, HS.out.1]; simpa [Hid] using Hhown4.out
              · rw [List.take_succ_eq_append_getElem hlt]
                show v ∉ l.take k ++ [l[k]]
                rw [List.mem_append, List.mem_singleton]
                exact fun h => h.elim Hn.out (fun h => Hne.out h.symm)
        · have hgt : v < l[k] := by omega
          cases hd : doneI v (l.take k) with
          | true =>
            have HS := Lib.hid (show outI v (l.take k ++ [l[k]]) = outI v (l.take k) ++ [l[k]] ∧ doneI v (l.take k ++ [l[k]]) = true from outI_snoc_done hd)
            have Hhw := Lib.hid hw
            clear hw
            clear hd hle
            have Hlo3 := Lib.hid (show (outI v (l.take k)).length ≤ 4294967295 from Nat.le_trans Hol.out (by omega))
            go_wp2_with (with_reducible refine stop_app ?_)
            refine Stop.mk ?_
            refine wpList_appI (lo := outI v (l.take k)) rfl rfl rfl rfl (Blk.new' rfl) (oR_below HO.out (balloc _ _)) (bstep Hhw.out (balloc _ _)) Hlo3.out ?_
            intro ra rc w4 hown4 hb4
            have Hhown4 := Lib.hid hown4
            have Hhb4 := Lib.hid hb4
            clear hown4 hb4
            clear HO Hhw
            go_wp2_with fail
            go_roundw
            case measure => simp [intOf]; omega
            case rel =>
              refine ⟨k + 1, by omega, by go_num, ?_, ?_, ?_, ⟨_, _, _, rfl⟩, Hhb4.out⟩
              · rw [List.take_succ_eq_append_getElem hlt, HS.out.2]
              · rw [List.take_succ_eq_append_getElem hlt, HS.out.1]; simpa [Hid] using Hhown4.out
              · rw [List.take_succ_eq_append_getElem hlt]
                show v ∉ l.take k ++ [l[k]]
                rw [List.mem_append, List.mem_singleton]
                exact fun h => h.elim Hn.out (fun h => Hne.out h.symm)
          | false =>
            have HS := Lib.hid (show outI v (l.take k ++ [l[k]]) = outI v (l.take k) ++ [v] ++ [l[k]] ∧ doneI v (l.take k ++ [l[k]]) = true from outI_snoc_gt hd hle)
            have Hhw := Lib.hid hw
            clear hw
            clear hd hle
            go_wp2_with (with_reducible refine stop_app ?_)
            refine Stop.mk ?_
            refine wpList_appI rfl rfl rfl rfl (Blk.new' rfl) (oR_below HO.out (balloc _ _)) (bstep Hhw.out (balloc _ _)) (Nat.le_trans Hol.out (by omega)) ?_
            intro ra rc w4 hown4 hb4
            obtain ⟨b', o', e', g1, gI⟩ := hl.at_ hb4 k hlt
            simp only [Option.some.injEq, Addr.mk.injEq, and_true] at e'
            obtain ⟨rfl, rfl⟩ := e'
            have Hol2 := Lib.hid (show (outI v (l.take k) ++ [v]).length ≤ 4294967292 by have := Hol.out; simp; omega)
            have HO2 := Lib.hid hown4
            have Hhw2 := Lib.hid hb4
            clear HO Hhw Hol gI hown4 hb4 g0
            have HO := HO2
            have Hhw := Hhw2
            have Hol := Hol2
            clear HO2 Hhw2 Hol2
            have Hlo3 := Lib.hid (show (outI v (l.take k) ++ [v]).length ≤ 4294967295 from Nat.le_trans Hol.out (by omega))
            go_wp2_with (with_reducible refine stop_app ?_)
            refine Stop.mk ?_
            refine wpList_appI (lo := outI v (l.take k) ++ [v]) rfl rfl rfl rfl (Blk.new' rfl) (oR_below HO.out (balloc _ _)) (bstep Hhw.out (balloc _ _)) Hlo3.out ?_
            intro ra rc w4 hown4 hb4
            have Hhown4 := Lib.hid hown4
            have Hhb4 := Lib.hid hb4
            clear hown4 hb4
            clear HO Hhw
            go_wp2_with fail
            go_roundw
            case measure => simp [intOf]; omega
            case rel =>
              refine ⟨k + 1, by omega, by go_num, ?_, ?_, ?_, ⟨_, _, _, rfl⟩, Hhb4.out⟩
              · rw [List.take_succ_eq_append_getElem hlt, HS.out.2]
              · rw [List.take_succ_eq_append_getElem hlt, HS.out.1]; simpa [Hid] using Hhown4.out
              · rw [List.take_succ_eq_append_getElem hlt]
                show v ∉ l.take k ++ [l[k]]
                rw [List.mem_append, List.mem_singleton]
                exact fun h => h.elim Hn.out (fun h => Hne.out h.symm)
    · have Hnot := Lib.hid (show v ∉ l by have := Hn.out; rwa [List.take_of_length_le (by omega)] at this)
      rw [List.take_of_length_le (by omega)] at HO Hol ⊢
      obtain ⟨oa, on, oc, rfl⟩ := Hsh.out
      have Hhw := Lib.hid hw
      clear hw
      cases hd : doneI v l with
      | true =>
        have HV := Lib.hid (show insI v l = outI v l by rw [outI_end Hnot.out, if_pos hd])
        clear hd
        go_wp2_with fail
        go_ret
        have hn : on = (outI v l).length := by
          rcases HO.out.2 with ⟨e, h0⟩ | ⟨_, _, _, e, _⟩
          · simp only [Value.slice.injEq] at e; omega
          · simp only [Value.slice.injEq] at e; exact e.2.1
        subst hn
        obtain ⟨h1, h2, h3⟩ := ints_of_own2 HO.out (outI_i64 Hv.out Hli.out)
        rw [HV.out]
        exact ⟨⟨_, _, rfl, h1, h2, h3⟩, Hhw.out⟩
      | false =>
        have HV := Lib.hid (show insI v l = outI v l ++ [v] by rw [outI_end Hnot.out, if_neg (by simp [hd])])
        clear hd
        go_wp2_with (with_reducible refine stop_app ?_)
        refine Stop.mk ?_
        refine wpList_appI rfl rfl rfl rfl (Blk.new' rfl) (oR_below HO.out (balloc _ _)) (bstep Hhw.out (balloc _ _)) (Nat.le_trans Hol.out (by omega)) ?_
        intro ra rc w4 hown4 hb4
        have hl2 : (outI v l).length + 1 = (outI v l ++ [v]).length := by rw [List.length_append, List.length_singleton]
        obtain ⟨ol, hol⟩ : ∃ ol, ol = outI v l ++ [v] := ⟨_, rfl⟩
        rw [hl2] at hown4 ⊢
        rw [← hol] at hown4 HV ⊢
        have Hol3 := Lib.hid hol
        clear hl2 hol
        have Hhown4 := Lib.hid hown4
        have Hhb4 := Lib.hid hb4
        clear hown4 hb4
        go_wp2_with fail
        go_ret
        obtain ⟨h1, h2, h3⟩ := ints_of_own2 Hhown4.out (fun x hx => by
          rw [Hol3.out] at hx
          rcases List.mem_append.1 hx with h | h
          · exact outI_i64 Hv.out Hli.out x h
          · simp at h; rw [h]; exact Hv.out)
        rw [HV.out]
        exact ⟨⟨_, _, rfl, h1, h2, h3⟩, Hhb4.out⟩

end Go.Proofs.Ytlkiabgpnboicaa.Old

/- The walks through the document's variables of a term: Join, Vars. -/
namespace Go.Proofs.Ytlkiabgpnboicaa.Old
open Go.RowKit Go.Sort Go

theorem sizeL_append : ∀ l q : List T, T.sizeL (l ++ q) = T.sizeL l + T.sizeL q
  | [], q => by simp [T.sizeL]
  | t :: r, q => by rw [List.cons_append, T.sizeL, T.sizeL, sizeL_append r q]; omega





set_option maxHeartbeats 4000000 in
theorem join_any : ∀ (t : T) (l : List Int) (w : World) (a : Option Addr) (c : Nat) (v : Value), l.length ≤ c → c ≤ maxLen → l.length + t.size ≤ 4294967290 → IsInts w l a → IsT w t v →
    Calls Try.prog 32 #[.slice a l.length c, v] w fun e w' => (∃ a' c', e = .returned (.slice a' (T.joinI l t).length c') ∧ (T.joinI l t).length ≤ c' ∧ c' ≤ maxLen ∧ IsInts w' (T.joinI l t) a') ∧ Below w.heap.size w w' := by
  intro t
  induction t using T.ind with
  | h f ar ih =>
    intro l w a c v hc hm hmax hi hv
    obtain ⟨hf, at_, ct, rfl, hct, hctm, hl⟩ := hv
    have hsz := T.size_eq (T.mk f ar)
    simp only [T.args_mk] at hsz
    unfold maxLen at hctm
    have Hc := Lib.hid (And.intro hc (And.intro hm hi))
    have hm' := hm
    unfold maxLen at hm'
    by_cases hneg : f < 0
    · obtain ⟨n, rfl⟩ : ∃ n : Nat, f = -1 - n := ⟨(-1 - f).toNat, by omega⟩
      have hn : (-1 - (-1 - (n : Int))) = n := by omega
      have hI : I64 (n : Int) := ⟨by omega, by have := hf.1; omega⟩
      have hw64 := Lib.hid (show wrap64 (n : Int) = n from wrap64_id hI)
      have Hif := Lib.hid (show (if (-1 - (n : Int)) < 0 then insI (-1 - (-1 - (n : Int))) l else l) = insI (n : Int) l by rw [if_pos (by omega), hn])
      have Hmax0 := Lib.hid (show (insI (n : Int) l).length + T.sizeL ar ≤ 4294967290 by have := (insI_le n l).1; omega)
      have IN := fun (W : World) (h : IsInts W l a) => insert_any l n W a c hc hm (by omega) h hI
      obtain ⟨l0, hl0⟩ : ∃ l0, l0 = insI (n : Int) l := ⟨_, rfl⟩
      rw [← hl0] at IN Hif Hmax0
      clear hc hm hi hmax hsz hI hl0
      go_enter Try.func32, Try.ntmps32
      go_wp2_with fail
      rw [hw64.out]
      refine (IN _ (Hc.out.2.2.below (balloc _ _))).mono ?_
      rintro e w1 ⟨⟨a2, c2, rfl, h1, h2, h3⟩, hb1⟩
      obtain ⟨B1, hw1⟩ := box1 hb1
      have HI := Lib.hid (And.intro h1 (And.intro h2 h3))
      have HB1 := Lib.hid B1
      have Hhw1 := Lib.hid hw1
      clear B1 hw1
      clear IN hb1 h1 h2 h3
      go_wp2_with fail
      go_loopw [0, 5] (fun lv iv wr => ∃ (k : Nat) (l' : List Int) (a' : Option Addr) (c' : Nat), k ≤ ar.length ∧ iv = .int .i64 k ∧ lv = .slice a' l'.length c' ∧ Hid (l' = T.joinL (l0) (ar.take k)) ∧ Hid (l'.length ≤ c' ∧ c' ≤ maxLen ∧ IsInts wr l' a') ∧ Below w.heap.size w wr ∧ Box wr w.heap.size [.int .i64 (-1 - n), .slice at_ ar.length ct]) (fun _ iv _ => ar.length - (intOf iv).toNat)
      case atStart => exact ⟨0, l0, a2, c2, Nat.zero_le _, rfl, rfl, (show l0 = T.joinL (l0) (ar.take 0) by rw [List.take_zero, T.joinL]), HI.out, Hhw1.out, HB1.out⟩
      case round =>
        clear HI Hhw1 HB1
        obtain ⟨k, l', a', c', hk, rfl, rfl, Hl', HI, hw, hB⟩ := hrel
        obtain ⟨k0, k1⟩ := hB.two
        have Hsz := Lib.hid (show l'.length + T.sizeL (ar.drop k) ≤ 4294967290 by
          have h1 := T.joinL_le (ar.take k) (l0)
          have h2 : T.sizeL (ar.take k) + T.sizeL (ar.drop k) = T.sizeL ar := by rw [← sizeL_append, List.take_append_drop]
          rw [Hl'.out]
          have := Hmax0.out
          omega)
        by_cases hlt : k < ar.length
        · obtain ⟨bt, ot, a1, c1, rfl, g0, g1, gt⟩ := hl.at_ hw k hlt
          have Hgt := Lib.hid gt
          have hd : ar.drop k = ar[k] :: ar.drop (k + 1) := List.drop_eq_getElem_cons hlt
          have hs2 : l'.length + ar[k].size ≤ 4294967290 := by have := Hsz.out; rw [hd, T.sizeL] at this; omega
          have RC := ih ar[k] (List.getElem_mem hlt) l' wr a' c' _ HI.out.1 HI.out.2.1 hs2 HI.out.2.2 gt
          have z0 : (0 : Int) ≤ (k : Int) := by omega
          have z1 : (k : Int) < (ar.length : Int) := by omega
          have hct := HI.out.2.1
          unfold maxLen at hct
          have Hhw := Lib.hid hw
          have HhB := Lib.hid hB
          clear hw hB
          clear gt hd hs2 Hgt ih
          go_wp2_with fail
          refine RC.mono ?_
          rintro e w2 ⟨⟨a2, c2, rfl, h1, h2, h3⟩, hb2⟩
          have HI2 := Lib.hid (And.intro h1 (And.intro h2 h3))
          have Hw2 := Lib.hid (bstep Hhw.out hb2)
          have HB2 := Lib.hid (HhB.out.below hb2)
          clear RC hb2 h1 h2 h3 Hhw HhB
          go_wp2_with fail
          go_roundw
          case rel => exact ⟨k + 1, _, a2, c2, by omega, by go_num, rfl, (by rw [List.take_succ_eq_append_getElem hlt, T.joinL_append, ← Hl'.out]; show _ = _; simp only [T.joinL]), HI2.out, Hw2.out, HB2.out⟩
          case measure => simp [intOf]; omega
        · have HV := Lib.hid (show T.joinI l (.mk (-1 - n) ar) = l' by rw [T.joinI, Hif.out, Hl'.out, List.take_of_length_le (by omega)])
          go_wp2_with fail
          go_ret
          rw [HV.out]
          exact ⟨⟨a', c', rfl, HI.out⟩, hw⟩
    · have Hif := Lib.hid (show (if f < 0 then insI (-1 - f) l else l) = l by rw [if_neg hneg])
      have Hmax0 := Lib.hid (show l.length + T.sizeL ar ≤ 4294967290 by omega)
      clear hc hm hi hmax hsz
      go_enter Try.func32, Try.ntmps32
      go_wp2_with fail
      go_loopw [0, 5] (fun lv iv wr => ∃ (k : Nat) (l' : List Int) (a' : Option Addr) (c' : Nat), k ≤ ar.length ∧ iv = .int .i64 k ∧ lv = .slice a' l'.length c' ∧ Hid (l' = T.joinL (l) (ar.take k)) ∧ Hid (l'.length ≤ c' ∧ c' ≤ maxLen ∧ IsInts wr l' a') ∧ Below w.heap.size w wr ∧ Box wr w.heap.size [.int .i64 (f), .slice at_ ar.length ct]) (fun _ iv _ => ar.length - (intOf iv).toNat)
      case atStart => exact ⟨0, l, a, c, Nat.zero_le _, rfl, rfl, (show l = T.joinL l (ar.take 0) by rw [List.take_zero, T.joinL]), ⟨Hc.out.1, Hc.out.2.1, Hc.out.2.2.below (balloc _ _)⟩, balloc _ _, Box.new _ _ _⟩
      case round =>
        obtain ⟨k, l', a', c', hk, rfl, rfl, Hl', HI, hw, hB⟩ := hrel
        obtain ⟨k0, k1⟩ := hB.two
        have Hsz := Lib.hid (show l'.length + T.sizeL (ar.drop k) ≤ 4294967290 by
          have h1 := T.joinL_le (ar.take k) (l)
          have h2 : T.sizeL (ar.take k) + T.sizeL (ar.drop k) = T.sizeL ar := by rw [← sizeL_append, List.take_append_drop]
          rw [Hl'.out]
          have := Hmax0.out
          omega)
        by_cases hlt : k < ar.length
        · obtain ⟨bt, ot, a1, c1, rfl, g0, g1, gt⟩ := hl.at_ hw k hlt
          have Hgt := Lib.hid gt
          have hd : ar.drop k = ar[k] :: ar.drop (k + 1) := List.drop_eq_getElem_cons hlt
          have hs2 : l'.length + ar[k].size ≤ 4294967290 := by have := Hsz.out; rw [hd, T.sizeL] at this; omega
          have RC := ih ar[k] (List.getElem_mem hlt) l' wr a' c' _ HI.out.1 HI.out.2.1 hs2 HI.out.2.2 gt
          have z0 : (0 : Int) ≤ (k : Int) := by omega
          have z1 : (k : Int) < (ar.length : Int) := by omega
          have hct := HI.out.2.1
          unfold maxLen at hct
          have Hhw := Lib.hid hw
          have HhB := Lib.hid hB
          clear hw hB
          clear gt hd hs2 Hgt ih
          go_wp2_with fail
          refine RC.mono ?_
          rintro e w2 ⟨⟨a2, c2, rfl, h1, h2, h3⟩, hb2⟩
          have HI2 := Lib.hid (And.intro h1 (And.intro h2 h3))
          have Hw2 := Lib.hid (bstep Hhw.out hb2)
          have HB2 := Lib.hid (HhB.out.below hb2)
          clear RC hb2 h1 h2 h3 Hhw HhB
          go_wp2_with fail
          go_roundw
          case rel => exact ⟨k + 1, _, a2, c2, by omega, by go_num, rfl, (by rw [List.take_succ_eq_append_getElem hlt, T.joinL_append, ← Hl'.out]; show _ = _; simp only [T.joinL]), HI2.out, Hw2.out, HB2.out⟩
          case measure => simp [intOf]; omega
        · have HV := Lib.hid (show T.joinI l (.mk (f) ar) = l' by rw [T.joinI, Hif.out, Hl'.out, List.take_of_length_le (by omega)])
          go_wp2_with fail
          go_ret
          rw [HV.out]
          exact ⟨⟨a', c', rfl, HI.out⟩, hw⟩

theorem vars_any (t : T) (w : World) (v : Value) (hz : t.size ≤ 4294967290) (hv : IsT w t v) :
    Calls Try.prog 18 #[v] w fun e w' => (∃ a' c', e = .returned (.slice a' (T.joinI [] t).length c')) ∧ Below w.heap.size w w' := by
  have J := fun (W : World) (h : IsT W t v) => join_any t [] W none 0 v (Nat.le_refl _) (by unfold maxLen; omega) (by simpa using hz) (fun k hk => by simp at hk) h
  have Hv := Lib.hid hv
  obtain ⟨_, a1, c1, rfl, _, _, _⟩ := hv.form
  clear hv
  go_enter Try.func18, Try.ntmps18
  go_wp2_with fail
  refine (J _ (Hv.out.below (balloc _ _))).mono ?_
  rintro e w1 ⟨⟨a2, c2, rfl, _, _, _⟩, hb1⟩
  go_wp2_with fail
  go_ret
  exact ⟨⟨a2, c2, rfl⟩, bcall hb1⟩

end Go.Proofs.Ytlkiabgpnboicaa.Old
