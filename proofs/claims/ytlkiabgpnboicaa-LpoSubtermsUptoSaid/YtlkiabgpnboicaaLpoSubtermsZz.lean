/- LpoSubterms: a term is above each of its own subterms, for every input whose reading is of bulk at most 1048576, the law answers true, panics nowhere, and leaves what it was given as it was. -/
import Derived.Test.YtlkiabgpnboicaaMga
import Derived.Test.YtlkiabgpnboicaaMgh
import Derived.Deep.AppendLies
import Derived.Test.YtlkiabgpnboicaaMgi
import Derived.Test.YtlkiabgpnboicaaMgj
import Derived.Test.YtlkiabgpnboicaaMgk

/- The least order of so many symbols: two rows that are made by append. -/


namespace Go.Proofs.Ytlkiabgpnboicaa
open Go.RowKit Go.Sort Go


theorem Blk.grown {w w' : World} {g : Nat} {t : TypeId} {cs : Array Value} {row : Option Nat} (h : Blk w g t cs) (hg : w.grownBy w' row) (hne : some g ≠ row) : Blk w' g t cs := (hg.block g h.lt hne).trans h

theorem gsetc (w : World) (a : Addr) (u : Value) : w.grownBy (w.setCell a u) (some a.block) :=
  ⟨rfl, rfl, rfl, by simp [World.setCell], fun k _ hk => Below.heap_setCell w a u k (fun e => hk (by rw [e]))⟩

theorem cell_one_at {w : World} {x : Value} {t : TypeId} {b : Nat} (h : w.heap.size = b) : ∀ j u, [x][j]? = some u → (w.alloc (.cells #[x] t)).cell? ((⟨b, 0, none⟩ : Addr).add j) = some u := by
  subst h; exact cell_one_new _ _ _


theorem ownsRow_slice {w : World} {base : Nat} {e : TypeId} {size : Nat} {v : Value} {n : Nat} {xs : List Value} (h : w.ownsRow base e size v n xs) : ∃ a m c, v = .slice a m c := by
  rcases h.2 with ⟨rfl, _⟩ | ⟨g, c, _, rfl, _⟩ <;> exact ⟨_, _, _, rfl⟩

end Go.Proofs.Ytlkiabgpnboicaa

/- Terms that lie within some blocks, and rows of terms that are made by append, one term after the other. -/
namespace Go.Proofs.Ytlkiabgpnboicaa.Old
set_option maxRecDepth 100000
open Go.RowKit Go

mutual
/-- The value 'v' is the term 't', and all its rows lie in blocks of 'S'. -/
def InT (S : Nat → Prop) (w : World) : T → Value → Prop
  | .mk f l, v => I64 f ∧ ∃ (a : Option Addr) (c : Nat), v = .agg #[.int .i64 f, .slice a l.length c] ∧ l.length ≤ c ∧ c ≤ maxLen ∧ InTs S w l a 0
def InTs (S : Nat → Prop) (w : World) : List T → Option Addr → Nat → Prop
  | [], _, _ => True
  | t :: r, a, i => (∃ (b o : Nat) (u v : Value), a = some ⟨b, o, none⟩ ∧ S b ∧ w.cell? ⟨b, o + i * 2, none⟩ = some u ∧ w.cell? ⟨b, o + i * 2 + 1, none⟩ = some v ∧ InT S w t (.agg #[u, v])) ∧ InTs S w r a (i + 1)
end

mutual
theorem InT.keep {S : Nat → Prop} {w w' : World} (hb : ∀ (p : Addr) (x : Value), S p.block → w.cell? p = some x → w'.cell? p = some x) : ∀ {t : T} {v : Value}, InT S w t v → InT S w' t v
  | .mk _ _, _, ⟨h0, a, c, h1, h2, h3, h4⟩ => ⟨h0, a, c, h1, h2, h3, InTs.keep hb h4⟩
theorem InTs.keep {S : Nat → Prop} {w w' : World} (hb : ∀ (p : Addr) (x : Value), S p.block → w.cell? p = some x → w'.cell? p = some x) : ∀ {l : List T} {a : Option Addr} {i : Nat}, InTs S w l a i → InTs S w' l a i
  | [], _, _, _ => trivial
  | _ :: _, _, _, ⟨⟨b, o, u, v, ha, hs, h1, h2, h3⟩, h4⟩ => ⟨⟨b, o, u, v, ha, hs, hb ⟨b, _, none⟩ _ hs h1, hb ⟨b, _, none⟩ _ hs h2, InT.keep hb h3⟩, InTs.keep hb h4⟩
end
mutual
theorem InT.mono {S S' : Nat → Prop} {w : World} (hb : ∀ b, S b → b < w.heap.size → S' b) : ∀ {t : T} {v : Value}, InT S w t v → InT S' w t v
  | .mk _ _, _, ⟨h0, a, c, h1, h2, h3, h4⟩ => ⟨h0, a, c, h1, h2, h3, InTs.mono hb h4⟩
theorem InTs.mono {S S' : Nat → Prop} {w : World} (hb : ∀ b, S b → b < w.heap.size → S' b) : ∀ {l : List T} {a : Option Addr} {i : Nat}, InTs S w l a i → InTs S' w l a i
  | [], _, _, _ => trivial
  | _ :: _, _, _, ⟨⟨b, o, u, v, ha, hs, h1, h2, h3⟩, h4⟩ => ⟨⟨b, o, u, v, ha, hb _ hs (World.block_lt_of_cell? _ _ h1), h1, h2, InT.mono hb h3⟩, InTs.mono hb h4⟩
end
mutual
theorem InT.isT {S : Nat → Prop} {w : World} : ∀ {t : T} {v : Value}, InT S w t v → IsT w t v
  | .mk _ _, _, ⟨h0, a, c, h1, h2, h3, h4⟩ => ⟨h0, a, c, h1, h2, h3, InTs.isTs h4⟩
theorem InTs.isTs {S : Nat → Prop} {w : World} : ∀ {l : List T} {a : Option Addr} {i : Nat}, InTs S w l a i → IsTs w l a i
  | [], _, _, _ => trivial
  | _ :: _, _, _, ⟨⟨b, o, u, v, ha, hs, h1, h2, h3⟩, h4⟩ => ⟨⟨b, o, u, v, ha, h1, h2, InT.isT h3⟩, InTs.isTs h4⟩
end
mutual
theorem IsT.inT {w : World} : ∀ {t : T} {v : Value}, IsT w t v → InT (fun b => b < w.heap.size) w t v
  | .mk _ _, _, ⟨h0, a, c, h1, h2, h3, h4⟩ => ⟨h0, a, c, h1, h2, h3, IsTs.inTs h4⟩
theorem IsTs.inTs {w : World} : ∀ {l : List T} {a : Option Addr} {i : Nat}, IsTs w l a i → InTs (fun b => b < w.heap.size) w l a i
  | [], _, _, _ => trivial
  | _ :: _, _, _, ⟨⟨b, o, u, v, ha, h1, h2, h3⟩, h4⟩ => ⟨⟨b, o, u, v, ha, World.block_lt_of_cell? _ _ h1, h1, h2, IsT.inT h3⟩, IsTs.inTs h4⟩
end

theorem InT.below {S : Nat → Prop} {w w' : World} (hb : Below w.heap.size w w') {t : T} {v : Value} (h : InT S w t v) : InT S w' t v := h.keep fun p x _ hx => bkeeps hb p x hx
theorem InTs.below {S : Nat → Prop} {w w' : World} (hb : Below w.heap.size w w') {l : List T} {a : Option Addr} {i : Nat} (h : InTs S w l a i) : InTs S w' l a i := h.keep fun p x _ hx => bkeeps hb p x hx
/-- What keeps blocks below 'B' keeps what lies there. -/
theorem InT.old {B N : Nat} {w w' : World} (hb : Below N w w') (hBN : B ≤ N) {t : T} {v : Value} (h : InT (fun b => b < B) w t v) : InT (fun b => b < B) w' t v := InT.keep (S := fun b => b < B) (fun p x (hp : p.block < B) hx => (hb.cell (Nat.lt_of_lt_of_le hp hBN)).trans hx) h
theorem InTs.old {B N : Nat} {w w' : World} (hb : Below N w w') (hBN : B ≤ N) {l : List T} {a : Option Addr} {i : Nat} (h : InTs (fun b => b < B) w l a i) : InTs (fun b => b < B) w' l a i := InTs.keep (S := fun b => b < B) (fun p x (hp : p.block < B) hx => (hb.cell (Nat.lt_of_lt_of_le hp hBN)).trans hx) h

theorem InT.form {S : Nat → Prop} {w : World} {t : T} {v : Value} (h : InT S w t v) : I64 t.f ∧ ∃ (a : Option Addr) (c : Nat), v = .agg #[.int .i64 t.f, .slice a t.args.length c] ∧ t.args.length ≤ c ∧ c ≤ maxLen ∧ InTs S w t.args a 0 := by
  cases t; exact h

theorem InTs.at0 {S : Nat → Prop} {w : World} {l : List T} : ∀ {a : Option Addr} {i : Nat}, InTs S w l a i → ∀ k (hk : k < l.length),
    ∃ (b o : Nat) (u v : Value), a = some ⟨b, o, none⟩ ∧ S b ∧ w.cell? ⟨b, o + (i + k) * 2, none⟩ = some u ∧ w.cell? ⟨b, o + (i + k) * 2 + 1, none⟩ = some v ∧ InT S w l[k] (.agg #[u, v]) := by
  induction l with
  | nil => intro a i _ k hk; simp at hk
  | cons t r ih =>
    intro a i h k hk
    obtain ⟨h0, h1⟩ := h
    cases k with
    | zero => exact h0
    | succ k =>
      obtain ⟨b, o, u, v, h2, h3, h4, h5, h6⟩ := ih h1 k (by simpa using hk)
      refine ⟨b, o, u, v, h2, h3, ?_, ?_, by simpa using h6⟩
      · rw [show i + (k + 1) = i + 1 + k by omega]; exact h4
      · rw [show i + (k + 1) = i + 1 + k by omega]; exact h5
theorem InTs.at_ {S : Nat → Prop} {w : World} {l : List T} {a : Option Addr} (h : InTs S w l a 0) (k : Nat) (hk : k < l.length) :
    ∃ (b o : Nat) (u v : Value), a = some ⟨b, o, none⟩ ∧ S b ∧ w.cell? ⟨b, o + k * 2, none⟩ = some u ∧ w.cell? ⟨b, o + k * 2 + 1, none⟩ = some v ∧ InT S w l[k] (.agg #[u, v]) := by
  have := h.at0 k hk
  simpa using this

/-! ### Rows -/

def Elems (S : Nat → Prop) (w : World) : List T → List Value → Prop
  | [], [] => True
  | t :: r, u :: v :: xs => InT S w t (.agg #[u, v]) ∧ Elems S w r xs
  | _, _ => False

theorem Elems.keep {S : Nat → Prop} {w w' : World} (hb : ∀ (p : Addr) (x : Value), S p.block → w.cell? p = some x → w'.cell? p = some x) : ∀ {l : List T} {xs : List Value}, Elems S w l xs → Elems S w' l xs
  | [], [], _ => trivial
  | _ :: _, _ :: _ :: _, h => ⟨h.1.keep hb, Elems.keep hb h.2⟩
  | [], _ :: _, h => h.elim
  | _ :: _, [], h => h.elim
  | _ :: _, [_], h => h.elim
theorem Elems.mono {S S' : Nat → Prop} {w : World} (hb : ∀ b, S b → b < w.heap.size → S' b) : ∀ {l : List T} {xs : List Value}, Elems S w l xs → Elems S' w l xs
  | [], [], _ => trivial
  | _ :: _, _ :: _ :: _, h => ⟨h.1.mono hb, Elems.mono hb h.2⟩
  | [], _ :: _, h => h.elim
  | _ :: _, [], h => h.elim
  | _ :: _, [_], h => h.elim
theorem Elems.snoc {S : Nat → Prop} {w : World} {t : T} {u v : Value} (ht : InT S w t (.agg #[u, v])) : ∀ {l : List T} {xs : List Value}, Elems S w l xs → Elems S w (l ++ [t]) (xs ++ [u, v])
  | [], [], _ => ⟨ht, trivial⟩
  | _ :: _, _ :: _ :: _, h => ⟨h.1, Elems.snoc ht h.2⟩
  | [], _ :: _, h => h.elim
  | _ :: _, [], h => h.elim
  | _ :: _, [_], h => h.elim
theorem Elems.row {S : Nat → Prop} {w : World} {g o : Nat} (hg : S g) : ∀ {l : List T} {xs : List Value} {i : Nat}, Elems S w l xs → (∀ j u, xs[j]? = some u → w.cell? ⟨g, o + i * 2 + j, none⟩ = some u) → InTs S w l (some ⟨g, o, none⟩) i
  | [], [], _, _, _ => trivial
  | t :: r, u :: v :: xs, i, h, hc => ⟨⟨g, o, u, v, rfl, hg, by simpa using hc 0 u rfl, by simpa using hc 1 v rfl, h.1⟩, Elems.row hg h.2 (fun j x hx => by
      have := hc (j + 2) x (by simpa using hx)
      rwa [show o + (i + 1) * 2 + j = o + i * 2 + (j + 2) by omega])⟩
  | [], _ :: _, _, h, _ => h.elim
  | _ :: _, [], _, h, _ => h.elim
  | _ :: _, [_], _, h, _ => h.elim

/-- What a call may leave: the blocks below 'B', or new ones; not the row's own one. -/
def Own (B N : Nat) (r : Value) (b : Nat) : Prop := (b < B ∨ N ≤ b) ∧ r.ownBlock ≠ some b

/-- Within a call that makes a term of the head 'f' by append: the argument's box, the result's, that of the term that is made; 'rv' in there, and the row 'r'. -/
structure Grow (B : Nat) (w0 : World) (y0 y1 : Value) (f : Int) (ts : List T) (w : World) (rv r : Value) : Prop where
  le : B ≤ w0.heap.size
  below : Below w0.heap.size w0 w
  arg : Blk w w0.heap.size 27 #[y0, y1]
  res : ∃ x0 x1, Blk w (w0.heap.size + 1) 27 #[x0, x1]
  out : Blk w (w0.heap.size + 2) 27 #[.int .i64 f, rv]
  rows : ∃ xs, w.ownsRow (w0.heap.size + 3) 27 2 r ts.length xs ∧ Elems (Own B (w0.heap.size + 3) r) w ts xs

/-- The same, with the row's own block changed or more memory made. -/
theorem Grow.below_ {B : Nat} {w0 w w' : World} {y0 y1 : Value} {f : Int} {ts : List T} {rv r : Value} (h : Grow B w0 y0 y1 f ts w rv r) (hb : Below w.heap.size w w') : Grow B w0 y0 y1 f ts w' rv r := by
  obtain ⟨x0, x1, hr⟩ := h.res
  obtain ⟨xs, h1, h2⟩ := h.rows
  refine ⟨h.le, bstep h.below hb, h.arg.below hb, ⟨x0, x1, hr.below hb⟩, h.out.below hb, xs, ?_, h2.keep fun p x _ hx => bkeeps hb p x hx⟩
  refine ⟨h1.1, h1.2.imp id ?_⟩
  rintro ⟨g, cap, cur, e1, e2, e3, e4, e5, e6, e7⟩
  exact ⟨g, cap, cur, e1, e2, (hb.block g (lt_of_block e3)).trans e3, e4, e5, e6, e7⟩

theorem Grow.start {B : Nat} {w0 : World} {y0 y1 x0 x1 : Value} {f : Int} {w : World} (hle : B ≤ w0.heap.size) (hb : Below w0.heap.size w0 w) (h0 : Blk w w0.heap.size 27 #[y0, y1]) (h1 : Blk w (w0.heap.size + 1) 27 #[x0, x1]) (h2 : Blk w (w0.heap.size + 2) 27 #[.int .i64 f, .slice none 0 0]) :
    Grow B w0 y0 y1 f [] w (.slice none 0 0) (.slice none 0 0) := ⟨hle, hb, h0, ⟨x0, x1, h1⟩, h2, [], ⟨rfl, .inl ⟨rfl, rfl⟩⟩, trivial⟩

theorem Grow.drew {B : Nat} {w0 w : World} {y0 y1 : Value} {f : Int} {ts : List T} {rv r : Value} (h : Grow B w0 y0 y1 f ts w rv r) : Grow B w0 y0 y1 f ts w.drew rv r := by
  obtain ⟨x0, x1, hr⟩ := h.res
  obtain ⟨xs, h1, h2⟩ := h.rows
  exact ⟨h.le, h.below.drew, h.arg, ⟨x0, x1, hr⟩, h.out, xs, h1.drew, Elems.keep (w := w) (w' := w.drew) (fun p x _ hx => hx) h2⟩

/-- Behind the store of the row. -/
theorem Grow.store {B : Nat} {w0 w : World} {y0 y1 : Value} {f : Int} {ts : List T} {rv r : Value} (h : Grow B w0 y0 y1 f ts w rv r) : Grow B w0 y0 y1 f ts (w.setCell ⟨w0.heap.size + 2, 1, none⟩ r) r r := by
  obtain ⟨x0, x1, hr⟩ := h.res
  obtain ⟨xs, h1, h2⟩ := h.rows
  have hg := gsetc w ⟨w0.heap.size + 2, 1, none⟩ r
  have hlt := h.arg.lt
  have hle := h.le
  refine ⟨hle, h.below.grown hg (by omega) (fun b hb => ?_), h.arg.far (by simp) _, ⟨x0, x1, hr.far (by simp) _⟩, by simpa using h.out.set_ 1 r, xs, h1.kept hg (.inr fun e => ?_), h2.keep fun p x hp hx => hg.cell hx (fun e => ?_)⟩
  · simp only [Option.some.injEq] at hb; subst hb; simp
  · have := h1.lt _ e; simp at this
  · have hp := hp.1
    simp only [Option.some.injEq] at e
    rw [e] at hp
    simp at hp
    omega

/-! ### One term more -/

/-- What lies below 'B', or was made since there were 'N' blocks. -/
def New (B N : Nat) (b : Nat) : Prop := b < B ∨ N ≤ b

section
variable {B : Nat} {w0 wr : World} {y0 y1 : Value} {f : Int} {ts : List T} {rv : Value} {t : T}

/-- The chain: the call, the row of one, the append, the store. -/
def GrowG (B : Nat) (w0 wr : World) (y0 y1 : Value) (f : Int) (ts : List T) (rv : Value) (t : T) : List Value → World → Prop
  | [], w => w = wr.drew ∧ Grow B w0 y0 y1 f ts w rv rv
  | [v], w => Grow B w0 y0 y1 f ts w rv rv ∧ wr.heap.size ≤ w.heap.size ∧ InT (New B wr.heap.size) w t v
  | [v, s], w => Grow B w0 y0 y1 f ts w rv rv ∧ InT (New B wr.heap.size) w t v ∧ ∃ g u x, s = .slice (some ⟨g, 0, none⟩) 1 1 ∧ v = .agg #[u, x] ∧ Blk w g 27 #[u, x] ∧ wr.heap.size ≤ g ∧ u.oneCell' = true ∧ x.oneCell' = true
  | [_, _, r], w => Grow B w0 y0 y1 f (ts ++ [t]) w rv r ∧ ∃ a n c, r = .slice a n c
  | _ :: _ :: r :: _, w => Grow B w0 y0 y1 f (ts ++ [t]) w r r ∧ ∃ a n c, r = .slice a n c

theorem GrowG.grow : ∀ {vs : List Value} {w : World}, GrowG B w0 wr y0 y1 f ts rv t vs w → ∃ ts' rv' r', Grow B w0 y0 y1 f ts' w rv' r' ∧ (vs.length ≤ 3 → rv' = rv)
  | [], _, h => ⟨_, _, _, h.2, fun _ => rfl⟩
  | [_], _, h => ⟨_, _, _, h.1, fun _ => rfl⟩
  | [_, _], _, h => ⟨_, _, _, h.1, fun _ => rfl⟩
  | [_, _, _], _, h => ⟨_, _, _, h.1, fun _ => rfl⟩
  | _ :: _ :: r :: _ :: _, _, h => ⟨_, _, _, h.1, fun e => by simp at e⟩

theorem GrowG.arg {vs : List Value} {w : World} (h : GrowG B w0 wr y0 y1 f ts rv t vs w) : w.cell? ⟨w0.heap.size, 0, none⟩ = some y0 ∧ w.cell? ⟨w0.heap.size, 1, none⟩ = some y1 := by
  obtain ⟨_, _, _, h, _⟩ := h.grow
  exact ⟨h.arg.cell 0, h.arg.cell 1⟩
theorem GrowG.out {vs : List Value} {w : World} (h : GrowG B w0 wr y0 y1 f ts rv t vs w) (hl : vs.length ≤ 3) : w.cell? ⟨w0.heap.size + 2, 1, none⟩ = some rv := by
  obtain ⟨_, _, _, h, e⟩ := h.grow
  rw [← e hl]
  exact h.out.cell 1
theorem GrowG.old {vs : List Value} {w : World} (h : GrowG B w0 wr y0 y1 f ts rv t vs w) {p : Addr} {x : Value} (hp : p.block < B) (hx : w0.cell? p = some x) : w.cell? p = some x := by
  obtain ⟨_, _, _, h, _⟩ := h.grow
  exact (h.below.cell (Nat.lt_of_lt_of_le hp h.le)).trans hx

theorem GrowG.call {w w' : World} {v : Value} (h : GrowG B w0 wr y0 y1 f ts rv t [] w) (hi : InT (New B w.heap.size) w' t v) (hb : Below w.heap.size w w') : GrowG B w0 wr y0 y1 f ts rv t ([] ++ [v]) w' := by
  obtain ⟨rfl, h⟩ := h
  exact ⟨h.below_ hb, hb.size, hi⟩

theorem wp_rowT {w : World} {a : Act} {K : Act → World → Prop} {Q : Exit → Act → World → Prop} {o : Oper} {x : Operand} {v : Value} {S : Nat → Prop} (ho : o.op = .buildSlice 25 1 #[(0, x)]) (hx : a.eval x = v) (hv : InT S w t v)
    (hK : ∀ u y, v = .agg #[u, y] → u.oneCell' = true → y.oneCell' = true → K (a.put o.dst (.slice (some ⟨w.heap.size, 0, none⟩) 1 1)) (w.alloc (.cells #[u, y] 27))) : o.wp Try.prog a w K Q := by
  obtain ⟨_, a1, c1, rfl, _, _, _⟩ := hv.form
  unfold Oper.wp execOp
  simp only [ho, hx, List.map_toArray, List.map_cons, List.map_nil]
  go_simp
  exact hK _ _ rfl rfl rfl

theorem GrowG.row {w : World} {v u y : Value} (h : GrowG B w0 wr y0 y1 f ts rv t [v] w) (hv : v = .agg #[u, y]) (hu : u.oneCell' = true) (hy : y.oneCell' = true) :
    GrowG B w0 wr y0 y1 f ts rv t ([v] ++ [.slice (some ⟨w.heap.size, 0, none⟩) 1 1]) (w.alloc (.cells #[u, y] 27)) := by
  obtain ⟨h1, h2, h3⟩ := h
  have hb := balloc w (.cells #[u, y] 27)
  exact ⟨h1.below_ hb, h3.below hb, _, u, y, rfl, hv, Blk.new' rfl, h2, hu, hy⟩

theorem GrowG.append {w w' : World} {v s u x : Value} {g1 c1 : Nat} {xs : List Value} (h : GrowG B w0 wr y0 y1 f ts rv t [v, s] w) (hwr : ∀ b, rv.ownBlock = some b → b < wr.heap.size) (hN : w0.heap.size + 3 ≤ wr.heap.size)
    (hv : v = .agg #[u, x]) (hxs : Elems (Own B (w0.heap.size + 3) rv) w ts xs)
    (hown : w'.ownsRow (w0.heap.size + 3) 27 2 (.slice (some ⟨g1, 0, none⟩) (ts.length + 1) c1) (ts.length + 1) (xs ++ [u, x])) (hgrow : w.grownBy w' rv.ownBlock) (hat : rv.ownBlock = some g1 ∨ g1 = w.heap.size) :
    GrowG B w0 wr y0 y1 f ts rv t ([v, s] ++ [.slice (some ⟨g1, 0, none⟩) (ts.length + 1) c1]) w' := by
  obtain ⟨h1, h3, _⟩ := h
  subst hv
  obtain ⟨x0, x1, hr⟩ := h1.res
  obtain ⟨xs', ho, _⟩ := h1.rows
  have hlt := h1.out.lt
  have hlow := ho.lt
  have hle := h1.le
  have far : ∀ b, b < w0.heap.size + 3 → some b ≠ rv.ownBlock := fun b hb e => by have := (hlow b e.symm).1; omega
  have hfresh : ∀ b, b < w.heap.size → rv.ownBlock ≠ some b → some g1 ≠ some b := by
    intro b hb hne e
    simp only [Option.some.injEq] at e
    subst e
    rcases hat with e | e
    · exact hne e
    · omega
  refine ⟨⟨hle, h1.below.grown hgrow (by omega) (fun b hb => by have := (hlow b hb).1; omega), h1.arg.grown hgrow (far _ (by omega)), ⟨x0, x1, hr.grown hgrow (far _ (by omega))⟩, h1.out.grown hgrow (far _ (by omega)), xs ++ [u, x], by simpa using hown, ?_⟩, _, _, _, rfl⟩
  have hK : ∀ (p : Addr) (y : Value), rv.ownBlock ≠ some p.block → w.cell? p = some y → w'.cell? p = some y := fun p y hp hy => hgrow.cell hy (Ne.symm hp)
  refine Elems.snoc ?_ ?_
  · refine InT.mono (S := fun b => New B wr.heap.size b ∧ some g1 ≠ some b) ?_ (InT.keep (w := w) ?_ (InT.mono ?_ h3))
    · intro b hb _
      refine ⟨hb.1.imp id (fun h => by omega), hb.2⟩
    · intro p y hp hy
      refine hK p y (fun e => ?_) hy
      have := hwr _ e
      have := (hlow _ e).1
      rcases hp.1 with h | h <;> omega
    · intro b hb hlt
      refine ⟨hb, hfresh b hlt (fun e => ?_)⟩
      have := hwr _ e
      have := (hlow _ e).1
      rcases hb with h | h <;> omega
  · refine Elems.mono (S := fun b => Own B (w0.heap.size + 3) rv b ∧ some g1 ≠ some b) (fun b hb _ => ⟨hb.1.1, hb.2⟩) (Elems.keep (w := w) (fun p y hp hy => hK p y hp.1.2 hy) (Elems.mono (fun b hb hlt => ⟨hb, hfresh b hlt hb.2⟩) hxs))

theorem GrowG.store {w : World} {v s r x : Value} (h : GrowG B w0 wr y0 y1 f ts rv t [v, s, r] w) : GrowG B w0 wr y0 y1 f ts rv t ([v, s, r] ++ [x]) (w.setCell ⟨w0.heap.size + 2, 1, none⟩ r) := ⟨h.1.store, h.2⟩

theorem GrowG.inT {w : World} {v : Value} (h : GrowG B w0 wr y0 y1 f ts rv t [v] w) : InT (New B wr.heap.size) w t v := h.2.2
theorem GrowG.two {w : World} {v s : Value} (h : GrowG B w0 wr y0 y1 f ts rv t [v, s] w) : Grow B w0 y0 y1 f ts w rv rv ∧ InT (New B wr.heap.size) w t v ∧ ∃ g u x, s = .slice (some ⟨g, 0, none⟩) 1 1 ∧ v = .agg #[u, x] ∧ Blk w g 27 #[u, x] ∧ wr.heap.size ≤ g ∧ u.oneCell' = true ∧ x.oneCell' = true := h
theorem GrowG.three {w : World} {v s r : Value} (h : GrowG B w0 wr y0 y1 f ts rv t [v, s, r] w) : Grow B w0 y0 y1 f (ts ++ [t]) w rv r ∧ ∃ a n c, r = .slice a n c := h
theorem GrowG.four {w : World} {v s r q : Value} (h : GrowG B w0 wr y0 y1 f ts rv t [v, s, r, q] w) : Grow B w0 y0 y1 f (ts ++ [t]) w r r ∧ ∃ a n c, r = .slice a n c := h
theorem GrowG.oldT {vs : List Value} {w : World} {s : T} {v : Value} (h : GrowG B w0 wr y0 y1 f ts rv t vs w) (hv : InT (fun b => b < B) w0 s v) : InT (fun b => b < B) w s v := by
  obtain ⟨_, _, _, h, _⟩ := h.grow
  exact hv.old h.below h.le
theorem GrowG.oldTs {vs : List Value} {w : World} {l : List T} {a : Option Addr} {i : Nat} (h : GrowG B w0 wr y0 y1 f ts rv t vs w) (hv : InTs (fun b => b < B) w0 l a i) : InTs (fun b => b < B) w l a i := by
  obtain ⟨_, _, _, h, _⟩ := h.grow
  exact hv.old h.below h.le
theorem GrowG.size {vs : List Value} {w : World} (h : GrowG B w0 wr y0 y1 f ts rv t vs w) : B ≤ w.heap.size := by
  obtain ⟨_, _, _, h, _⟩ := h.grow
  have := h.arg.lt
  have := h.le
  omega

theorem vs_eq0 {vs : List Value} (h : vs.length = 0) : vs = [] := List.length_eq_zero_iff.1 h
theorem vs_eq1 {vs : List Value} (h : vs.length = 1) : ∃ v, vs = [v] := by
  match vs, h with
  | [v], _ => exact ⟨v, rfl⟩
theorem vs_eq2 {vs : List Value} (h : vs.length = 2) : ∃ v s, vs = [v, s] := by
  match vs, h with
  | [v, s], _ => exact ⟨v, s, rfl⟩
theorem vs_eq3 {vs : List Value} (h : vs.length = 3) : ∃ v s r, vs = [v, s, r] := by
  match vs, h with
  | [v, s, r], _ => exact ⟨v, s, r, rfl⟩
theorem vs_eq4 {vs : List Value} (h : vs.length = 4) : ∃ v s r q, vs = [v, s, r, q] := by
  match vs, h with
  | [v, s, r, q], _ => exact ⟨v, s, r, q, rfl⟩

theorem wp_storeT {w : World} {a : Act} {K : Act → World → Prop} {Q : Exit → Act → World → Prop} {o : Oper} {x y : Operand} {b i : Nat} {ra : Option Addr} {rn rc : Nat} {old : Value} (ho : o.op = .store 25 x y) (hx : a.eval x = .pointer (some ⟨b, i, none⟩)) (hy : a.eval y = .slice ra rn rc) (hc : w.cell? ⟨b, i, none⟩ = some old) (hf : w.frozen? ⟨b, i, none⟩ = false)
    (hK : ∀ v, K (a.put o.dst v) (w.setCell ⟨b, i, none⟩ (.slice ra rn rc))) : o.wp Try.prog a w K Q := by
  unfold Oper.wp execOp
  simp only [ho, hx, hy]
  go_simp
  exact hK _

theorem wp_appendT {w : World} {a : Act} {K : Act → World → Prop} {Q : Exit → Act → World → Prop} {o : Oper} {x y : Operand} {v s : Value}
    (ho : o.op = .call { callee := .builtin .append, args := #[x, y], argTypes := #[25, 25] }) (hx : a.eval x = rv) (hy : a.eval y = s) (hlen : ts.length + 1 ≤ 4294967296)
    (h : GrowG B w0 wr y0 y1 f ts rv t [v, s] w) (hwr : ∀ b, rv.ownBlock = some b → b < wr.heap.size) (hN : w0.heap.size + 3 ≤ wr.heap.size)
    (hK : ∀ r w', GrowG B w0 wr y0 y1 f ts rv t ([v, s] ++ [r]) w' → K (a.put o.dst r) w') : o.wp Try.prog a w K Q := by
  have hint : (Try.prog.info? 27).map (fun i => (i.zero, i.size, i.bytes)) = some (some (.agg #[.int .i64 0, .slice none 0 0]), 2, 32) := by kernel_rfl
  obtain ⟨i0, hi, hz0, hz1, hz2⟩ := info_parts hint
  obtain ⟨h1, h3, g, u, z, rfl, rfl, hB, hg, o1, o2⟩ := h.two
  obtain ⟨xs, hx1, hx2⟩ := h1.rows
  have hsz := h1.out.lt
  refine wp_append_lies _ x y 25 ho (w0.heap.size + 3) 27 i0 (.agg #[.int .i64 0, .slice none 0 0]) 2 32 Try.underlying25 hi hz0 hz1 hz2 rfl (by decide) rv ts.length xs hx hx1 ⟨g, 0, none⟩ 1 1 [u, z] hy rfl (World.news_of_block hB) (by simp [o1, o2]) (by omega) (by unfold maxLen; omega) (by omega) (by omega) _ rfl ?_
  intro g1 c1 w' hown hgrow hat hlt
  exact hK _ _ (h.append hwr hN rfl hx2 hown hgrow hat)

/-- The row is whole. -/
theorem Grow.value {w : World} {r : Value} (hf : I64 f) (h : Grow B w0 y0 y1 f ts w r r) : InT (New B (w0.heap.size + 3)) w (.mk f ts) (.agg #[.int .i64 f, r]) := by
  obtain ⟨xs, h1, h2⟩ := h.rows
  rcases h1.2 with ⟨rfl, h0⟩ | ⟨g, cap, cur, rfl, hg, hb, hc, hm, hs, ht⟩
  · have : ts = [] := List.length_eq_zero_iff.1 h0
    subst this
    exact ⟨hf, none, 0, rfl, by simp, by unfold maxLen; omega, trivial⟩
  · refine ⟨hf, _, cap, rfl, hc, hm, ?_⟩
    refine InTs.mono (S := fun b => New B (w0.heap.size + 3) b) (fun b hb _ => hb) (Elems.row (.inr hg) (Elems.mono (fun b hb _ => hb.1) h2) (fun j u hj => ?_))
    have := h1.cells (g := g) rfl j u hj
    have e : (⟨g, 0, none⟩ : Addr).add j = ⟨g, j, none⟩ := by unfold Addr.add; split <;> simp_all
    rw [e] at this
    simpa using this

theorem Grow.start3 {x0 x1 : Value} (hle : B ≤ w0.heap.size) : Grow B w0 y0 y1 f [] (((w0.alloc (.cells #[y0, y1] 27)).alloc (.cells #[x0, x1] 27)).alloc (.cells #[.int .i64 f, .slice none 0 0] 27)) (.slice none 0 0) (.slice none 0 0) :=
  .start hle (bstep (balloc2 _ _ _) (balloc _ _)) (((Blk.new' rfl).alloc _).alloc _) ((Blk.new' (by simp)).alloc _) (Blk.new' (by simp))

/-- A store into the result's box. -/
theorem New.far {w w' : World} {N i : Nat} {u : Value} {S : Nat → Prop} (hN : ¬ S N) (hw : w' = w.setCell ⟨N, i, none⟩ u) {t : T} {v : Value} (h : InT S w t v) : InT S w' t v := by
  subst hw
  exact h.keep fun p x hp hx => (gsetc w ⟨N, i, none⟩ u).cell hx (fun e => hN (by simp only [Option.some.injEq] at e; rwa [e] at hp))

theorem Grow.finish {w : World} {r u0 u1 : Value} (hf : I64 f) (h : Grow B w0 y0 y1 f ts w r r) :
    InT (New B w0.heap.size) ((w.setCell ⟨w0.heap.size + 1, 0, none⟩ u0).setCell ⟨w0.heap.size + 1, 1, none⟩ u1) (.mk f ts) (.agg #[.int .i64 f, r]) ∧ Below w0.heap.size w0 ((w.setCell ⟨w0.heap.size + 1, 0, none⟩ u0).setCell ⟨w0.heap.size + 1, 1, none⟩ u1) := by
  have hle := h.le
  have hn : ¬ New B (w0.heap.size + 3) (w0.heap.size + 1) := by unfold New; omega
  refine ⟨(New.far hn rfl (New.far hn rfl (h.value hf))).mono (fun b hb _ => hb.imp id (fun h => by omega)), ?_⟩
  exact (h.below.setCell (p := ⟨w0.heap.size + 1, 0, none⟩) (by simp) _).setCell (p := ⟨w0.heap.size + 1, 1, none⟩) (by simp) _

end

end Go.Proofs.Ytlkiabgpnboicaa.Old

/- Terms put in for variables, and copies of terms: what they are, and where they lie. -/
namespace Go.Proofs.Ytlkiabgpnboicaa.Old
set_option maxRecDepth 100000
open Go.RowKit Go.Sort Go

def putSp (w : World) (bt ot ct k cl : Nat) (al : Option Addr) (ar ls : List T) (rv u x : Value) : List (Bool × Value) := [(true, .pointer (some ⟨(w.heap.size + 2), 1, none⟩)), (true, rv), (true, .pointer (some ⟨w.heap.size, 1, none⟩)), (true, .slice (some ⟨bt, ot, none⟩) ar.length ct), (true, .int .i64 k), (true, .pointer (some ⟨bt, ot + k * 2, none⟩)), (true, (.agg #[u, x])), (true, .slice al ls.length cl), (true, undef), (true, undef), (true, undef), (true, .pointer (some ⟨(w.heap.size + 2), 1, none⟩)), (true, undef)]
def copySp (w : World) (bt ot ct k : Nat) (ar : List T) (rv u x : Value) : List (Bool × Value) := [(true, .pointer (some ⟨(w.heap.size + 2), 1, none⟩)), (true, rv), (true, .pointer (some ⟨w.heap.size, 1, none⟩)), (true, .slice (some ⟨bt, ot, none⟩) ar.length ct), (true, .int .i64 k), (true, .pointer (some ⟨bt, ot + k * 2, none⟩)), (true, (.agg #[u, x])), (true, undef), (true, undef), (true, undef), (true, .pointer (some ⟨(w.heap.size + 2), 1, none⟩)), (true, undef)]

theorem len_sizeL : ∀ l : List T, l.length ≤ T.sizeL l
  | [] => by simp [T.sizeL]
  | t :: r => by have := len_sizeL r; have := T.size_eq t; simp [T.sizeL]; omega
set_option maxHeartbeats 2000000 in
theorem copy_any (B : Nat) : ∀ (t : T) (w : World) (v : Value), t.size ≤ 4294967296 → InT (fun b => b < B) w t v → B ≤ w.heap.size →
    Calls Try.prog 31 #[v] w fun e w' => ∃ v', e = .returned v' ∧ (InT (New B w.heap.size) w' t v' ∧ Below w.heap.size w w') := by
  intro t
  induction t using T.ind with
  | h f ar ih =>
    intro w v hmax hv hB
    obtain ⟨hf, at_, ct, rfl, hc, hm, hl⟩ := hv
    have hlen : ar.length ≤ 4294967295 := by
      have := T.size_eq (T.mk f ar)
      have h2 := len_sizeL ar
      simp at this; omega
    unfold maxLen at hm
    go_enter Try.func31, Try.ntmps31
    go_wp2_with (refine stop_region ?_)
    go_loopw [4] (fun i wr => ∃ (k : Nat) (rv : Value), k ≤ ar.length ∧ i = .int .i64 k ∧ Hid (Grow B w (.int .i64 f) (.slice at_ ar.length ct) f (ar.take k) wr rv rv) ∧ Hid (∃ a n c, rv = .slice a n c)) (fun i _ => ar.length - (intOf i).toNat)
    case atStart =>
      exact ⟨0, .slice none 0 0, Nat.zero_le _, rfl, .start3 hB, ⟨_, _, _, rfl⟩⟩
    case round =>
      obtain ⟨k, rv, hk, rfl, HG, hsh⟩ := hrel
      have k0 := HG.out.arg.cell 0
      have k1 := HG.out.arg.cell 1
      simp only [List.getElem?_toArray, List.getElem?_cons_zero, List.getElem?_cons_succ] at k0 k1
      by_cases hlt : k < ar.length
      · obtain ⟨bt, ot, u, x, rfl, hS, g0, g1, gt⟩ := hl.at_ k hlt
        have RC := Lib.hid (fun (w : World) => ih ar[k] (List.getElem_mem hlt) w (.agg #[u, x]) (by have := T.size_eq (T.mk f ar); have := T.size_le_sizeL (List.getElem_mem hlt); simp at *; omega))
        have HS := Lib.hid hS
        have Hlt := Lib.hid hlt
        have Hmax := Lib.hid hlen
        have HR := Lib.hid (show ∀ b, rv.ownBlock = some b → b < wr.heap.size from fun b hb => by obtain ⟨xs, h1, _⟩ := HG.out.rows; exact (h1.lt b hb).2)
        have HN := Lib.hid (show w.heap.size + 3 ≤ wr.heap.size from HG.out.out.lt)
        have z1 : (k : Int) < (ar.length : Int) := by omega
        have Hg0 := Lib.hid g0
        have Hg1 := Lib.hid g1
        have Hgt := Lib.hid gt
        clear g0 g1 gt
        clear ih hS hlen
        go_wp2_with (refine stop_region ?_)
        refine Stop.mk ?_
        refine wp_region_chain [7, 8, 9, 11] (optP (copySp w bt ot ct k ar rv u x)) (GrowG B w wr (.int .i64 f) (.slice (some ⟨bt, ot, none⟩) ar.length ct) f (ar.take k) rv (ar[k])) [false, false, false, false, false, false, false, false, false, false, false, false, false, false, false, true, true, true, true, true, true, true, true, true, true, true, false] (by kernel_rfl) (by kernel_rfl) (by kernel_rfl) (by decide) (by kernel_rfl) (by kernel_rfl) (⟨rfl, HG.out.drew⟩) ?_ ?_
        · refine ⟨.inl ⟨by decide, true, .none rfl, fun h => optUndef h, fun hβ fx wx vs C => ?_⟩, ?_⟩
          · exact wp_fld_apiTerm_1 rfl ((rel_eval (by kernel_rfl)).trans (show fx 3 = .pointer (some ⟨(w.heap.size + 2), 0, none⟩) from C.keep 3 (by kernel_rfl))) ⟨_, rfl, rfl, optDef hβ rfl⟩
          refine ⟨.inl ⟨by decide, true, .none rfl, fun h => optUndef h, fun hβ fx wx vs C => ?_⟩, ?_⟩
          · exact wp_ld_LapiTerm rfl ((rel_eval (by kernel_rfl)).trans (optPVal (x := .pointer (some ⟨(w.heap.size + 2), 1, none⟩)) (β := true) (C.dep 0 15 (by kernel_rfl) (by decide)) rfl rfl)) (C.now.out (Nat.le_trans (C.most 2 9 rfl (by kernel_rfl)) (by decide))) ⟨_, rfl, rfl, optDef hβ rfl⟩
          refine ⟨.inl ⟨by decide, true, .none rfl, fun h => optUndef h, fun hβ fx wx vs C => ?_⟩, ?_⟩
          · exact wp_fld_apiTerm_1 rfl ((rel_eval (by kernel_rfl)).trans (show fx 1 = .pointer (some ⟨w.heap.size, 0, none⟩) from C.keep 1 (by kernel_rfl))) ⟨_, rfl, rfl, optDef hβ rfl⟩
          refine ⟨.inl ⟨by decide, true, .none rfl, fun h => optUndef h, fun hβ fx wx vs C => ?_⟩, ?_⟩
          · exact wp_ld_LapiTerm rfl ((rel_eval (by kernel_rfl)).trans (optPVal (x := .pointer (some ⟨w.heap.size, 1, none⟩)) (β := true) (C.dep 2 17 (by kernel_rfl) (by decide)) rfl rfl)) (C.now.arg.2) ⟨_, rfl, rfl, optDef hβ rfl⟩
          refine ⟨.inl ⟨by decide, true, .none rfl, fun h => optUndef h, fun hβ fx wx vs C => ?_⟩, ?_⟩
          · exact wp_move rfl ((rel_eval (by kernel_rfl)).trans (show fx 4 = .int .i64 k from C.keep 4 (by kernel_rfl))) ⟨_, rfl, rfl, optDef hβ rfl⟩
          refine ⟨.inl ⟨by decide, true, .none rfl, fun h => optUndef h, fun hβ fx wx vs C => ?_⟩, ?_⟩
          · exact wp_ix_LapiTerm rfl ((rel_eval (by kernel_rfl)).trans (optPVal (x := .slice (some ⟨bt, ot, none⟩) ar.length ct) (β := true) (C.dep 3 18 (by kernel_rfl) (by decide)) rfl rfl)) ((rel_eval (by kernel_rfl)).trans (optPVal (x := .int .i64 k) (β := true) (C.dep 4 19 (by kernel_rfl) (by decide)) rfl rfl)) (Hlt.out) ⟨_, rfl, rfl, optDef hβ rfl⟩
          refine ⟨.inl ⟨by decide, true, .none rfl, fun h => optUndef h, fun hβ fx wx vs C => ?_⟩, ?_⟩
          · exact wp_ld_apiTerm rfl ((rel_eval (by kernel_rfl)).trans (optPVal (x := .pointer (some ⟨bt, ot + k * 2, none⟩)) (β := true) (C.dep 5 20 (by kernel_rfl) (by decide)) rfl rfl)) (C.now.old HS.out Hg0.out) (C.now.old HS.out Hg1.out) ⟨_, rfl, rfl, optDef hβ rfl⟩
          refine ⟨.inr ⟨0, rfl, rfl, fun fx wx vs C hlen => ?_⟩, ?_⟩
          · obtain ⟨rfl⟩ := vs_eq0 hlen
            exact wp_call (by kernel_rfl) rfl (hv1 ((rel_eval (by kernel_rfl)).trans (optPVal (x := (.agg #[u, x])) (β := true) (C.dep 6 21 (by kernel_rfl) (by decide)) rfl rfl))) (RC.out _ (C.now.oldT Hgt.out) C.now.size) (fun v w' h => ⟨v, rfl, C.now.call h.1 h.2⟩)
          refine ⟨.inr ⟨1, rfl, rfl, fun fx wx vs C hlen => ?_⟩, ?_⟩
          · obtain ⟨v0, rfl⟩ := vs_eq1 hlen
            exact wp_rowT rfl ((rel_eval (by kernel_rfl)).trans (Option.some.inj (C.link 0 7 22 rfl (by kernel_rfl))).symm) (C.now.inT) (fun u y h1 h2 h3 => ⟨_, rfl, C.now.row h1 h2 h3⟩)
          refine ⟨.inr ⟨2, rfl, rfl, fun fx wx vs C hlen => ?_⟩, ?_⟩
          · obtain ⟨v0, v1, rfl⟩ := vs_eq2 hlen
            exact wp_appendT rfl ((rel_eval (by kernel_rfl)).trans (optPVal (x := rv) (β := true) (C.dep 1 16 (by kernel_rfl) (by decide)) rfl rfl)) ((rel_eval (by kernel_rfl)).trans (Option.some.inj (C.link 1 8 23 rfl (by kernel_rfl))).symm) (by have := Hmax.out; simp; omega) C.now HR.out HN.out (fun r w' h => ⟨_, rfl, h⟩)
          refine ⟨.inl ⟨by decide, true, .none rfl, fun h => optUndef h, fun hβ fx wx vs C => ?_⟩, ?_⟩
          · exact wp_fld_apiTerm_1 rfl ((rel_eval (by kernel_rfl)).trans (show fx 3 = .pointer (some ⟨(w.heap.size + 2), 0, none⟩) from C.keep 3 (by kernel_rfl))) ⟨_, rfl, rfl, optDef hβ rfl⟩
          refine ⟨.inr ⟨3, rfl, rfl, fun fx wx vs C hlen => ?_⟩, ?_⟩
          · obtain ⟨v0, v1, v2, rfl⟩ := vs_eq3 hlen
            obtain ⟨hq, ra, rn, rc, hr⟩ := C.now.three
            subst hr
            exact wp_storeT rfl ((rel_eval (by kernel_rfl)).trans (optPVal (x := .pointer (some ⟨(w.heap.size + 2), 1, none⟩)) (β := true) (C.dep 10 25 (by kernel_rfl) (by decide)) rfl rfl)) ((rel_eval (by kernel_rfl)).trans (Option.some.inj (C.link 2 9 24 rfl (by kernel_rfl))).symm) (hq.out.cell 1) (hq.out.frozen 1) (fun v => ⟨v, rfl, C.now.store⟩)
          exact trivial
        intro ux w3 vs hlen hG hu hch
        obtain ⟨v0, v1, v2, v3, rfl⟩ := vs_eq4 hlen
        obtain ⟨hG2, hsh2⟩ := hG.four
        have HhG2 := Lib.hid hG2
        have Hhsh2 := Lib.hid hsh2
        clear hG2 hsh2
        clear hG hu hch HG hsh k0 k1
        simp only [finM]
        go_wp2_with fail
        go_roundw
        case rel => exact ⟨k + 1, v2, by omega, by go_num, by rw [List.take_succ_eq_append_getElem hlt]; exact HhG2.out, Hhsh2.out⟩
        case measure => simp [intOf]; omega
      · obtain rfl : k = ar.length := by omega
        obtain ⟨ra, rn, rc, rfl⟩ := hsh.out
        have o0 := HG.out.out.cell 0
        have o1 := HG.out.out.cell 1
        obtain ⟨x0, x1, hr⟩ := HG.out.res
        have c0 := hr.cell 0
        have c1 := hr.cell 1
        have y0 := hr.frozen 0
        have y1 := hr.frozen 1
        simp only [List.getElem?_toArray, List.getElem?_cons_zero, List.getElem?_cons_succ] at o0 o1 c0 c1
        have Hhr := Lib.hid hr
        clear hr
        go_wp2_with fail
        refine bodyPost_ret (v := .agg #[.int .i64 f, .slice ra rn rc]) (by simp [results, Try.results31, go_sem, c0, c1]) rfl ?_
        have := HG.out.finish (u0 := .int .i64 f) (u1 := .slice ra rn rc) hf
        rw [List.take_length] at this
        exact ⟨_, rfl, this.1, this.2⟩

set_option maxHeartbeats 4000000 in
theorem put_any (B : Nat) (ls : List T) : ∀ (t : T) (w : World) (v : Value) (al : Option Addr) (cl : Nat), t.size ≤ 4294967296 → InT (fun b => b < B) w t v → InTs (fun b => b < B) w ls al 0 → ls.length ≤ cl → cl ≤ maxLen → B ≤ w.heap.size →
    Calls Try.prog 17 #[v, .slice al ls.length cl] w fun e w' => ∃ v', e = .returned v' ∧ (InT (New B w.heap.size) w' (t.put ls) v' ∧ Below w.heap.size w w') := by
  intro t
  induction t using T.ind with
  | h f ar ih =>
    intro w v al cl hmax hv hls hlc hlm hB
    obtain ⟨hf, at_, ct, rfl, hc, hm, hl⟩ := id hv
    have hlen : ar.length ≤ 4294967295 := by
      have := T.size_eq (T.mk f ar)
      have h2 := len_sizeL ar
      simp at this; omega
    unfold maxLen at hm
    have hlm' := hlm
    unfold maxLen at hlm'
    by_cases hneg : f < 0
    · obtain ⟨n, rfl⟩ : ∃ n : Nat, f = -1 - n := ⟨(-1 - f).toNat, by omega⟩
      have hn : (-1 - (-1 - (n : Int))).toNat = n := by omega
      have hwr : IntKind.i64.wrap (-1 - (-1 - (n : Int))) = n := by
        have := hf.1
        rw [show -1 - (-1 - (n : Int)) = n by omega]
        exact IntWalk.i64_in _ (by omega)
      by_cases hlt : n < ls.length
      · obtain ⟨bl, ol, u, x, rfl, hS, g0, g1, gt⟩ := hls.at_ n hlt
        obtain ⟨hfi, aa, cc, hux, hcc, hcm, hll⟩ := gt.form
        simp only [Value.agg.injEq, Array.mk.injEq, List.cons.injEq, and_true] at hux
        obtain ⟨rfl, rfl⟩ := hux
        have z0 : (0 : Int) ≤ (n : Int) := by omega
        have z1 : (n : Int) < (ls.length : Int) := by omega
        have g0 := calloc (calloc g0 (.cells #[.int .i64 (-1 - n), .slice at_ ar.length ct] 27)) (.cells #[.int .i64 0, .slice none 0 0] 27)
        have g1 := calloc (calloc g1 (.cells #[.int .i64 (-1 - n), .slice at_ ar.length ct] 27)) (.cells #[.int .i64 0, .slice none 0 0] 27)
        have hget : T.put ls (.mk (-1 - n) ar) = ls[n] := by rw [T.put, if_pos hneg, hn]; simp [hlt]
        have Hgt := Lib.hid gt
        have Hhget := Lib.hid hget
        have Hhll := Lib.hid hll
        clear gt hget hll
        have Hv := Lib.hid hv
        clear hv ih
        go_enter Try.func17, Try.ntmps17
        go_wp2_with (refine stop_region ?_)
        refine bodyPost_ret (v := .agg #[.int .i64 ls[n].f, .slice aa ls[n].args.length cc]) (by simp [results, Try.results17, go_sem]) rfl ?_
        refine ⟨_, rfl, ?_, balloc2 _ _ _⟩
        rw [Hhget.out]
        exact (Hgt.out.below (balloc2 _ _ _)).mono (fun b hb _ => .inl hb)
      · have z1 : ¬ (n : Int) < (ls.length : Int) := by omega
        have hget : T.put ls (.mk (-1 - n) ar) = .mk (-1 - n) ar := by rw [T.put, if_pos hneg, hn, List.getD_eq_getElem?_getD, List.getElem?_eq_none (by omega)]; rfl
        have Hhget := Lib.hid hget
        clear hget
        have Hv := Lib.hid hv
        clear hv ih hlt
        go_enter Try.func17, Try.ntmps17
        go_wp2_with (refine stop_region ?_)
        refine bodyPost_ret (v := .agg #[.int .i64 (-1 - n), .slice at_ ar.length ct]) (by simp [results, Try.results17, go_sem]) rfl ?_
        refine ⟨_, rfl, ?_, balloc2 _ _ _⟩
        rw [Hhget.out]
        exact (Hv.out.below (balloc2 _ _ _)).mono (fun b hb _ => .inl hb)
    · have Hneg := Lib.hid hneg
      go_enter Try.func17, Try.ntmps17
      go_wp2_with (refine stop_region ?_)
      go_loopw [6] (fun i wr => ∃ (k : Nat) (rv : Value), k ≤ ar.length ∧ i = .int .i64 k ∧ Hid (Grow B w (.int .i64 f) (.slice at_ ar.length ct) f ((ar.take k).map (T.put ls)) wr rv rv) ∧ Hid (∃ a n c, rv = .slice a n c)) (fun i _ => ar.length - (intOf i).toNat)
      case atStart =>
        exact ⟨0, .slice none 0 0, Nat.zero_le _, rfl, .start3 hB, ⟨_, _, _, rfl⟩⟩
      case round =>
        obtain ⟨k, rv, hk, rfl, HG, hsh⟩ := hrel
        have k0 := HG.out.arg.cell 0
        have k1 := HG.out.arg.cell 1
        simp only [List.getElem?_toArray, List.getElem?_cons_zero, List.getElem?_cons_succ] at k0 k1
        by_cases hlt : k < ar.length
        · obtain ⟨bt, ot, u, x, rfl, hS, g0, g1, gt⟩ := hl.at_ k hlt
          have RC := Lib.hid (fun (w : World) (h1 : InT (fun b => b < B) w ar[k] (.agg #[u, x])) (h2 : InTs (fun b => b < B) w ls al 0) => ih ar[k] (List.getElem_mem hlt) w (.agg #[u, x]) al cl (by have := T.size_eq (T.mk f ar); have := T.size_le_sizeL (List.getElem_mem hlt); simp at *; omega) h1 h2 hlc hlm)
          have HS := Lib.hid hS
          have Hlt := Lib.hid hlt
          have Hmax := Lib.hid hlen
          have HR := Lib.hid (show ∀ b, rv.ownBlock = some b → b < wr.heap.size from fun b hb => by obtain ⟨xs, h1, _⟩ := HG.out.rows; exact (h1.lt b hb).2)
          have HN := Lib.hid (show w.heap.size + 3 ≤ wr.heap.size from HG.out.out.lt)
          have z1 : (k : Int) < (ar.length : Int) := by omega
          have Hls := Lib.hid hls
          have Hg0 := Lib.hid g0
          have Hg1 := Lib.hid g1
          have Hgt := Lib.hid gt
          clear g0 g1 gt
          clear ih hS hlen hls
          go_wp2_with (refine stop_region ?_)
          refine Stop.mk ?_
          refine wp_region_chain [8, 9, 10, 12] (optP (putSp w bt ot ct k cl al ar ls rv u x)) (GrowG B w wr (.int .i64 f) (.slice (some ⟨bt, ot, none⟩) ar.length ct) f ((ar.take k).map (T.put ls)) rv (ar[k].put ls)) [false, false, false, false, false, false, false, false, false, false, false, false, false, false, false, false, false, false, false, false, false, false, false, false, false, false, false, false, false, false, false, false, false, true, true, true, true, true, true, true, true, true, true, true, true, false] (by kernel_rfl) (by kernel_rfl) (by kernel_rfl) (by decide) (by kernel_rfl) (by kernel_rfl) (⟨rfl, HG.out.drew⟩) ?_ ?_
          · refine ⟨.inl ⟨by decide, true, .none rfl, fun h => optUndef h, fun hβ fx wx vs C => ?_⟩, ?_⟩
            · exact wp_fld_apiTerm_1 rfl ((rel_eval (by kernel_rfl)).trans (show fx 5 = .pointer (some ⟨(w.heap.size + 2), 0, none⟩) from C.keep 5 (by kernel_rfl))) ⟨_, rfl, rfl, optDef hβ rfl⟩
            refine ⟨.inl ⟨by decide, true, .none rfl, fun h => optUndef h, fun hβ fx wx vs C => ?_⟩, ?_⟩
            · exact wp_ld_LapiTerm rfl ((rel_eval (by kernel_rfl)).trans (optPVal (x := .pointer (some ⟨(w.heap.size + 2), 1, none⟩)) (β := true) (C.dep 0 33 (by kernel_rfl) (by decide)) rfl rfl)) (C.now.out (Nat.le_trans (C.most 2 10 rfl (by kernel_rfl)) (by decide))) ⟨_, rfl, rfl, optDef hβ rfl⟩
            refine ⟨.inl ⟨by decide, true, .none rfl, fun h => optUndef h, fun hβ fx wx vs C => ?_⟩, ?_⟩
            · exact wp_fld_apiTerm_1 rfl ((rel_eval (by kernel_rfl)).trans (show fx 2 = .pointer (some ⟨w.heap.size, 0, none⟩) from C.keep 2 (by kernel_rfl))) ⟨_, rfl, rfl, optDef hβ rfl⟩
            refine ⟨.inl ⟨by decide, true, .none rfl, fun h => optUndef h, fun hβ fx wx vs C => ?_⟩, ?_⟩
            · exact wp_ld_LapiTerm rfl ((rel_eval (by kernel_rfl)).trans (optPVal (x := .pointer (some ⟨w.heap.size, 1, none⟩)) (β := true) (C.dep 2 35 (by kernel_rfl) (by decide)) rfl rfl)) (C.now.arg.2) ⟨_, rfl, rfl, optDef hβ rfl⟩
            refine ⟨.inl ⟨by decide, true, .none rfl, fun h => optUndef h, fun hβ fx wx vs C => ?_⟩, ?_⟩
            · exact wp_move rfl ((rel_eval (by kernel_rfl)).trans (show fx 6 = .int .i64 k from C.keep 6 (by kernel_rfl))) ⟨_, rfl, rfl, optDef hβ rfl⟩
            refine ⟨.inl ⟨by decide, true, .none rfl, fun h => optUndef h, fun hβ fx wx vs C => ?_⟩, ?_⟩
            · exact wp_ix_LapiTerm rfl ((rel_eval (by kernel_rfl)).trans (optPVal (x := .slice (some ⟨bt, ot, none⟩) ar.length ct) (β := true) (C.dep 3 36 (by kernel_rfl) (by decide)) rfl rfl)) ((rel_eval (by kernel_rfl)).trans (optPVal (x := .int .i64 k) (β := true) (C.dep 4 37 (by kernel_rfl) (by decide)) rfl rfl)) (Hlt.out) ⟨_, rfl, rfl, optDef hβ rfl⟩
            refine ⟨.inl ⟨by decide, true, .none rfl, fun h => optUndef h, fun hβ fx wx vs C => ?_⟩, ?_⟩
            · exact wp_ld_apiTerm rfl ((rel_eval (by kernel_rfl)).trans (optPVal (x := .pointer (some ⟨bt, ot + k * 2, none⟩)) (β := true) (C.dep 5 38 (by kernel_rfl) (by decide)) rfl rfl)) (C.now.old HS.out Hg0.out) (C.now.old HS.out Hg1.out) ⟨_, rfl, rfl, optDef hβ rfl⟩
            refine ⟨.inl ⟨by decide, true, .none rfl, fun h => optUndef h, fun hβ fx wx vs C => ?_⟩, ?_⟩
            · exact wp_move rfl ((rel_eval (by kernel_rfl)).trans (show fx 1 = .slice al ls.length cl from C.keep 1 (by kernel_rfl))) ⟨_, rfl, rfl, optDef hβ rfl⟩
            refine ⟨.inr ⟨0, rfl, rfl, fun fx wx vs C hlen => ?_⟩, ?_⟩
            · obtain ⟨rfl⟩ := vs_eq0 hlen
              exact wp_call (by kernel_rfl) rfl (hv2 ((rel_eval (by kernel_rfl)).trans (optPVal (x := (.agg #[u, x])) (β := true) (C.dep 6 39 (by kernel_rfl) (by decide)) rfl rfl)) ((rel_eval (by kernel_rfl)).trans (optPVal (x := .slice al ls.length cl) (β := true) (C.dep 7 40 (by kernel_rfl) (by decide)) rfl rfl))) (RC.out _ (C.now.oldT Hgt.out) (C.now.oldTs Hls.out) C.now.size) (fun v w' h => ⟨v, rfl, C.now.call h.1 h.2⟩)
            refine ⟨.inr ⟨1, rfl, rfl, fun fx wx vs C hlen => ?_⟩, ?_⟩
            · obtain ⟨v0, rfl⟩ := vs_eq1 hlen
              exact wp_rowT rfl ((rel_eval (by kernel_rfl)).trans (Option.some.inj (C.link 0 8 41 rfl (by kernel_rfl))).symm) (C.now.inT) (fun u y h1 h2 h3 => ⟨_, rfl, C.now.row h1 h2 h3⟩)
            refine ⟨.inr ⟨2, rfl, rfl, fun fx wx vs C hlen => ?_⟩, ?_⟩
            · obtain ⟨v0, v1, rfl⟩ := vs_eq2 hlen
              exact wp_appendT rfl ((rel_eval (by kernel_rfl)).trans (optPVal (x := rv) (β := true) (C.dep 1 34 (by kernel_rfl) (by decide)) rfl rfl)) ((rel_eval (by kernel_rfl)).trans (Option.some.inj (C.link 1 9 42 rfl (by kernel_rfl))).symm) (by have := Hmax.out; simp; omega) C.now HR.out HN.out (fun r w' h => ⟨_, rfl, h⟩)
            refine ⟨.inl ⟨by decide, true, .none rfl, fun h => optUndef h, fun hβ fx wx vs C => ?_⟩, ?_⟩
            · exact wp_fld_apiTerm_1 rfl ((rel_eval (by kernel_rfl)).trans (show fx 5 = .pointer (some ⟨(w.heap.size + 2), 0, none⟩) from C.keep 5 (by kernel_rfl))) ⟨_, rfl, rfl, optDef hβ rfl⟩
            refine ⟨.inr ⟨3, rfl, rfl, fun fx wx vs C hlen => ?_⟩, ?_⟩
            · obtain ⟨v0, v1, v2, rfl⟩ := vs_eq3 hlen
              obtain ⟨hq, ra, rn, rc, hr⟩ := C.now.three
              subst hr
              exact wp_storeT rfl ((rel_eval (by kernel_rfl)).trans (optPVal (x := .pointer (some ⟨(w.heap.size + 2), 1, none⟩)) (β := true) (C.dep 11 44 (by kernel_rfl) (by decide)) rfl rfl)) ((rel_eval (by kernel_rfl)).trans (Option.some.inj (C.link 2 10 43 rfl (by kernel_rfl))).symm) (hq.out.cell 1) (hq.out.frozen 1) (fun v => ⟨v, rfl, C.now.store⟩)
            exact trivial
          intro ux w3 vs hlen hG hu hch
          obtain ⟨v0, v1, v2, v3, rfl⟩ := vs_eq4 hlen
          obtain ⟨hG2, hsh2⟩ := hG.four
          have HhG2 := Lib.hid hG2
          have Hhsh2 := Lib.hid hsh2
          clear hG2 hsh2
          clear hG hu hch HG hsh k0 k1
          simp only [finM]
          go_wp2_with fail
          go_roundw
          case rel => exact ⟨k + 1, v2, by omega, by go_num, by rw [List.take_succ_eq_append_getElem hlt, List.map_append]; exact HhG2.out, Hhsh2.out⟩
          case measure => simp [intOf]; omega
        · obtain rfl : k = ar.length := by omega
          obtain ⟨ra, rn, rc, rfl⟩ := hsh.out
          have o0 := HG.out.out.cell 0
          have o1 := HG.out.out.cell 1
          obtain ⟨x0, x1, hr⟩ := HG.out.res
          have c0 := hr.cell 0
          have c1 := hr.cell 1
          have y0 := hr.frozen 0
          have y1 := hr.frozen 1
          simp only [List.getElem?_toArray, List.getElem?_cons_zero, List.getElem?_cons_succ] at o0 o1 c0 c1
          have Hhr := Lib.hid hr
          clear hr
          go_wp2_with fail
          refine bodyPost_ret (v := .agg #[.int .i64 f, .slice ra rn rc]) (by simp [results, Try.results17, go_sem, c0, c1]) rfl ?_
          have := HG.out.finish (u0 := .int .i64 f) (u1 := .slice ra rn rc) hf
          rw [List.take_length, ← T.putL_map] at this
          rw [T.put, if_neg (by have := Hneg.out; omega)]
          exact ⟨_, rfl, this.1, this.2⟩

end Go.Proofs.Ytlkiabgpnboicaa.Old

/- The places of a term and what stands there, plainly. -/
namespace Go.Proofs.Ytlkiabgpnboicaa

namespace T
mutual
def places : T → List (List Nat × T)
  | .mk f l => ([], .mk f l) :: placesL 0 l
def placesL : Nat → List T → List (List Nat × T)
  | _, [] => []
  | i, a :: r => (places a).map (fun x => (i :: x.1, x.2)) ++ placesL (i + 1) r
end

theorem placesL_append : ∀ (l : List T) (i : Nat) (q : List T), placesL i (l ++ q) = placesL i l ++ placesL (i + l.length) q
  | [], i, q => by simp [placesL]
  | a :: r, i, q => by
    rw [List.cons_append, placesL, placesL, placesL_append r (i + 1) q, List.append_assoc, List.length_cons, show i + 1 + r.length = i + (r.length + 1) by omega]

mutual
theorem places_size : ∀ t : T, (places t).length = size t
  | .mk f l => by rw [places, List.length_cons, placesL_size l 0, size]; omega
theorem placesL_size : ∀ (l : List T) (i : Nat), (placesL i l).length = sizeL l
  | [], i => rfl
  | a :: r, i => by rw [placesL, List.length_append, List.length_map, places_size a, placesL_size r (i + 1), sizeL]
end

mutual
theorem places_part : ∀ (t : T), ∀ x ∈ places t, x.2 = t ∨ Part x.2 t
  | .mk f l, x, hx => by
    rw [places] at hx
    rcases List.mem_cons.1 hx with rfl | hx
    · exact .inl rfl
    · exact .inr (placesL_part l 0 f l (fun a h => h) x hx)
theorem placesL_part : ∀ (l : List T) (i : Nat) (f : Int) (q : List T), (∀ a ∈ l, a ∈ q) → ∀ x ∈ placesL i l, Part x.2 (.mk f q)
  | [], i, f, q, _, x, hx => by simp [placesL] at hx
  | a :: r, i, f, q, hq, x, hx => by
    rw [placesL] at hx
    rcases List.mem_append.1 hx with hx | hx
    · obtain ⟨y, hy, rfl⟩ := List.mem_map.1 hx
      rcases places_part a y hy with h | h
      · simp only [h]; exact .arg (hq a (by simp))
      · exact .deep (hq a (by simp)) h
    · exact placesL_part r (i + 1) f q (fun b hb => hq b (by simp [hb])) x hx
end

mutual
theorem places_within : ∀ (t : T), ∀ x ∈ places t, Od.Within t x.1
  | .mk f l, x, hx => by
    rw [places] at hx
    rcases List.mem_cons.1 hx with rfl | hx
    · exact trivial
    · obtain ⟨i, p, e, h1, h2⟩ := placesL_within l 0 x hx
      rw [e]
      exact ⟨by omega, by have h3 := h2 (by omega); simpa using h3⟩
theorem placesL_within : ∀ (l : List T) (i : Nat), ∀ x ∈ placesL i l, ∃ (k : Nat) (p : List Nat), x.1 = k :: p ∧ (i ≤ k ∧ k - i < l.length) ∧ ∀ (h : k - i < l.length), Od.Within l[k - i] p
  | [], i, x, hx => by simp [placesL] at hx
  | a :: r, i, x, hx => by
    rw [placesL] at hx
    rcases List.mem_append.1 hx with hx | hx
    · obtain ⟨y, hy, rfl⟩ := List.mem_map.1 hx
      exact ⟨i, y.1, rfl, ⟨by omega, by simp⟩, fun h => by simpa using places_within a y hy⟩
    · obtain ⟨k, p, e, ⟨h1, h2⟩, h3⟩ := placesL_within r (i + 1) x hx
      refine ⟨k, p, e, ⟨by omega, by simp; omega⟩, fun h => ?_⟩
      have h4 := h3 h2
      have e2 : k - i = (k - (i + 1)) + 1 := by omega
      simp only [e2, List.getElem_cons_succ]
      exact h4
end

/-- No path is longer than the term is large. -/
theorem places_len : ∀ t : T, ∀ x ∈ places t, x.1.length ≤ size t := by
  intro t
  induction t using T.ind with
  | h f l ih =>
    intro x hx
    rw [places] at hx
    rcases List.mem_cons.1 hx with rfl | hx
    · simp
    · have : ∀ (l : List T), (∀ a ∈ l, ∀ x ∈ places a, x.1.length ≤ size a) → ∀ (i : Nat), ∀ x ∈ placesL i l, x.1.length ≤ sizeL l + 1 := by
        intro l
        induction l with
        | nil => intro _ i x hx; simp [placesL] at hx
        | cons a r ih =>
          intro h i x hx
          rw [placesL] at hx
          rcases List.mem_append.1 hx with hx | hx
          · obtain ⟨y, hy, rfl⟩ := List.mem_map.1 hx
            have := h a (by simp) y hy
            simp only [List.length_cons, sizeL]; omega
          · have := ih (fun b hb => h b (by simp [hb])) (i + 1) x hx
            simp only [sizeL]; omega
      have := this l ih 0 x hx
      rw [size]; omega
end T

end Go.Proofs.Ytlkiabgpnboicaa

/- Rows of places, how they lie in memory while they are made. -/
namespace Go.Proofs.Ytlkiabgpnboicaa.Old
set_option maxRecDepth 100000
open Go.RowKit Go

def natV (n : Nat) : Value := .int .i64 (n : Int)

def PIn (S : Nat → Prop) (w : World) (p : List Nat) (v : Value) : Prop := ∃ (a : Option Addr) (c : Nat), v = .slice a p.length c ∧ p.length ≤ c ∧ c ≤ maxLen ∧
  ∀ j (h : j < p.length), ∃ b o, a = some ⟨b, o, none⟩ ∧ S b ∧ w.cell? ⟨b, o + j, none⟩ = some (natV p[j])
theorem PIn.keep {S : Nat → Prop} {w w' : World} {p : List Nat} {v : Value} (hb : ∀ (p : Addr) (x : Value), S p.block → w.cell? p = some x → w'.cell? p = some x) (h : PIn S w p v) : PIn S w' p v := by
  obtain ⟨a, c, h1, h2, h3, h4⟩ := h
  refine ⟨a, c, h1, h2, h3, fun j hj => ?_⟩
  obtain ⟨b, o, e, hs, hc⟩ := h4 j hj
  exact ⟨b, o, e, hs, hb _ _ hs hc⟩
theorem PIn.mono {S S' : Nat → Prop} {w : World} {p : List Nat} {v : Value} (hb : ∀ b, S b → b < w.heap.size → S' b) (h : PIn S w p v) : PIn S' w p v := by
  obtain ⟨a, c, h1, h2, h3, h4⟩ := h
  refine ⟨a, c, h1, h2, h3, fun j hj => ?_⟩
  obtain ⟨b, o, e, hs, hc⟩ := h4 j hj
  exact ⟨b, o, e, hb _ hs (World.block_lt_of_cell? _ _ hc), hc⟩
theorem PIn.slice {S : Nat → Prop} {w : World} {p : List Nat} {v : Value} (h : PIn S w p v) : ∃ a c, v = .slice a p.length c := by
  obtain ⟨a, c, h1, _⟩ := h; exact ⟨a, c, h1⟩

abbrev Pl1 := List Nat × T
def InPls (S : Nat → Prop) (w : World) (l : List Pl1) (a : Option Addr) : Prop := ∀ k (h : k < l.length), ∃ b o pv u v, a = some ⟨b, o, none⟩ ∧ S b ∧ w.cell? ⟨b, o + k * 3, none⟩ = some pv ∧ w.cell? ⟨b, o + k * 3 + 1, none⟩ = some u ∧ w.cell? ⟨b, o + k * 3 + 2, none⟩ = some v ∧ PIn S w l[k].1 pv ∧ InT S w l[k].2 (.agg #[u, v])
theorem InPls.keep {S : Nat → Prop} {w w' : World} {l : List Pl1} {a : Option Addr} (hb : ∀ (p : Addr) (x : Value), S p.block → w.cell? p = some x → w'.cell? p = some x) (h : InPls S w l a) : InPls S w' l a := fun k hk => by
  obtain ⟨b, o, pv, u, v, e, hs, c0, c1, c2, h1, h2⟩ := h k hk
  exact ⟨b, o, pv, u, v, e, hs, hb ⟨b, _, none⟩ _ hs c0, hb ⟨b, _, none⟩ _ hs c1, hb ⟨b, _, none⟩ _ hs c2, h1.keep hb, h2.keep hb⟩
theorem InPls.mono {S S' : Nat → Prop} {w : World} {l : List Pl1} {a : Option Addr} (hb : ∀ b, S b → b < w.heap.size → S' b) (h : InPls S w l a) : InPls S' w l a := fun k hk => by
  obtain ⟨b, o, pv, u, v, e, hs, c0, c1, c2, h1, h2⟩ := h k hk
  exact ⟨b, o, pv, u, v, e, hb _ hs (World.block_lt_of_cell? _ _ c0), c0, c1, c2, h1.mono hb, h2.mono hb⟩
theorem InPls.below {S : Nat → Prop} {w w' : World} {l : List Pl1} {a : Option Addr} (hb : Below w.heap.size w w') (h : InPls S w l a) : InPls S w' l a := h.keep fun p x _ hx => bkeeps hb p x hx

def ElemsP (S : Nat → Prop) (w : World) : List Pl1 → List Value → Prop
  | [], [] => True
  | t :: r, p :: u :: v :: xs => (PIn S w t.1 p ∧ InT S w t.2 (.agg #[u, v])) ∧ ElemsP S w r xs
  | _, _ => False
theorem ElemsP.map {S S' : Nat → Prop} {w w' : World} (hp : ∀ p v, PIn S w p v → PIn S' w' p v) (ht : ∀ t v, InT S w t v → InT S' w' t v) : ∀ {l : List Pl1} {xs : List Value}, ElemsP S w l xs → ElemsP S' w' l xs
  | [], [], _ => trivial
  | _ :: _, _ :: _ :: _ :: _, h => ⟨⟨hp _ _ h.1.1, ht _ _ h.1.2⟩, ElemsP.map hp ht h.2⟩
  | [], _ :: _, h => h.elim
  | _ :: _, [], h => h.elim
  | _ :: _, [_], h => h.elim
  | _ :: _, [_, _], h => h.elim
theorem ElemsP.keep {S : Nat → Prop} {w w' : World} (hb : ∀ (p : Addr) (x : Value), S p.block → w.cell? p = some x → w'.cell? p = some x) {l : List Pl1} {xs : List Value} (h : ElemsP S w l xs) : ElemsP S w' l xs := h.map (fun _ _ h => h.keep hb) (fun _ _ h => h.keep hb)
theorem ElemsP.mono {S S' : Nat → Prop} {w : World} (hb : ∀ b, S b → b < w.heap.size → S' b) {l : List Pl1} {xs : List Value} (h : ElemsP S w l xs) : ElemsP S' w l xs := h.map (fun _ _ h => h.mono hb) (fun _ _ h => h.mono hb)
theorem ElemsP.snoc {S : Nat → Prop} {w : World} {t : Pl1} {p u v : Value} (h1 : PIn S w t.1 p) (h2 : InT S w t.2 (.agg #[u, v])) : ∀ {l : List Pl1} {xs : List Value}, ElemsP S w l xs → ElemsP S w (l ++ [t]) (xs ++ [p, u, v])
  | [], [], _ => ⟨⟨h1, h2⟩, trivial⟩
  | _ :: _, _ :: _ :: _ :: _, h => ⟨h.1, ElemsP.snoc h1 h2 h.2⟩
  | [], _ :: _, h => h.elim
  | _ :: _, [], h => h.elim
  | _ :: _, [_], h => h.elim
  | _ :: _, [_, _], h => h.elim
theorem ElemsP.at_ {S : Nat → Prop} {w : World} : ∀ {l : List Pl1} {xs : List Value}, ElemsP S w l xs → ∀ k (hk : k < l.length), ∃ p u v, xs[k * 3]? = some p ∧ xs[k * 3 + 1]? = some u ∧ xs[k * 3 + 2]? = some v ∧ PIn S w l[k].1 p ∧ InT S w l[k].2 (.agg #[u, v])
  | t :: r, p :: u :: v :: xs, h, 0, _ => ⟨p, u, v, rfl, rfl, rfl, h.1.1, h.1.2⟩
  | t :: r, p :: u :: v :: xs, h, k + 1, hk => by
    obtain ⟨p', u', v', h1, h2, h3, h4, h5⟩ := ElemsP.at_ h.2 k (by simpa using hk)
    refine ⟨p', u', v', ?_, ?_, ?_, by simpa using h4, by simpa using h5⟩
    · rw [show (k + 1) * 3 = k * 3 + 1 + 1 + 1 by omega]; simpa using h1
    · rw [show (k + 1) * 3 + 1 = k * 3 + 1 + 1 + 1 + 1 by omega]; simpa using h2
    · rw [show (k + 1) * 3 + 2 = k * 3 + 2 + 1 + 1 + 1 by omega]; simpa using h3
  | [], _, _, k, hk => by simp at hk
  | _ :: _, [], h, _, _ => h.elim
  | _ :: _, [_], h, _, _ => h.elim
  | _ :: _, [_, _], h, _, _ => h.elim

/-- Where elements may lie: not in the two rows that are being made. -/
def Fp (B N : Nat) (rv pv : Value) (b : Nat) : Prop := New B N b ∧ rv.ownBlock ≠ some b ∧ pv.ownBlock ≠ some b

structure Pl (B : Nat) (w0 : World) (y0 y1 : Value) (L Q : List Pl1) (path : List Nat) (w : World) (rv iv pv : Value) : Prop where
  le : B ≤ w0.heap.size
  below : Below w0.heap.size w0 w
  arg : Blk w w0.heap.size 27 #[y0, y1]
  rows : ∃ xs, w.ownsRow (w0.heap.size + 1) 44 3 rv L.length xs ∧ ElemsP (Fp B (w0.heap.size + 1) rv pv) w L xs
  ins : ∃ a c, iv = .slice a Q.length c ∧ Q.length ≤ c ∧ c ≤ maxLen ∧ InPls (Fp B (w0.heap.size + 1) rv pv) w Q a
  p : w.ownsRow (w0.heap.size + 1) 3 1 pv path.length (path.map natV)
  apart : ∀ g, rv.ownBlock = some g → pv.ownBlock ≠ some g

theorem oR_below {w w' : World} {base : Nat} {e : TypeId} {size : Nat} {v : Value} {n : Nat} {xs : List Value} (h : w.ownsRow base e size v n xs) (hb : Below w.heap.size w w') : w'.ownsRow base e size v n xs := by
  refine ⟨h.1, h.2.imp id ?_⟩
  rintro ⟨g, cap, cur, e1, e2, e3, e4, e5, e6, e7⟩
  exact ⟨g, cap, cur, e1, e2, (hb.block g (lt_of_block e3)).trans e3, e4, e5, e6, e7⟩

section
variable {B : Nat} {w0 w w' : World} {y0 y1 : Value} {L Q : List Pl1} {path : List Nat} {rv iv pv : Value}

theorem Pl.below_ (h : Pl B w0 y0 y1 L Q path w rv iv pv) (hb : Below w.heap.size w w') : Pl B w0 y0 y1 L Q path w' rv iv pv := by
  obtain ⟨xs, h1, h2⟩ := h.rows
  obtain ⟨a, c, e, h3, h4, h5⟩ := h.ins
  exact ⟨h.le, bstep h.below hb, h.arg.below hb, ⟨xs, oR_below h1 hb, h2.keep fun p x _ hx => bkeeps hb p x hx⟩, ⟨a, c, e, h3, h4, h5.below hb⟩, oR_below h.p hb, h.apart⟩

theorem Pl.fresh (h : Pl B w0 y0 y1 L Q path w rv iv pv) {b : Nat} (hb : New B w.heap.size b) : Fp B (w0.heap.size + 1) rv pv b := by
  obtain ⟨xs, h1, _⟩ := h.rows
  have hlt := h.arg.lt
  have hle := h.le
  refine ⟨hb.imp id (fun h => by omega), fun e => ?_, fun e => ?_⟩
  · have := h1.lt _ e; rcases hb with hb | hb <;> omega
  · have := h.p.lt _ e; rcases hb with hb | hb <;> omega

/-- The first place. -/
theorem Pl.start {g : Nat} {u v : Value} {t : T} (hle : B ≤ w0.heap.size) (hb : Below w0.heap.size w0 w) (ha : Blk w w0.heap.size 27 #[y0, y1]) (hg : w0.heap.size + 1 ≤ g) (hB : Blk w g 44 #[.slice none 0 0, u, v]) (hv : InT (fun b => New B (w0.heap.size + 1) b ∧ b ≠ g) w t (.agg #[u, v])) :
    Pl B w0 y0 y1 [([], t)] [] [] w (.slice (some ⟨g, 0, none⟩) 1 1) (.slice none 0 0) (.slice none 0 0) := by
  refine ⟨hle, hb, ha, ⟨[.slice none 0 0, u, v], ⟨rfl, .inr ⟨g, 1, _, rfl, hg, hB, by simp, by unfold maxLen; omega, rfl, rfl⟩⟩, ⟨⟨⟨none, 0, rfl, Nat.le_refl _, Nat.zero_le _, fun j hj => by simp at hj⟩, hv.mono fun b hb _ => ⟨hb.1, ?_, by simp [Value.ownBlock]⟩⟩, trivial⟩⟩, ⟨none, 0, rfl, by simp, by unfold maxLen; omega, fun k hk => by simp at hk⟩, ⟨rfl, .inl ⟨rfl, rfl⟩⟩, fun g _ => by simp [Value.ownBlock]⟩
  simp only [Value.ownBlock, ne_eq, Option.some.injEq]
  exact fun e => hb.2 e.symm

/-- A row of an argument's places. -/
theorem Pl.call {Q' : List Pl1} {a : Option Addr} {c : Nat} (h : Pl B w0 y0 y1 L Q [] w rv iv (.slice none 0 0)) (hb : Below w.heap.size w w') (h1 : Q'.length ≤ c) (h2 : c ≤ maxLen) (h3 : InPls (New B w.heap.size) w' Q' a) :
    Pl B w0 y0 y1 L Q' [] w' rv (.slice a Q'.length c) (.slice none 0 0) := by
  have h' := h.below_ hb
  exact ⟨h'.le, h'.below, h'.arg, h'.rows, ⟨a, c, rfl, h1, h2, h3.mono fun b hb _ => h.fresh hb⟩, h'.p, h'.apart⟩

/-- A path begun. -/
theorem Pl.begin {i : Nat} (h : Pl B w0 y0 y1 L Q [] w rv iv (.slice none 0 0)) : Pl B w0 y0 y1 L Q [i] (w.alloc (.cells #[natV i] 3)) rv iv (.slice (some ⟨w.heap.size, 0, none⟩) 1 1) := by
  have hb := balloc w (.cells #[natV i] 3)
  have hlt := h.arg.lt
  have h' := h.below_ hb
  obtain ⟨xs, h1, h2⟩ := h.rows
  obtain ⟨a, c, e, h3, h4, h5⟩ := h.ins
  have go : ∀ b, Fp B (w0.heap.size + 1) rv (.slice none 0 0) b → b < w.heap.size → Fp B (w0.heap.size + 1) rv (.slice (some ⟨w.heap.size, 0, none⟩) 1 1) b := fun b hb hlt => ⟨hb.1, hb.2.1, by simp only [Value.ownBlock, ne_eq, Option.some.injEq]; omega⟩
  refine ⟨h'.le, h'.below, h'.arg, ⟨xs, oR_below h1 hb, (h2.mono go).keep fun p x _ hx => bkeeps hb p x hx⟩, ⟨a, c, e, h3, h4, (h5.mono go).below hb⟩, ⟨rfl, .inr ⟨w.heap.size, 1, _, rfl, by omega, heap_alloc_new _ _, by simp, by unfold maxLen; omega, rfl, rfl⟩⟩, fun g hg => ?_⟩
  simp only [Value.ownBlock, ne_eq, Option.some.injEq]
  have := (h1.lt g hg).2
  omega

/-- The path grown by one. -/
theorem Pl.step {x g1 c1 : Nat} (h : Pl B w0 y0 y1 L Q path w rv iv pv)
    (hown : w'.ownsRow (w0.heap.size + 1) 3 1 (.slice (some ⟨g1, 0, none⟩) (path.length + 1) c1) (path.length + 1) (path.map natV ++ [natV x])) (hgrow : w.grownBy w' pv.ownBlock) (hat : pv.ownBlock = some g1 ∨ g1 = w.heap.size) :
    Pl B w0 y0 y1 L Q (path ++ [x]) w' rv iv (.slice (some ⟨g1, 0, none⟩) (path.length + 1) c1) := by
  obtain ⟨xs, h1, h2⟩ := h.rows
  obtain ⟨a, c, e, h3, h4, h5⟩ := h.ins
  have hlt := h.arg.lt
  have hplt := h.p.lt
  have hfresh : ∀ b, b < w.heap.size → pv.ownBlock ≠ some b → g1 ≠ b := by
    intro b hb hne e
    subst e
    rcases hat with e | e
    · exact hne e
    · omega
  have go : ∀ b, Fp B (w0.heap.size + 1) rv pv b → b < w.heap.size → Fp B (w0.heap.size + 1) rv (.slice (some ⟨g1, 0, none⟩) (path.length + 1) c1) b ∧ pv.ownBlock ≠ some b := fun b hb hlt => ⟨⟨hb.1, hb.2.1, by simp only [Value.ownBlock, ne_eq, Option.some.injEq]; exact hfresh b hlt hb.2.2⟩, hb.2.2⟩
  have kk : ∀ (p : Addr) (y : Value), (Fp B (w0.heap.size + 1) rv (.slice (some ⟨g1, 0, none⟩) (path.length + 1) c1) p.block ∧ pv.ownBlock ≠ some p.block) → w.cell? p = some y → w'.cell? p = some y := fun p y hp hy => hgrow.cell hy (Ne.symm hp.2)
  have far : ∀ b, b < w0.heap.size + 1 → some b ≠ pv.ownBlock := fun b hb e => by have := (hplt b e.symm).1; omega
  refine ⟨h.le, h.below.grown hgrow (by omega) (fun b hb => by have := (hplt b hb).1; omega), h.arg.grown hgrow (far _ (by omega)), ⟨xs, h1.kept hgrow ?_, ((h2.mono go).keep kk).mono fun b hb _ => hb.1⟩, ⟨a, c, e, h3, h4, ((h5.mono go).keep kk).mono fun b hb _ => hb.1⟩, by simpa using hown, fun g hg => ?_⟩
  · cases hr : rv.ownBlock with
    | none => exact .inl rfl
    | some b => exact .inr fun e => h.apart b hr e.symm
  · simp only [Value.ownBlock, ne_eq, Option.some.injEq]
    exact hfresh g (h1.lt g hg).2 (h.apart g hg)

/-- A place more. -/
theorem Pl.snoc {t : T} {u v : Value} {g1 c1 : Nat} {xs : List Value} (h : Pl B w0 y0 y1 L Q path w rv iv pv) (hxs : ElemsP (Fp B (w0.heap.size + 1) rv pv) w L xs) (ht : InT (Fp B (w0.heap.size + 1) rv pv) w t (.agg #[u, v])) (hpath : 0 < path.length)
    (hown : w'.ownsRow (w0.heap.size + 1) 44 3 (.slice (some ⟨g1, 0, none⟩) (L.length + 1) c1) (L.length + 1) (xs ++ [pv, u, v])) (hgrow : w.grownBy w' rv.ownBlock) (hat : rv.ownBlock = some g1 ∨ g1 = w.heap.size) :
    Pl B w0 y0 y1 (L ++ [(path, t)]) Q [] w' (.slice (some ⟨g1, 0, none⟩) (L.length + 1) c1) iv (.slice none 0 0) := by
  obtain ⟨xs', h1, _⟩ := h.rows
  obtain ⟨a, c, e, h3, h4, h5⟩ := h.ins
  have hlt := h.arg.lt
  have hrlt := h1.lt
  have hfresh : ∀ b, b < w.heap.size → rv.ownBlock ≠ some b → g1 ≠ b := by
    intro b hb hne e
    subst e
    rcases hat with e | e
    · exact hne e
    · omega
  have go : ∀ b, New B (w0.heap.size + 1) b ∧ rv.ownBlock ≠ some b → b < w.heap.size → Fp B (w0.heap.size + 1) (.slice (some ⟨g1, 0, none⟩) (L.length + 1) c1) (.slice none 0 0) b ∧ rv.ownBlock ≠ some b := fun b hb hlt => ⟨⟨hb.1, by simp only [Value.ownBlock, ne_eq, Option.some.injEq]; exact hfresh b hlt hb.2, by simp [Value.ownBlock]⟩, hb.2⟩
  have kk : ∀ (p : Addr) (y : Value), (Fp B (w0.heap.size + 1) (.slice (some ⟨g1, 0, none⟩) (L.length + 1) c1) (.slice none 0 0) p.block ∧ rv.ownBlock ≠ some p.block) → w.cell? p = some y → w'.cell? p = some y := fun p y hp hy => hgrow.cell hy (Ne.symm hp.2)
  have far : ∀ b, b < w0.heap.size + 1 → some b ≠ rv.ownBlock := fun b hb e => by have := (hrlt b e.symm).1; omega
  have pin : PIn (fun b => New B (w0.heap.size + 1) b ∧ rv.ownBlock ≠ some b) w path pv := by
    rcases h.p.2 with ⟨_, h0⟩ | ⟨g, cap, cur, hv, hg, hB, hc, hm, _, _⟩
    · omega
    · subst hv
      refine ⟨_, cap, rfl, hc, hm, fun j hj => ⟨g, 0, rfl, ⟨.inr hg, fun e => h.apart g e rfl⟩, ?_⟩⟩
      have := h.p.cells (g := g) rfl j (natV path[j]) (by simp [hj])
      have e : (⟨g, 0, none⟩ : Addr).add j = ⟨g, j, none⟩ := by unfold Addr.add; split <;> simp_all
      rw [e] at this
      simpa using this
  have sub : ∀ b, Fp B (w0.heap.size + 1) rv pv b → b < w.heap.size → New B (w0.heap.size + 1) b ∧ rv.ownBlock ≠ some b := fun b hb _ => ⟨hb.1, hb.2.1⟩
  have sub2 : ∀ b, Fp B (w0.heap.size + 1) rv pv b → b < w.heap.size → Fp B (w0.heap.size + 1) (.slice (some ⟨g1, 0, none⟩) (L.length + 1) c1) (.slice none 0 0) b ∧ rv.ownBlock ≠ some b := fun b hb hlt => go b (sub b hb hlt) hlt
  refine ⟨h.le, h.below.grown hgrow (by omega) (fun b hb => by have := (hrlt b hb).1; omega), h.arg.grown hgrow (far _ (by omega)), ⟨xs ++ [pv, u, v], by simpa using hown, ElemsP.snoc (((pin.mono go).keep kk).mono fun b hb _ => hb.1) (((ht.mono sub2).keep kk).mono fun b hb _ => hb.1) (((hxs.mono sub2).keep kk).mono fun b hb _ => hb.1)⟩, ⟨a, c, e, h3, h4, ((h5.mono sub2).keep kk).mono fun b hb _ => hb.1⟩, ⟨rfl, .inl ⟨rfl, rfl⟩⟩, fun g _ => by simp [Value.ownBlock]⟩

theorem Pl.drop (h : Pl B w0 y0 y1 L Q path w rv iv pv) : Pl B w0 y0 y1 L [] path w rv (.slice none 0 0) pv :=
  ⟨h.le, h.below, h.arg, h.rows, ⟨none, 0, rfl, by simp, by unfold maxLen; omega, fun k hk => by simp at hk⟩, h.p, h.apart⟩

theorem Pl.at_ {a : Option Addr} {c : Nat} (h : Pl B w0 y0 y1 L Q path w rv (.slice a Q.length c) pv) (k : Nat) (hk : k < Q.length) :
    ∃ b o q u v, a = some ⟨b, o, none⟩ ∧ w.cell? ⟨b, o + k * 3, none⟩ = some q ∧ w.cell? ⟨b, o + k * 3 + 1, none⟩ = some u ∧ w.cell? ⟨b, o + k * 3 + 2, none⟩ = some v ∧ PIn (Fp B (w0.heap.size + 1) rv pv) w Q[k].1 q ∧ InT (Fp B (w0.heap.size + 1) rv pv) w Q[k].2 (.agg #[u, v]) := by
  obtain ⟨a', c', e, _, _, h5⟩ := h.ins
  simp only [Value.slice.injEq, true_and] at e
  obtain ⟨rfl, rfl⟩ := e
  obtain ⟨b, o, q, u, v, e, _, c0, c1, c2, h1, h2⟩ := h5 k hk
  exact ⟨b, o, q, u, v, e, c0, c1, c2, h1, h2⟩

/-- The whole row. -/
theorem Pl.value (h : Pl B w0 y0 y1 L Q path w rv iv pv) (hL : 0 < L.length) : ∃ a c, rv = .slice a L.length c ∧ L.length ≤ c ∧ c ≤ maxLen ∧ InPls (New B w0.heap.size) w L a := by
  obtain ⟨xs, h1, h2⟩ := h.rows
  rcases h1.2 with ⟨_, h0⟩ | ⟨g, cap, cur, hv, hg, hB, hc, hm, _, _⟩
  · omega
  · subst hv
    refine ⟨_, cap, rfl, hc, hm, fun k hk => ?_⟩
    obtain ⟨p, u, v, e1, e2, e3, e4, e5⟩ := h2.at_ k hk
    have cell : ∀ j y, xs[j]? = some y → w.cell? ⟨g, 0 + j, none⟩ = some y := fun j y hj => by
      have := h1.cells (g := g) rfl j y hj
      have e : (⟨g, 0, none⟩ : Addr).add j = ⟨g, j, none⟩ := by unfold Addr.add; split <;> simp_all
      rw [e] at this
      simpa using this
    have sub : ∀ b, Fp B (w0.heap.size + 1) (.slice (some ⟨g, 0, none⟩) L.length cap) pv b → b < w.heap.size → New B w0.heap.size b := fun b hb _ => hb.1.imp id (fun h => by omega)
    exact ⟨g, 0, p, u, v, rfl, .inr (by omega), cell _ _ e1, by simpa [Nat.add_assoc] using cell _ _ e2, by simpa [Nat.add_assoc] using cell _ _ e3, e4.mono sub, e5.mono sub⟩
end
end Go.Proofs.Ytlkiabgpnboicaa.Old

/- The walk through the places of a term. -/
namespace Go.Proofs.Ytlkiabgpnboicaa.Old
set_option maxRecDepth 100000
open Go.RowKit Go.Sort Go


theorem natV_one (l : List Nat) : ∀ u ∈ l.map natV, u.oneCell' = true := by
  intro u hu
  obtain ⟨n, _, rfl⟩ := List.mem_map.1 hu
  rfl

/-- Where a walk stops ahead of an append. -/
theorem stop_app {P : Program} {ops : Array Oper} {rest : List Oper} {Q : Exit → Act → World → Prop} {a : Act} {w : World} {d : Option Tmp} {args : Array Operand} {tys : Array TypeId} {ty : TypeId} {ps : String} {af : Array Edge} {gd : Option (Nat × Bool)}
    (h : Stop (wpList P ops Q (⟨d, .call { callee := .builtin .append, args := args, argTypes := tys }, ty, ps, af, gd⟩ :: rest) a w)) : wpList P ops Q (⟨d, .call { callee := .builtin .append, args := args, argTypes := tys }, ty, ps, af, gd⟩ :: rest) a w := h.out

section
variable {B : Nat} {w0 w : World} {y0 y1 : Value} {L Q : List Pl1} {path : List Nat} {rv iv pv : Value}

theorem wpList_appP {ops : Array Oper} {rest : List Oper} {o : Oper} {a : Act} {K : Exit → Act → World → Prop} {x y : Operand} {g k : Nat} (hgd : o.guard = none) (ho : o.op = .call { callee := .builtin .append, args := #[x, y], argTypes := #[42, 42] })
    (hx : a.eval x = pv) (hy : a.eval y = .slice (some ⟨g, 0, none⟩) 1 1) (hB : Blk w g 3 #[natV k]) (h : Pl B w0 y0 y1 L Q path w rv iv pv) (hlen : path.length ≤ 4294967295)
    (hK : ∀ pa pc w', Pl B w0 y0 y1 L Q (path ++ [k]) w' rv iv (.slice pa (path.length + 1) pc) → wpList Try.prog ops K rest (a.put o.dst (.slice pa (path.length + 1) pc)) w') : wpList Try.prog ops K (o :: rest) a w := by
  have hint : (Try.prog.info? 3).map (fun i => (i.zero, i.size, i.bytes)) = some (some (.int .i64 0), 1, 8) := by kernel_rfl
  obtain ⟨i0, hi, hz0, hz1, hz2⟩ := info_parts hint
  have hN := h.arg.lt
  refine wpList_append_lies w hgd x y 42 ho (w0.heap.size + 1) 3 i0 (.int .i64 0) 1 8 Try.underlying42 hi hz0 hz1 hz2 rfl (by decide) pv path.length (path.map natV) hx h.p ⟨g, 0, none⟩ 1 1 [natV k] hy rfl (World.news_of_block hB) (natV_one [k]) (by omega) (by unfold maxLen; omega) (by omega) (by omega) _ rfl ?_
  intro g1 c1 w4 hown hgrow hat _
  exact hK _ _ _ (h.step hown hgrow hat)

theorem wpList_appL {ops : Array Oper} {rest : List Oper} {o : Oper} {a : Act} {K : Exit → Act → World → Prop} {x y : Operand} {g : Nat} {t : T} {u v : Value} (hgd : o.guard = none) (ho : o.op = .call { callee := .builtin .append, args := #[x, y], argTypes := #[40, 40] })
    (hx : a.eval x = rv) (hy : a.eval y = .slice (some ⟨g, 0, none⟩) 1 1) (hB : Blk w g 44 #[pv, u, v]) (h : Pl B w0 y0 y1 L Q path w rv iv pv) (ht : InT (Fp B (w0.heap.size + 1) rv pv) w t (.agg #[u, v])) (hpath : 0 < path.length) (hlen : L.length ≤ 4294967295) (hpv : pv.oneCell' = true)
    (hK : ∀ ra rc w', Pl B w0 y0 y1 (L ++ [(path, t)]) Q [] w' (.slice ra (L.length + 1) rc) iv (.slice none 0 0) → wpList Try.prog ops K rest (a.put o.dst (.slice ra (L.length + 1) rc)) w') : wpList Try.prog ops K (o :: rest) a w := by
  have hpl : (Try.prog.info? 44).map (fun i => (i.zero, i.size, i.bytes)) = some (some (.agg #[.slice none 0 0, .int .i64 0, .slice none 0 0]), 3, 56) := by kernel_rfl
  obtain ⟨j0, kj, kz0, kz1, kz2⟩ := info_parts hpl
  have hN := h.arg.lt
  obtain ⟨xs, h1, h2⟩ := h.rows
  have huv : u.oneCell' = true ∧ v.oneCell' = true := by
    obtain ⟨_, a', c', e, _⟩ := ht.form
    simp only [Value.agg.injEq, Array.mk.injEq, List.cons.injEq, and_true] at e
    obtain ⟨rfl, rfl⟩ := e
    exact ⟨rfl, rfl⟩
  refine wpList_append_lies w hgd x y 40 ho (w0.heap.size + 1) 44 j0 (.agg #[.slice none 0 0, .int .i64 0, .slice none 0 0]) 3 56 Try.underlying40 kj kz0 kz1 kz2 rfl (by decide) rv L.length xs hx h1 ⟨g, 0, none⟩ 1 1 [pv, u, v] hy rfl (World.news_of_block hB) (by simp [hpv, huv.1, huv.2]) (by omega) (by unfold maxLen; omega) (by omega) (by omega) _ rfl ?_
  intro g1 c1 w4 hown hgrow hat _
  exact hK _ _ _ (h.snoc h2 ht hpath hown hgrow hat)
end

set_option maxRecDepth 100000 in
set_option maxHeartbeats 8000000 in
theorem places_any (B : Nat) : ∀ (t : T) (w : World) (v : Value), t.size ≤ 4294967290 → InT (fun b => b < B) w t v → B ≤ w.heap.size →
    Calls Try.prog 16 #[v] w fun e w' => ∃ a c, e = .returned (.slice a t.places.length c) ∧ t.places.length ≤ c ∧ c ≤ maxLen ∧ InPls (New B w.heap.size) w' t.places a ∧ Below w.heap.size w w' := by
  intro t
  induction t using T.ind with
  | h f ar ih =>
    intro w v hmax hv hB
    obtain ⟨hf, at_, ct, rfl, hc, hm, hl⟩ := id hv
    have Hv := Lib.hid hv
    have hsz := T.size_eq (T.mk f ar)
    have hlen : ar.length ≤ 4294967290 := by
      have h2 := len_sizeL ar
      simp at hsz; omega
    have Hsz := Lib.hid hsz
    have Hmax := Lib.hid hmax
    unfold maxLen at hm
    clear hv hsz hmax
    go_enter Try.func16, Try.ntmps16
    go_wp2_with fail
    refine (copy_any B (.mk f ar) _ _ (by have := Hmax.out; omega) (Hv.out.below (balloc _ _)) (by simp; omega)).mono ?_
    rintro e w1 ⟨cv, rfl, hcv, hb1⟩
    obtain ⟨_, ca, cc, rfl, _, _, _⟩ := id hcv.form
    have hB1 : Blk w1 w.heap.size 27 #[.int .i64 f, .slice at_ ar.length ct] := (Blk.new' rfl).below hb1
    have hw1 := bstep (balloc _ _) hb1
    have hsz1 := hb1.size
    have k0 := hB1.cell 0
    have k1 := hB1.cell 1
    simp only [List.getElem?_toArray, List.getElem?_cons_zero, List.getElem?_cons_succ] at k0 k1
    have Hhcv := Lib.hid hcv
    have HhB1 := Lib.hid hB1
    have Hhw1 := Lib.hid hw1
    have Hhsz1 := Lib.hid hsz1
    clear hcv hB1 hw1 hsz1
    clear hb1
    go_wp2_with fail
    go_loopw [3, 4, 5, 6, 7, 8] (fun lv nv _ _ _ _ wr => ∃ (n : Nat), n ≤ ar.length ∧ nv = .int .i64 n ∧ Hid (Pl B w (.int .i64 f) (.slice at_ ar.length ct) (([], .mk f ar) :: T.placesL 0 (ar.take n)) [] [] wr lv (.slice none 0 0) (.slice none 0 0)) ∧ Hid (∃ a m c, lv = .slice a m c)) (fun _ nv _ _ _ _ _ => ar.length - (intOf nv).toNat)
    case atStart =>
      have hs := Hhsz1.out
      simp at hs
      refine ⟨0, Nat.zero_le _, rfl, Pl.start hB (bstep Hhw1.out (balloc _ _)) (HhB1.out.alloc _) (by omega) (Blk.new' rfl) ?_, ⟨_, _, _, rfl⟩⟩
      refine InT.below (balloc _ _) ((Hhcv.out.mono fun b hb hlt => ⟨hb.imp id (fun h => by simpa using h), by omega⟩))
    case round =>
      clear k0 k1 Hhcv HhB1 Hhw1 Hhsz1
      obtain ⟨n, hn, rfl, HP, hsh⟩ := hrel
      have k0 := HP.out.arg.cell 0
      have k1 := HP.out.arg.cell 1
      simp only [List.getElem?_toArray, List.getElem?_cons_zero, List.getElem?_cons_succ] at k0 k1
      by_cases hlt : n < ar.length
      · obtain ⟨bt, ot, u, x, rfl, hS, g0, g1, gt⟩ := hl.at_ n hlt
        have Hgt := Lib.hid gt
        have HS := Lib.hid hS
        have g0 := (HP.out.below.cell (show (⟨bt, ot + n * 2, none⟩ : Addr).block < w.heap.size from Nat.lt_of_lt_of_le hS hB)).trans g0
        have g1 := (HP.out.below.cell (show (⟨bt, ot + n * 2 + 1, none⟩ : Addr).block < w.heap.size from Nat.lt_of_lt_of_le hS hB)).trans g1
        have z0 : (0 : Int) ≤ (n : Int) := by omega
        have z1 : (n : Int) < (ar.length : Int) := by omega
        have hsn : ar[n].size ≤ 4294967290 ∧ (T.places ar[n]).length ≤ 4294967290 ∧ (T.placesL 0 (ar.take n)).length + (T.places ar[n]).length + 1 ≤ 4294967290 := by
          have h1 := Hsz.out
          have h2 := T.sizeL_take_succ ar n hlt
          have h3 := T.sizeL_take_le ar (n + 1)
          have h4 := Hmax.out
          rw [T.places_size, T.placesL_size]
          simp only [T.args_mk] at h1
          omega
        obtain ⟨Q, hQ⟩ : ∃ Q, Q = T.places ar[n] := ⟨_, rfl⟩
        obtain ⟨L, hL⟩ : ∃ L, L = (([], .mk f ar) :: T.placesL 0 (ar.take n) : List Pl1) := ⟨_, rfl⟩
        have hbound : L.length + Q.length ≤ 4294967290 ∧ ∀ x ∈ Q, x.1.length ≤ 4294967290 := by
          refine ⟨by rw [hL, hQ]; simp only [List.length_cons]; omega, fun x hx => ?_⟩
          rw [hQ] at hx
          exact Nat.le_trans (T.places_len _ x hx) hsn.1
        have HB2 := Lib.hid hbound
        have HQ := Lib.hid hQ
        have HL := Lib.hid hL
        rw [← hL] at HP
        have RC := fun (W : World) (h1 : InT (fun b => b < B) W ar[n] (.agg #[u, x])) (h2 : B ≤ W.heap.size) => ih ar[n] (List.getElem_mem hlt) W (.agg #[u, x]) hsn.1 h1 h2
        rw [← hQ] at RC
        clear ih hS gt hsn hbound hQ hL
        go_wp2_with fail
        refine (RC _ (Hgt.out.old HP.out.below hB) (Nat.le_trans hB HP.out.below.size)).mono ?_
        rintro e w2 ⟨qa, qc, rfl, hq1, hq2, hq3, hb2⟩
        have HP2 := Lib.hid (HP.out.call hb2 hq1 hq2 hq3)
        have g0 := bkeeps hb2 _ _ g0
        have g1 := bkeeps hb2 _ _ g1
        clear RC hb2 hq3 HP k0 k1
        unfold maxLen at hq2
        have Hq12 := Lib.hid (And.intro hq1 hq2)
        have Hsh := hsh
        clear hsh
        go_wp2_with fail
        go_loopw [3, 6, 7, 8] (fun lv kv _ _ wr => ∃ (m : Nat), m ≤ Q.length ∧ kv = .int .i64 m ∧ Hid (Pl B w (.int .i64 f) (.slice (some ⟨bt, ot, none⟩) ar.length ct) (L ++ (Q.take m).map (fun x => (n :: x.1, x.2))) Q [] wr lv (.slice qa Q.length qc) (.slice none 0 0)) ∧ Hid (∃ a m c, lv = .slice a m c)) (fun _ kv _ _ _ => Q.length - (intOf kv).toNat)
        case atStart => exact ⟨0, Nat.zero_le _, rfl, by rw [List.take_zero, List.map_nil, List.append_nil]; exact HP2.out, Hsh.out⟩
        case round =>
          clear HP2 Hsh
          obtain ⟨m, hm2, rfl, HP, hsh⟩ := hrel
          by_cases hmt : m < Q.length
          · obtain ⟨b2, o2, q, xu, xv, rfl, c0, c1, c2, hp1, ht1⟩ := HP.out.at_ m hmt
            have HP3 := Lib.hid (HP.out.begin (i := n))
            obtain ⟨L2, hL2⟩ : ∃ L2, L2 = L ++ (Q.take m).map (fun x => (n :: x.1, x.2)) := ⟨_, rfl⟩
            rw [← hL2] at HP3
            have HL2 := Lib.hid hL2
            have Hsh := hsh
            obtain ⟨path, tt, hqm⟩ : ∃ path tt, Q[m] = (path, tt) := ⟨_, _, rfl⟩
            have Hqm := Lib.hid hqm
            have hpl : path.length ≤ 4294967290 := by
              have := HB2.out.2 _ (List.getElem_mem hmt)
              rw [hqm] at this
              exact this
            clear c0 c1 c2 hp1 ht1 HP hL2 hsh hqm
            go_wp2_with fail
            go_loopw [7, 8] (fun pv jv wr3 => ∃ (j : Nat), j ≤ path.length ∧ jv = .int .i64 j ∧ Hid (Pl B w (.int .i64 f) (.slice (some ⟨bt, ot, none⟩) ar.length ct) L2 Q (n :: path.take j) wr3 u3 (.slice (some ⟨b2, o2, none⟩) Q.length qc) pv) ∧ Hid (∃ a m c, pv = .slice a m c)) (fun _ jv _ => path.length - (intOf jv).toNat)
            case atStart => exact ⟨0, Nat.zero_le _, rfl, by rw [List.take_zero]; exact HP3.out, ⟨_, _, _, rfl⟩⟩
            case round =>
              clear HP3
              obtain ⟨j, hj, rfl, HP, hpsh⟩ := hrel
              obtain ⟨b3, o3, q3, xu, xv, e3, c0, c1, c2, hp1, ht1⟩ := HP.out.at_ m hmt
              simp only [Option.some.injEq, Addr.mk.injEq, and_true] at e3
              obtain ⟨rfl, rfl⟩ := e3
              rw [Hqm.out] at hp1 ht1
              simp only at hp1 ht1
              obtain ⟨pa, pc, rfl, hpc1, hpc2, hcell⟩ := hp1
              unfold maxLen at hpc2
              obtain ⟨_, ua, uc, huv, _, _, _⟩ := id ht1.form
              simp only [Value.agg.injEq, Array.mk.injEq, List.cons.injEq, and_true] at huv
              obtain ⟨rfl, rfl⟩ := huv
              obtain ⟨pva, pvn, pvc, rfl⟩ := hpsh.out
              have z2 : (0 : Int) ≤ (m : Int) := by omega
              have z3 : (m : Int) < (Q.length : Int) := by omega
              have Ht1 := Lib.hid ht1
              have hq2 := Hq12.out.2
              clear ht1
              by_cases hjt : j < path.length
              · obtain ⟨bp, op, rfl, hSp, gx⟩ := hcell j hjt
                have z4 : (0 : Int) ≤ (j : Int) := by omega
                have z5 : (j : Int) < (path.length : Int) := by omega
                clear hcell
                have Hgx := Lib.hid gx
                unfold natV at gx
                have hpc : (n :: path.take j).length ≤ 4294967295 := by simp; omega
                go_wp2_with (with_reducible refine stop_app ?_)
                refine Stop.mk ?_
                refine wpList_appP rfl rfl rfl rfl (Blk.new' rfl) (HP.out.below_ (balloc _ _)) hpc ?_
                intro pa2 pc2 w4 HP5
                rw [show (n :: path.take j).length = j + 1 by simp; omega] at HP5
                have HHP5 := Lib.hid HP5
                clear HP5
                clear HP hpsh hpc c0 c1 c2 gx hSp
                go_wp2_with fail
                go_roundw
                case rel => exact ⟨j + 1, by omega, by go_num, by rw [List.take_succ_eq_append_getElem hjt]; exact HHP5.out, ⟨_, _, _, rfl⟩⟩
                case measure => simp [intOf]; omega
              · clear hcell
                have hjl : path.take j = path := by rw [show j = path.length by omega, List.take_length]
                rw [hjl] at HP
                have hlen : L2.length ≤ 4294967295 := by have := HB2.out.1; rw [HL2.out]; simp; omega
                go_wp2_with (with_reducible refine stop_app ?_)
                refine Stop.mk ?_
                refine wpList_appL rfl rfl rfl rfl (Blk.new' rfl) (HP.out.below_ (balloc _ _)) (Ht1.out.below (balloc _ _)) (by simp) hlen rfl ?_
                intro ra2 rc2 w4 HP5
                have HHP5 := Lib.hid HP5
                clear HP5
                clear HP hpsh Hsh hlen c0 c1 c2 Ht1
                go_wp2_with fail
                go_roundw
                case rel =>
                  refine ⟨m + 1, by omega, by go_num, ?_, ⟨_, _, _, rfl⟩⟩
                  rw [List.take_succ_eq_append_getElem hmt, List.map_append, Hqm.out]
                  have e : L ++ ((Q.take m).map (fun x => (n :: x.1, x.2)) ++ [(path, tt)].map (fun x => (n :: x.1, x.2))) = L2 ++ [(n :: path, tt)] := by rw [HL2.out, List.append_assoc]; rfl
                  rw [e]
                  exact HHP5.out
                case measure => simp [intOf]; omega
          · have HD := Lib.hid HP.out.drop
            have he : L ++ (Q.take m).map (fun x => (n :: x.1, x.2)) = (([], .mk f ar) :: T.placesL 0 (ar.take (n + 1)) : List Pl1) := by
              rw [show m = Q.length by omega, List.take_length, HL.out, HQ.out, List.take_succ_eq_append_getElem hlt, T.placesL_append]
              simp only [List.cons_append, T.placesL, List.append_nil, List.length_take, Nat.zero_add]
              rw [Nat.min_eq_left (by omega)]
            rw [he] at HD
            clear HP he
            go_wp2_with fail
            go_roundw
            case rel => exact ⟨n + 1, by omega, by go_num, HD.out, hsh.out⟩
            case measure => simp [intOf]; omega
      · have HV := Lib.hid (show T.places (.mk f ar) = ([], .mk f ar) :: T.placesL 0 (ar.take n) by rw [show n = ar.length by omega, List.take_length, T.places])
        obtain ⟨ra, rn, rc, rfl⟩ := hsh.out
        go_wp2_with fail
        go_ret
        obtain ⟨a', c', e, h1, h2, h3⟩ := HP.out.value (by simp)
        rw [HV.out]
        exact ⟨a', c', by rw [e]; rfl, h1, h2, h3, HP.out.below⟩

end Go.Proofs.Ytlkiabgpnboicaa.Old

/- The walk through the law LpoSubterms. -/
namespace Go.Proofs.Ytlkiabgpnboicaa
open Go.RowKit Go

def pget (l : List (List Nat × T)) (k : Nat) : List Nat × T := l.getD k ([], .mk 0 [])
theorem pget_lt {l : List (List Nat × T)} {k : Nat} (h : k < l.length) : pget l k = l[k] := by simp [pget, h]
theorem plsOpen {S : Nat → Prop} {w : World} {l : List (List Nat × T)} {a : Option Addr} (h : Old.InPls S w l a) : ∃ (b o : Nat) (P : Nat → Option Addr) (PC : Nat → Nat) (A : Nat → Option Addr) (C : Nat → Nat), (∀ k, k < l.length → a = some ⟨b, o, none⟩) ∧
    ∀ k, k < l.length → w.cell? ⟨b, o + k * 3, none⟩ = some (.slice (P k) (pget l k).1.length (PC k)) ∧ w.cell? ⟨b, o + k * 3 + 1, none⟩ = some (.int .i64 (pget l k).2.f) ∧ w.cell? ⟨b, o + k * 3 + 2, none⟩ = some (.slice (A k) (pget l k).2.args.length (C k)) ∧
      Old.PIn S w (pget l k).1 (.slice (P k) (pget l k).1.length (PC k)) ∧ IsT w (pget l k).2 (.agg #[.int .i64 (pget l k).2.f, .slice (A k) (pget l k).2.args.length (C k)]) := by
  rcases Nat.eq_zero_or_pos l.length with h0 | h0
  · exact ⟨0, 0, fun _ => none, fun _ => 0, fun _ => none, fun _ => 0, fun k hk => by omega, fun k hk => by omega⟩
  · obtain ⟨b, o, _, _, _, ha, _⟩ := h 0 h0
    have key : ∀ k, k < l.length → ∃ p : (Option Addr × Nat) × (Option Addr × Nat), w.cell? ⟨b, o + k * 3, none⟩ = some (.slice p.1.1 (pget l k).1.length p.1.2) ∧ w.cell? ⟨b, o + k * 3 + 1, none⟩ = some (.int .i64 (pget l k).2.f) ∧ w.cell? ⟨b, o + k * 3 + 2, none⟩ = some (.slice p.2.1 (pget l k).2.args.length p.2.2) ∧
      Old.PIn S w (pget l k).1 (.slice p.1.1 (pget l k).1.length p.1.2) ∧ IsT w (pget l k).2 (.agg #[.int .i64 (pget l k).2.f, .slice p.2.1 (pget l k).2.args.length p.2.2]) := by
      intro k hk
      obtain ⟨b', o', pv, u, v, ha', _, c0, c1, c2, hp, ht⟩ := h k hk
      rw [ha] at ha'
      simp only [Option.some.injEq, Addr.mk.injEq, and_true] at ha'
      obtain ⟨rfl, rfl⟩ := ha'
      obtain ⟨pa, pc, rfl⟩ := hp.slice
      have ht' := ht.isT
      obtain ⟨_, ta, tc, e, _⟩ := ht'.form
      simp only [Value.agg.injEq, Array.mk.injEq, List.cons.injEq, and_true] at e
      obtain ⟨rfl, rfl⟩ := e
      rw [pget_lt hk]
      exact ⟨((pa, pc), (ta, tc)), c0, c1, c2, hp, ht'⟩
    have : Inhabited ((Option Addr × Nat) × (Option Addr × Nat)) := ⟨((none, 0), (none, 0))⟩
    obtain ⟨F, hF⟩ := Go.Deep.choose_lt key
    exact ⟨b, o, fun k => (F k).1.1, fun k => (F k).1.2, fun k => (F k).2.1, fun k => (F k).2.2, fun _ _ => ha, hF⟩
theorem Od.lg_part {o : Od} {s t : T} (h : T.Part s t) : o.lknows t = true → o.lg t s = true := by
  induction h with
  | @arg f l a ha =>
    intro hk
    exact Od.lg_arg (fun hf => by have := (lknows_top hk).2 hf; rw [show l = [] from this] at ha; simp at ha) ha
  | @deep f l a b hb hp ih =>
    intro hk
    exact Od.lg_sub (fun hf => by have := (lknows_top hk).2 hf; rw [show l = [] from this] at hb; simp at hb) hb (.inr (ih (lknows_arg hk hb).1))
theorem places_proper {t : T} {k : Nat} (h0 : 0 < k) (hk : k < t.places.length) : T.Part (pget t.places k).2 t := by
  rw [pget_lt hk]
  obtain ⟨f, l⟩ := t
  obtain ⟨k, rfl⟩ : ∃ j, k = j + 1 := ⟨k - 1, by omega⟩
  simp only [T.places, List.getElem_cons_succ]
  exact T.placesL_part l 0 f l (fun a h => h) _ (List.getElem_mem _)
theorem lknows_part {o : Od} {s t : T} (h : T.Part s t) : o.lknows t = true → o.lknows s = true := by
  induction h with
  | arg ha => exact fun hk => (lknows_arg hk ha).1
  | deep hb _ ih => exact fun hk => ih (lknows_arg hk hb).1
theorem part_size {s t : T} (h : T.Part s t) : s.size ≤ t.size := by
  induction h with
  | @arg f l a ha => have := T.size_le_sizeL ha; rw [T.size]; omega
  | @deep f l a b hb _ ih => have := T.size_le_sizeL hb; rw [T.size]; omega
theorem ts1' {w : World} {t : T} {u v : Value} {ty : Nat} (h : IsT w t (.agg #[u, v])) : TsOf [t] (.slice (some ⟨w.heap.size, 0, none⟩) 1 1) (w.alloc (.cells #[u, v] ty)) := ts1 h
theorem places_of {t : T} {w : World} {v : Value} (hz : t.size ≤ 4294967290) (h : IsT w t v) : Calls Try.prog 16 #[v] w (Ret fun v' w' => (∃ a c, v' = .slice a t.places.length c ∧ t.places.length ≤ c ∧ c ≤ maxLen ∧ Old.InPls (Old.New w.heap.size w.heap.size) w' t.places a) ∧ Below w.heap.size w w') := by
  refine (Old.places_any w.heap.size t w v hz (Old.IsT.inT h) (Nat.le_refl _)).mono ?_
  rintro e w' ⟨a, c, rfl, h1, h2, h3, hb⟩
  exact ⟨_, rfl, ⟨a, c, rfl, h1, h2, h3⟩, hb⟩
set_option maxRecDepth 100000 in
theorem subterms_any (sg : List Sy) (o : Od) (t : T) (w : World) (vs vo v1 : Value) (zt : t.size ≤ 4294967290) (hst : IsSig w sg vs) (hot : IsOd w o vo) (ht : IsT w t v1) :
    Calls Try.prog 5 #[vs, vo, v1] w (Ret fun v' w' => v' = .bool true ∧ Below w.heap.size w w') := by
  have h0 := hst
  have h1 := hot
  have zt : t.size ≤ 4294967296 := by omega
  obtain ⟨p1, p2, k1, k2, rfl, _, _, _, _, hp, _, _⟩ := h1
  obtain ⟨a, c, rfl, _, _, _⟩ := h0
  obtain ⟨_, et, dt, rfl, _, _, _⟩ := ht.form
  refine Calls.walk (l := [.agg #[.slice a sg.length c], .agg #[.bool o.lpo, .slice p1 o.prec.length k1, .slice p2 o.weights.length k2, .int .i64 o.var], .agg #[.int .i64 t.f, .slice et t.args.length dt]]) Try.func5 rfl (by kernel_rfl) ?_
  refine WC.sub (K' := [(0, .agg #[.slice a sg.length c]), (1, .agg #[.bool o.lpo, .slice p1 o.prec.length k1, .slice p2 o.weights.length k2, .int .i64 o.var]), (2, .agg #[.int .i64 t.f, .slice et t.args.length dt])]) ⟨rfl, rfl, rfl, trivial⟩ ?_
  refine WC.seq ?_
  refine WC.region ?_
  refine WL.step (post := NewBlk w 35 #[.slice a sg.length c]) rfl rfl rfl (fun za zC zh zk => box_35 rfl (zh.ev rfl) (zk _ _ (newBlk _ _ _))) ?_
  rintro _ w1 ⟨g2, rfl, hg3, hB4, hb5, hz6⟩
  have hl7 : w.heap.size ≤ g2 := by omega
  refine WL.step (post := NewBlk w1 24 #[.bool o.lpo, .slice p1 o.prec.length k1, .slice p2 o.weights.length k2, .int .i64 o.var]) rfl rfl rfl (fun za zC zh zk => box_24 rfl (zh.ev rfl) (zk _ _ (newBlk _ _ _))) ?_
  rintro _ w8 ⟨g9, rfl, hg10, hB11, hb12, hz13⟩
  have hl14 : g2 < g9 := by have z1 := hB4.lt; omega
  have hl15 : w.heap.size ≤ g9 := by have z2 := (hb5).size; omega
  refine WL.step (post := NewBlk w8 27 #[.int .i64 t.f, .slice et t.args.length dt]) rfl rfl rfl (fun za zC zh zk => box_27 rfl (zh.ev rfl) (zk _ _ (newBlk _ _ _))) ?_
  rintro _ w16 ⟨g17, rfl, hg18, hB19, hb20, hz21⟩
  have hl22 : g2 < g17 := by have z1 := hB4.lt; have z2 := (hb12).size; omega
  have hl23 : g9 < g17 := by have z1 := hB11.lt; omega
  have hb24 : Below w.heap.size w w8 := (bstep hb5 hb12)
  have hl25 : w.heap.size ≤ g17 := by have z2 := (hb24).size; omega
  refine WL.val (.bool false) rfl rfl rfl (fun za zC zh zk => wp_assign rfl (zh.ev rfl) zk) ?_
  refine WL.nil (WE.sub (K' := [(0, .agg #[.slice a sg.length c]), (1, .agg #[.bool o.lpo, .slice p1 o.prec.length k1, .slice p2 o.weights.length k2, .int .i64 o.var]), (2, .agg #[.int .i64 t.f, .slice et t.args.length dt]), (3, .pointer (some ⟨g2, 0, none⟩)), (4, .pointer (some ⟨g9, 0, none⟩)), (5, .pointer (some ⟨g17, 0, none⟩)), (6, .bool false)]) ⟨rfl, rfl, rfl, rfl, rfl, rfl, rfl, trivial⟩ ?_)
  refine WE.next ?_
  refine WC.seq ?_
  refine WC.seq ?_
  have hb26 : Below w.heap.size w w16 := (bstep hb24 hb20)
  have hb28 : Below w1.heap.size w1 w16 := (bstep hb12 hb20)
  have hB27 := hB4.below hb28
  have hB29 := hB11.below hb20
  refine WC.opt [(true, .val (.agg #[.int .i64 t.f, .slice et t.args.length dt])), (true, .mem (TsOf [t]) (fun v w w' hb h => TsOf.bel h hb)), (true, .val (.bool ((greatB [t])))), (true, .val (.bool ((greatB [t])))), ((true && !(greatB [t])), .val (.agg #[.slice a sg.length c])), ((true && !(greatB [t])), .val (.agg #[.bool o.lpo, .slice p1 o.prec.length k1, .slice p2 o.weights.length k2, .int .i64 o.var])), ((true && !(greatB [t])), .val (.agg #[.int .i64 t.f, .slice et t.args.length dt])), ((true && !(greatB [t])), .mem (TsOf [t]) (fun v w w' hb h => TsOf.bel h hb)), ((true && !(greatB [t])), .val (.bool ((fitsB sg o [t])))), ((true && !(greatB [t])), .val (.bool ((!(fitsB sg o [t]))))), (true, .val (.bool (((greatB [t]) || (!(fitsB sg o [t]))))))] [(0, .agg #[.slice a sg.length c]), (1, .agg #[.bool o.lpo, .slice p1 o.prec.length k1, .slice p2 o.weights.length k2, .int .i64 o.var]), (2, .agg #[.int .i64 t.f, .slice et t.args.length dt]), (3, .pointer (some ⟨g2, 0, none⟩)), (4, .pointer (some ⟨g9, 0, none⟩)), (5, .pointer (some ⟨g17, 0, none⟩)), (6, .bool false)] ⟨rfl, rfl, rfl, rfl, rfl, rfl, rfl, trivial⟩ (by kernel_rfl) (by kernel_rfl) (by kernel_rfl) ?_ ?_
  · refine ⟨⟨true, .none rfl, fun h w => optUndef h, fun zβ za zw zc => ?_⟩, ?_⟩
    · exact ld_27 rfl (zc.kn.ev rfl) (bkeeps zc.below _ _ ((hB19.cell 0).trans rfl)) (bkeeps zc.below _ _ ((hB19.cell 1).trans rfl)) ⟨_, rfl, Below.refl _ _, optDef zβ rfl⟩
    refine ⟨⟨true, .none rfl, fun h w => optUndef h, fun zβ za zw zc => ?_⟩, ?_⟩
    · exact row_25_1 rfl ((show za.eval (.tmp 9) = za.tmps.getD 9 undef from rfl).trans (optVal (zc.dep 0 9 (by kernel_rfl)) rfl rfl)) ⟨_, rfl, balloc _ _, optDef zβ (ts1 (IsT.below (bstep hb26 zc.below) ht))⟩
    refine ⟨⟨true, .none rfl, fun h w => optUndef h, fun zβ za zw zc => ?_⟩, ?_⟩
    · exact wp_call (by kernel_rfl) rfl (hv1 (show za.eval (.tmp 10) = za.tmps.getD 10 undef from rfl)) (great_ts (optMem (zc.dep 1 10 (by kernel_rfl)) rfl rfl)) (fun v w' h => ⟨v, rfl, h.2, optDef zβ h.1⟩)
    refine ⟨⟨true, .none rfl, fun h w => optUndef h, fun zβ za zw zc => ?_⟩, ?_⟩
    · exact wp_move rfl ((show za.eval (.tmp 11) = za.tmps.getD 11 undef from rfl).trans (optVal (zc.dep 2 11 (by kernel_rfl)) rfl rfl)) ⟨_, rfl, Below.refl _ _, optDef zβ rfl⟩
    refine ⟨⟨(true && !(greatB [t])), .no (c := (greatB [t])) (d := true) rfl (fun v w h => h), fun h w => optUndef h, fun zβ za zw zc => ?_⟩, ?_⟩
    · exact ld_35 rfl (zc.kn.ev rfl) (bkeeps zc.below _ _ ((hB27.cell 0).trans rfl)) ⟨_, rfl, Below.refl _ _, optDef zβ rfl⟩
    refine ⟨⟨(true && !(greatB [t])), .no (c := (greatB [t])) (d := true) rfl (fun v w h => h), fun h w => optUndef h, fun zβ za zw zc => ?_⟩, ?_⟩
    · exact ld_24 rfl (zc.kn.ev rfl) (bkeeps zc.below _ _ ((hB29.cell 0).trans rfl)) (bkeeps zc.below _ _ ((hB29.cell 1).trans rfl)) (bkeeps zc.below _ _ ((hB29.cell 2).trans rfl)) (bkeeps zc.below _ _ ((hB29.cell 3).trans rfl)) ⟨_, rfl, Below.refl _ _, optDef zβ rfl⟩
    refine ⟨⟨(true && !(greatB [t])), .no (c := (greatB [t])) (d := true) rfl (fun v w h => h), fun h w => optUndef h, fun zβ za zw zc => ?_⟩, ?_⟩
    · exact ld_27 rfl (zc.kn.ev rfl) (bkeeps zc.below _ _ ((hB19.cell 0).trans rfl)) (bkeeps zc.below _ _ ((hB19.cell 1).trans rfl)) ⟨_, rfl, Below.refl _ _, optDef zβ rfl⟩
    refine ⟨⟨(true && !(greatB [t])), .no (c := (greatB [t])) (d := true) rfl (fun v w h => h), fun h w => optUndef h, fun zβ za zw zc => ?_⟩, ?_⟩
    · exact row_25_1 rfl ((show za.eval (.tmp 15) = za.tmps.getD 15 undef from rfl).trans (optVal (zc.dep 6 15 (by kernel_rfl)) rfl zβ)) ⟨_, rfl, balloc _ _, optDef zβ (ts1 (IsT.below (bstep hb26 zc.below) ht))⟩
    refine ⟨⟨(true && !(greatB [t])), .no (c := (greatB [t])) (d := true) rfl (fun v w h => h), fun h w => optUndef h, fun zβ za zw zc => ?_⟩, ?_⟩
    · exact wp_call (by kernel_rfl) rfl (hv3 ((show za.eval (.tmp 13) = za.tmps.getD 13 undef from rfl).trans (optVal (zc.dep 4 13 (by kernel_rfl)) rfl zβ)) ((show za.eval (.tmp 14) = za.tmps.getD 14 undef from rfl).trans (optVal (zc.dep 5 14 (by kernel_rfl)) rfl zβ)) (show za.eval (.tmp 16) = za.tmps.getD 16 undef from rfl)) (fits_ts (by intro x hx; simp only [List.mem_singleton] at hx; subst hx; exact zt) (IsSig.below (bstep hb26 zc.below) hst) (hot.below (bstep hb26 zc.below)) (optMem (zc.dep 7 16 (by kernel_rfl)) rfl zβ)) (fun v w' h => ⟨v, rfl, h.2, optDef zβ h.1⟩)
    refine ⟨⟨(true && !(greatB [t])), .no (c := (greatB [t])) (d := true) rfl (fun v w h => h), fun h w => optUndef h, fun zβ za zw zc => ?_⟩, ?_⟩
    · exact wp_not rfl ((show za.eval (.tmp 17) = za.tmps.getD 17 undef from rfl).trans (optVal (zc.dep 8 17 (by kernel_rfl)) rfl zβ)) ⟨_, rfl, Below.refl _ _, optDef zβ rfl⟩
    refine ⟨⟨true, .none rfl, fun h w => optUndef h, fun zβ za zw zc => ?_⟩, ?_⟩
    · exact wp_or rfl ((show za.eval (.tmp 12) = za.tmps.getD 12 undef from rfl).trans (optVal (zc.dep 3 12 (by kernel_rfl)) rfl rfl)) (fun hp => ((show za.eval (.tmp 18) = za.tmps.getD 18 undef from rfl).trans (optVal (zc.dep 9 18 (by kernel_rfl)) rfl (bMkN zβ hp)))) ⟨_, rfl, Below.refl _ _, optDef zβ rfl⟩
    exact trivial
  · intro za w30 zh hb31 zu
    have zh := zh.cons (d := 19) (v := .bool (((greatB [t]) || (!(fitsB sg o [t]))))) (optVal (zu 10 19 (by kernel_rfl)) rfl rfl)
    clear zu
    refine (show WE _ [(0, .agg #[.slice a sg.length c]), (1, .agg #[.bool o.lpo, .slice p1 o.prec.length k1, .slice p2 o.weights.length k2, .int .i64 o.var]), (2, .agg #[.int .i64 t.f, .slice et t.args.length dt]), (3, .pointer (some ⟨g2, 0, none⟩)), (4, .pointer (some ⟨g9, 0, none⟩)), (5, .pointer (some ⟨g17, 0, none⟩)), (6, .bool false), (19, .bool (((greatB [t]) || (!(fitsB sg o [t])))))] w30 _ .normal from ?_) za (zh.sub ⟨rfl, rfl, rfl, rfl, rfl, rfl, rfl, rfl, trivial⟩)
    refine WE.next ?_
    refine WC.cond rfl (fun h32 => ?_) (fun h32 => ?_)
    · have h32 : ((greatB [t]) = true) ∨ (¬ ((fitsB sg o [t]) = true)) := by simpa using h32
      refine WC.seq ?_
      refine WC.region ?_
      refine WL.call rfl rfl rfl (fun za zh zC => wp_call (by kernel_rfl) rfl (hv0)) (wakes_any _) ?_
      rintro _ w33 ⟨rfl, hbw⟩
      refine WL.val (.bool true) rfl rfl rfl (fun za zC zh zk => wp_assign rfl (zh.ev rfl) zk) ?_
      refine WL.nil (WE.sub (K' := [(0, .agg #[.slice a sg.length c]), (1, .agg #[.bool o.lpo, .slice p1 o.prec.length k1, .slice p2 o.weights.length k2, .int .i64 o.var]), (2, .agg #[.int .i64 t.f, .slice et t.args.length dt]), (3, .pointer (some ⟨g2, 0, none⟩)), (4, .pointer (some ⟨g9, 0, none⟩)), (5, .pointer (some ⟨g17, 0, none⟩)), (6, .bool true), (19, .bool (((greatB [t]) || (!(fitsB sg o [t])))))]) ⟨rfl, rfl, rfl, rfl, rfl, rfl, rfl, rfl, trivial⟩ ?_)
      refine WE.next ?_
      refine WC.ret ?_
      refine WE.thenRet ?_
      refine WE.ret1 rfl rfl ?_
      have hb34 : Below w.heap.size w w33 := (bstep (bstep hb26 hb31) hbw)
      exact ⟨_, rfl, rfl, hb34⟩
    · have h32 : ¬ (((greatB [t]) = true) ∨ (¬ ((fitsB sg o [t]) = true))) := by simpa using h32
      have hF := fitsB_of (sg := sg) (o := o) (l := [t]) (by have z := h32; simp at z; exact z.2)
      have kt := Od.lknown hF.2.1 (hF.2.2 t (by simp))
      refine WC.skip ?_
      refine WE.next ?_
      refine WC.seq ?_
      refine WC.region ?_
      have hB35 := hB19.below hb31
      refine WL.val (.agg #[.int .i64 t.f, .slice et t.args.length dt]) rfl rfl rfl (fun za zC zh zk => ld_27 rfl (zh.ev rfl) ((hB35.cell 0).trans rfl) ((hB35.cell 1).trans rfl) zk) ?_
      have hb36 : Below w.heap.size w w30 := (bstep hb26 hb31)
      refine WL.call rfl rfl rfl (fun za zh zC => wp_call (by kernel_rfl) rfl (hv1 (zh.ev rfl))) (places_of (by omega) (IsT.below hb36 ht)) ?_
      rintro _ w37 ⟨⟨qa, qc, rfl, hq1, hq2, hqI⟩, hbp⟩
      have hql : t.places.length ≤ 4294967296 := by rw [T.places_size]; exact zt
      have hqm := hq2
      unfold maxLen at hqm
      refine WL.val (.slice qa t.places.length qc) rfl rfl rfl (fun za zC zh zk => wp_assign rfl (zh.ev rfl) zk) ?_
      refine WL.nil (WE.sub (K' := [(0, .agg #[.slice a sg.length c]), (1, .agg #[.bool o.lpo, .slice p1 o.prec.length k1, .slice p2 o.weights.length k2, .int .i64 o.var]), (2, .agg #[.int .i64 t.f, .slice et t.args.length dt]), (3, .pointer (some ⟨g2, 0, none⟩)), (4, .pointer (some ⟨g9, 0, none⟩)), (5, .pointer (some ⟨g17, 0, none⟩)), (6, .bool false), (7, .slice qa t.places.length qc), (19, .bool (((greatB [t]) || (!(fitsB sg o [t])))))]) ⟨rfl, rfl, rfl, rfl, rfl, rfl, rfl, rfl, rfl, trivial⟩ ?_)
      refine WE.next ?_
      refine WC.seq ?_
      refine WC.seq ?_
      refine WC.region ?_
      refine WL.val (.int .i64 1) rfl rfl rfl (fun za zC zh zk => wp_assign rfl (zh.ev rfl) zk) ?_
      refine WL.nil (WE.sub (K' := [(0, .agg #[.slice a sg.length c]), (1, .agg #[.bool o.lpo, .slice p1 o.prec.length k1, .slice p2 o.weights.length k2, .int .i64 o.var]), (2, .agg #[.int .i64 t.f, .slice et t.args.length dt]), (3, .pointer (some ⟨g2, 0, none⟩)), (4, .pointer (some ⟨g9, 0, none⟩)), (5, .pointer (some ⟨g17, 0, none⟩)), (6, .bool false), (7, .slice qa t.places.length qc), (8, .int .i64 1), (19, .bool (((greatB [t]) || (!(fitsB sg o [t])))))]) ⟨rfl, rfl, rfl, rfl, rfl, rfl, rfl, rfl, rfl, rfl, trivial⟩ ?_)
      refine WE.next ?_
      refine WC.block ?_
      refine WC.loop (X := Nat) (fun k => t.places.length - k) (fun k => [(0, .agg #[.slice a sg.length c]), (1, .agg #[.bool o.lpo, .slice p1 o.prec.length k1, .slice p2 o.weights.length k2, .int .i64 o.var]), (2, .agg #[.int .i64 t.f, .slice et t.args.length dt]), (3, .pointer (some ⟨g2, 0, none⟩)), (4, .pointer (some ⟨g9, 0, none⟩)), (5, .pointer (some ⟨g17, 0, none⟩)), (7, .slice qa t.places.length qc), (8, .int .i64 (((k : Nat) : Int))), (19, .bool (((greatB [t]) || (!(fitsB sg o [t])))))]) (fun k w38 => 1 ≤ k ∧ Below w.heap.size w w38 ∧ Below w37.heap.size w37 w38 ∧ Blk w38 g2 35 #[.slice a sg.length c] ∧ Blk w38 g9 24 #[.bool o.lpo, .slice p1 o.prec.length k1, .slice p2 o.weights.length k2, .int .i64 o.var] ∧ Blk w38 g17 27 #[.int .i64 t.f, .slice et t.args.length dt]) 1 ⟨rfl, rfl, rfl, rfl, rfl, rfl, rfl, rfl, rfl, trivial⟩ ?_ ?_
      · have hb39 : Below w.heap.size w w37 := (bstep hb36 hbp)
        have hb41 : Below w16.heap.size w16 w37 := (bstep hb31 hbp)
        have hB40 := hB27.below hb41
        have hB42 := hB29.below hb41
        have hB43 := hB35.below hbp
        exact ⟨Nat.le_refl _, hb39, (Below.refl _ _), hB40, hB42, hB43⟩
      · rintro k w38 ⟨hk, hb44, hb45, hB46, hB47, hB48⟩
        refine WC.seq ?_
        refine WC.seq ?_
        refine WC.region ?_
        refine WL.val (.int .i64 (((k : Nat) : Int))) rfl rfl rfl (fun za zC zh zk => wp_move rfl (zh.ev rfl) zk) ?_
        refine WL.val (.slice qa t.places.length qc) rfl rfl rfl (fun za zC zh zk => wp_move rfl (zh.ev rfl) zk) ?_
        refine WL.val (.int .i64 (((t.places.length : Nat) : Int))) rfl rfl rfl (fun za zC zh zk => len_40 rfl (zh.ev rfl) zk) ?_
        refine WL.val (.bool ((decide ((((k : Nat) : Int) : Int) < (((t.places.length : Nat) : Int) : Int))))) rfl rfl rfl (fun za zC zh zk => lss_3 rfl (zh.ev rfl) (zh.ev rfl) zk) ?_
        refine WL.nil (WE.sub (K' := [(0, .agg #[.slice a sg.length c]), (1, .agg #[.bool o.lpo, .slice p1 o.prec.length k1, .slice p2 o.weights.length k2, .int .i64 o.var]), (2, .agg #[.int .i64 t.f, .slice et t.args.length dt]), (3, .pointer (some ⟨g2, 0, none⟩)), (4, .pointer (some ⟨g9, 0, none⟩)), (5, .pointer (some ⟨g17, 0, none⟩)), (7, .slice qa t.places.length qc), (8, .int .i64 (((k : Nat) : Int))), (19, .bool (((greatB [t]) || (!(fitsB sg o [t]))))), (26, .bool ((decide ((((k : Nat) : Int) : Int) < (((t.places.length : Nat) : Int) : Int)))))]) ⟨rfl, rfl, rfl, rfl, rfl, rfl, rfl, rfl, rfl, rfl, trivial⟩ ?_)
        refine WE.next ?_
        refine WC.cond rfl (fun h49 => ?_) (fun h49 => ?_)
        · have h49 : (((k : Nat) : Int) : Int) < (((t.places.length : Nat) : Int) : Int) := by simpa using h49
          refine WC.skip ?_
          refine WE.next ?_
          refine WC.seq ?_
          refine WC.block ?_
          refine WC.seq ?_
          obtain ⟨b50, o51, P52, PC53, A54, C55, ha56, hc57⟩ := plsOpen hqI
          refine WC.opt [(true, .val (.agg #[.bool o.lpo, .slice p1 o.prec.length k1, .slice p2 o.weights.length k2, .int .i64 o.var])), (true, .val (.agg #[.int .i64 t.f, .slice et t.args.length dt])), (true, .val (.slice qa t.places.length qc)), (true, .val (.int .i64 (((k : Nat) : Int)))), (true, .val (.pointer (some ⟨b50, o51 + k * 3, none⟩))), (true, .val (.pointer (some ⟨b50, o51 + k * 3 + 1, none⟩))), (true, .val (.agg #[.int .i64 ((pget t.places k).2.f), .slice ((A54 k)) ((pget t.places k).2.args.length) ((C55 k))])), (true, .val (.bool ((o.lcmp t ((pget t.places k).2) == 3)))), (true, .val (.bool ((!(o.lcmp t ((pget t.places k).2) == 3)))))] [(0, .agg #[.slice a sg.length c]), (1, .agg #[.bool o.lpo, .slice p1 o.prec.length k1, .slice p2 o.weights.length k2, .int .i64 o.var]), (2, .agg #[.int .i64 t.f, .slice et t.args.length dt]), (3, .pointer (some ⟨g2, 0, none⟩)), (4, .pointer (some ⟨g9, 0, none⟩)), (5, .pointer (some ⟨g17, 0, none⟩)), (7, .slice qa t.places.length qc), (8, .int .i64 (((k : Nat) : Int))), (19, .bool (((greatB [t]) || (!(fitsB sg o [t]))))), (26, .bool ((decide ((((k : Nat) : Int) : Int) < (((t.places.length : Nat) : Int) : Int)))))] ⟨rfl, rfl, rfl, rfl, rfl, rfl, rfl, rfl, rfl, rfl, trivial⟩ (by kernel_rfl) (by kernel_rfl) (by kernel_rfl) ?_ ?_
          · refine ⟨⟨true, .none rfl, fun h w => optUndef h, fun zβ za zw zc => ?_⟩, ?_⟩
            · exact ld_24 rfl (zc.kn.ev rfl) (bkeeps zc.below _ _ ((hB47.cell 0).trans rfl)) (bkeeps zc.below _ _ ((hB47.cell 1).trans rfl)) (bkeeps zc.below _ _ ((hB47.cell 2).trans rfl)) (bkeeps zc.below _ _ ((hB47.cell 3).trans rfl)) ⟨_, rfl, Below.refl _ _, optDef zβ rfl⟩
            refine ⟨⟨true, .none rfl, fun h w => optUndef h, fun zβ za zw zc => ?_⟩, ?_⟩
            · exact ld_27 rfl (zc.kn.ev rfl) (bkeeps zc.below _ _ ((hB48.cell 0).trans rfl)) (bkeeps zc.below _ _ ((hB48.cell 1).trans rfl)) ⟨_, rfl, Below.refl _ _, optDef zβ rfl⟩
            refine ⟨⟨true, .none rfl, fun h w => optUndef h, fun zβ za zw zc => ?_⟩, ?_⟩
            · exact wp_move rfl (zc.kn.ev rfl) ⟨_, rfl, Below.refl _ _, optDef zβ rfl⟩
            refine ⟨⟨true, .none rfl, fun h w => optUndef h, fun zβ za zw zc => ?_⟩, ?_⟩
            · exact wp_move rfl (zc.kn.ev rfl) ⟨_, rfl, Below.refl _ _, optDef zβ rfl⟩
            refine ⟨⟨true, .none rfl, fun h w => optUndef h, fun zβ za zw zc => ?_⟩, ?_⟩
            · exact ix_40 (k := k) rfl ((show za.eval (.tmp 31) = za.tmps.getD 31 undef from rfl).trans (optVal (zc.dep 2 31 (by kernel_rfl)) rfl rfl)) (ha56 k (by first | omega | (simp; omega))) ((show za.eval (.tmp 32) = za.tmps.getD 32 undef from rfl).trans (optVal (zc.dep 3 32 (by kernel_rfl)) rfl rfl)) (by first | omega | (simp; omega)) ⟨_, rfl, Below.refl _ _, optDef zβ rfl⟩
            refine ⟨⟨true, .none rfl, fun h w => optUndef h, fun zβ za zw zc => ?_⟩, ?_⟩
            · exact fld_44_1 rfl ((show za.eval (.tmp 33) = za.tmps.getD 33 undef from rfl).trans (optVal (zc.dep 4 33 (by kernel_rfl)) rfl rfl)) ⟨_, rfl, Below.refl _ _, optDef zβ rfl⟩
            refine ⟨⟨true, .none rfl, fun h w => optUndef h, fun zβ za zw zc => ?_⟩, ?_⟩
            · exact ld_27 rfl ((show za.eval (.tmp 34) = za.tmps.getD 34 undef from rfl).trans (optVal (zc.dep 5 34 (by kernel_rfl)) rfl rfl)) (bkeeps (bstep hb45 zc.below) _ _ (hc57 k (by first | omega | (simp; omega))).2.1) (bkeeps (bstep hb45 zc.below) _ _ (hc57 k (by first | omega | (simp; omega))).2.2.1) ⟨_, rfl, Below.refl _ _, optDef zβ rfl⟩
            refine ⟨⟨true, .none rfl, fun h w => optUndef h, fun zβ za zw zc => ?_⟩, ?_⟩
            · exact wp_call (by kernel_rfl) rfl (hv3 ((show za.eval (.tmp 29) = za.tmps.getD 29 undef from rfl).trans (optVal (zc.dep 0 29 (by kernel_rfl)) rfl rfl)) ((show za.eval (.tmp 30) = za.tmps.getD 30 undef from rfl).trans (optVal (zc.dep 1 30 (by kernel_rfl)) rfl rfl)) ((show za.eval (.tmp 35) = za.tmps.getD 35 undef from rfl).trans (optVal (zc.dep 6 35 (by kernel_rfl)) rfl rfl))) (lpoAbove_any o t ((pget t.places k).2) _ _ _ _ zt (Nat.le_trans (part_size (places_proper (k := k) (by omega) (by omega))) zt) (hot.below (bstep hb44 zc.below)) (IsT.below (bstep hb44 zc.below) ht) (IsT.below (bstep hb45 zc.below) (hc57 k (by first | omega | (simp; omega))).2.2.2.2)) (fun v w' h => ⟨v, rfl, h.2, optDef zβ h.1⟩)
            refine ⟨⟨true, .none rfl, fun h w => optUndef h, fun zβ za zw zc => ?_⟩, ?_⟩
            · exact wp_not rfl ((show za.eval (.tmp 36) = za.tmps.getD 36 undef from rfl).trans (optVal (zc.dep 7 36 (by kernel_rfl)) rfl rfl)) ⟨_, rfl, Below.refl _ _, optDef zβ rfl⟩
            exact trivial
          · intro za w58 zh hb59 zu
            have zh := zh.cons (d := 37) (v := .bool ((!(o.lcmp t ((pget t.places k).2) == 3)))) (optVal (zu 8 37 (by kernel_rfl)) rfl rfl)
            clear zu
            refine (show WE _ [(0, .agg #[.slice a sg.length c]), (1, .agg #[.bool o.lpo, .slice p1 o.prec.length k1, .slice p2 o.weights.length k2, .int .i64 o.var]), (2, .agg #[.int .i64 t.f, .slice et t.args.length dt]), (3, .pointer (some ⟨g2, 0, none⟩)), (4, .pointer (some ⟨g9, 0, none⟩)), (5, .pointer (some ⟨g17, 0, none⟩)), (7, .slice qa t.places.length qc), (8, .int .i64 (((k : Nat) : Int))), (19, .bool (((greatB [t]) || (!(fitsB sg o [t]))))), (26, .bool ((decide ((((k : Nat) : Int) : Int) < (((t.places.length : Nat) : Int) : Int))))), (37, .bool ((!(o.lcmp t ((pget t.places k).2) == 3))))] w58 _ .normal from ?_) za (zh.sub ⟨rfl, rfl, rfl, rfl, rfl, rfl, rfl, rfl, rfl, rfl, rfl, trivial⟩)
            refine WE.next ?_
            refine WC.cond rfl (fun h60 => ?_) (fun h60 => ?_)
            · have h60 : ¬ ((o.lcmp t ((pget t.places k).2) == 3) = true) := by simpa using h60
              exact absurd h60 (by have hpp := places_proper (t := t) (k := k) (by omega) (by omega); have z := Od.lcmp_above (o := o) kt (lknows_part hpp kt); rw [Od.lg_part hpp kt] at z; simp [z])
            · have h60 : ¬ (¬ ((o.lcmp t ((pget t.places k).2) == 3) = true)) := by simpa using h60
              refine WC.skip ?_
              refine WE.blockNormal ?_
              refine WE.next ?_
              refine WC.region ?_
              refine WL.val (.int .i64 (((k : Nat) : Int))) rfl rfl rfl (fun za zC zh zk => wp_move rfl (zh.ev rfl) zk) ?_
              refine WL.val (.int .i64 ((((k + 1) : Nat) : Int))) rfl rfl rfl (fun za zC zh zk => addb_3 rfl (zh.ev rfl) (zh.ev rfl) (wrap_eq (by omega) (by omega) (by omega)) zk) ?_
              refine WL.val (.int .i64 ((((k + 1) : Nat) : Int))) rfl rfl rfl (fun za zC zh zk => wp_assign rfl (zh.ev rfl) zk) ?_
              refine WL.nil (WE.sub (K' := [(0, .agg #[.slice a sg.length c]), (1, .agg #[.bool o.lpo, .slice p1 o.prec.length k1, .slice p2 o.weights.length k2, .int .i64 o.var]), (2, .agg #[.int .i64 t.f, .slice et t.args.length dt]), (3, .pointer (some ⟨g2, 0, none⟩)), (4, .pointer (some ⟨g9, 0, none⟩)), (5, .pointer (some ⟨g17, 0, none⟩)), (7, .slice qa t.places.length qc), (8, .int .i64 ((((k + 1) : Nat) : Int))), (19, .bool (((greatB [t]) || (!(fitsB sg o [t]))))), (26, .bool ((decide ((((k : Nat) : Int) : Int) < (((t.places.length : Nat) : Int) : Int))))), (37, .bool ((!(o.lcmp t ((pget t.places k).2) == 3))))]) ⟨rfl, rfl, rfl, rfl, rfl, rfl, rfl, rfl, rfl, rfl, rfl, trivial⟩ ?_)
              refine WE.round (k + 1) ⟨rfl, rfl, rfl, rfl, rfl, rfl, rfl, rfl, rfl, trivial⟩ ?_ ?_
              · have hb61 : Below w.heap.size w w58 := (bstep hb44 hb59)
                have hb62 : Below w37.heap.size w37 w58 := (bstep hb45 hb59)
                have hB63 := hB46.below hb59
                have hB64 := hB47.below hb59
                have hB65 := hB48.below hb59
                exact ⟨by omega, hb61, hb62, hB63, hB64, hB65⟩
              · omega
        · have h49 : ¬ ((((k : Nat) : Int) : Int) < (((t.places.length : Nat) : Int) : Int)) := by simpa using h49
          refine WC.exit ?_
          refine WE.thenExit ?_
          refine WE.thenExit ?_
          refine WE.blockIs rfl ?_
          refine WE.next ?_
          refine WC.seq ?_
          refine WC.region ?_
          refine WL.call rfl rfl rfl (fun za zh zC => wp_call (by kernel_rfl) rfl (hv0)) (wakes_any _) ?_
          rintro _ w66 ⟨rfl, hbw⟩
          refine WL.val (.bool true) rfl rfl rfl (fun za zC zh zk => wp_assign rfl (zh.ev rfl) zk) ?_
          refine WL.nil (WE.sub (K' := [(0, .agg #[.slice a sg.length c]), (1, .agg #[.bool o.lpo, .slice p1 o.prec.length k1, .slice p2 o.weights.length k2, .int .i64 o.var]), (2, .agg #[.int .i64 t.f, .slice et t.args.length dt]), (3, .pointer (some ⟨g2, 0, none⟩)), (4, .pointer (some ⟨g9, 0, none⟩)), (5, .pointer (some ⟨g17, 0, none⟩)), (6, .bool true), (7, .slice qa t.places.length qc), (8, .int .i64 (((k : Nat) : Int))), (19, .bool (((greatB [t]) || (!(fitsB sg o [t]))))), (26, .bool ((decide ((((k : Nat) : Int) : Int) < (((t.places.length : Nat) : Int) : Int)))))]) ⟨rfl, rfl, rfl, rfl, rfl, rfl, rfl, rfl, rfl, rfl, rfl, trivial⟩ ?_)
          refine WE.next ?_
          refine WC.ret ?_
          refine WE.ret1 rfl rfl ?_
          have hb67 : Below w.heap.size w w66 := (bstep hb44 hbw)
          exact ⟨_, rfl, rfl, hb67⟩

end Go.Proofs.Ytlkiabgpnboicaa

namespace Go.Proofs.Ytlkiabgpnboicaa
open Go.RowKit Go.ChangeShapes Go.WideShapes Go.ChangeAt

set_option maxRecDepth 100000 in
theorem lpoSubterms_contract (H : Type) (enc : TypeId × Value → H) (W : World) (base : Nat) (args : Array Value) (ds gs : List (DataW H)) (before : List MemPlace)
    (hval : ∀ (j : Nat) t v, Try.f5.params[j]? = some t → args[j]? = some v → Value.okWide Try.prog W .any base t v)
    (hW : DataW.Whole enc Try.prog Try.f5.params.toList Rows.lpoSubtermsSpec.vars false W args.toList ds gs before) (hk : Rows.uptoSmall H (ds ++ gs) = true) :
    Calls Try.prog 5 args W fun e W' => ∃ v, e = .returned v ∧ Rows.lpoSubtermsSpec.post enc Try.prog Try.f5 false true false false W args v W' := by
  have hW' := hW
  obtain ⟨p, q, hA0, hV, rfl, hfz, hnd⟩ := hW
  have hA : DataW.TrodAll enc Try.prog W 0 (fun _ => true) true Try.f5.params.toList args.toList ds p := hA0
  rw [Try.params5] at hA hval
  obtain ⟨v0, vs0, d0, ds0, p0, q0, hargs, rfl, rfl, h0, r0⟩ := trodAll_cons hA
  obtain ⟨v1, vs1, d1, ds1, p1, q1, rfl, rfl, rfl, h1, r1⟩ := trodAll_cons r0
  obtain ⟨v2, vs2, d2, ds2, p2, q2, rfl, rfl, rfl, h2, r2⟩ := trodAll_cons r1
  obtain ⟨rfl, rfl, rfl⟩ := trodAll_nil r2
  obtain rfl : args = #[v0, v1, v2] := by cases args; simp_all
  obtain ⟨x0, y0⟩ := arg_Sig (hval 0 35 v0 rfl rfl) h0
  have b0 := bulk_mem hk (d := d0) (by simp)
  obtain ⟨x1, y1⟩ := arg_Od (hval 1 24 v1 rfl rfl) h1
  have b1 := bulk_mem hk (d := d1) (by simp)
  obtain ⟨x2, y2, z2⟩ := arg_T (hval 2 27 v2 rfl rfl) h2
  have b2 := bulk_mem hk (d := d2) (by simp)
  refine (subterms_any x0 x1 x2 W v0 v1 v2 (by omega) y0 y1 y2).mono fun e W' ⟨v, he, hv, hg⟩ => ?_
  subst he hv
  exact ⟨_, rfl, law_post (by kernel_rfl) (readable_all (by kernel_rfl)) Try.underlying4 rfl rfl rfl hW' hg⟩

set_option maxRecDepth 100000 in
theorem lpoSubterms_lifted (os : Os) (started : os.Started) (H : Type) (enc : TypeId × Value → H) (F : Stop.Interp) :
    ReturnsInHanded {} Try.checked os 5 .any ((Rows.OpenSpec.upto Rows.lpoSubtermsSpec).pre6 enc Try.prog Try.f5 Rows.lpoSubtermsUptoRow.domain false) (((Rows.OpenSpec.upto Rows.lpoSubtermsSpec).at F).post enc Try.prog Try.f5 false true false false) := by
  refine returnsInHanded_of_cond (C := Try.checked) (s := Rows.OpenSpec.upto Rows.lpoSubtermsSpec) (k := Rows.uptoSmall) rfl own started (by kernel_rfl) Try.func5
    (OpenSpec.witness (enc := enc) (C := Try.checked) (s := Rows.OpenSpec.upto Rows.lpoSubtermsSpec) (k := Rows.uptoSmall) rfl false ⟨#[], #[.agg #[.slice none 0 0], .agg #[.bool false, .slice none 0 0, .slice none 0 0, .int .i64 0], .agg #[.int .i64 0, .slice none 0 0]], []⟩ 8 (by kernel_rfl) (by kernel_rfl) (by kernel_rfl)
      (x := ([.agg [.nil], .agg [.lit (.bool false), .nil, .nil, .lit (.int .i64 0)], .agg [.lit (.int .i64 0), .nil]], [], [])) (by kernel_rfl) rfl (by kernel_rfl)) ?_
  intro W base args ds gs before hval hW _ hk _
  exact lpoSubterms_contract H enc W base args ds gs before hval hW hk

theorem lpoSubterms_proved : Rows.LpoSubtermsUptoSaid :=
  OpenClaim.holds_of_cond 5 Try.f5 rfl rfl rfl rfl rfl rfl rfl ⟨rfl, rfl, rfl, rfl, rfl⟩ rfl rfl rfl rfl rfl (by kernel_rfl) Try.func5 (by kernel_rfl)
    (of_decide_eq_true (by kernel_rfl)) (by unfold Func.isWrapper; first | (rw [if_pos (by decide +kernel)]; kernel_rfl) | (rw [if_neg (by decide +kernel)]; exact ⟨rfl, rfl⟩))
    (fun os started H enc _ F => lpoSubterms_lifted os started H enc F)

end Go.Proofs.Ytlkiabgpnboicaa
