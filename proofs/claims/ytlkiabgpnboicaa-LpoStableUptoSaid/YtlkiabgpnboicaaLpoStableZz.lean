/- LpoStable: what is above stays above, whatever is put in for variables, for every input whose reading is of bulk at most 1048576, the law answers true, panics nowhere, and leaves what it was given as it was. -/
import Derived.Test.YtlkiabgpnboicaaMga
import Derived.Test.YtlkiabgpnboicaaMgh
import Derived.Deep.AppendLies
import Derived.Test.YtlkiabgpnboicaaMgi
import Derived.Test.YtlkiabgpnboicaaMgj
import Derived.Test.YtlkiabgpnboicaaMgk

/- The least order of so many symbols: two rows that are made by append. -/


namespace Go.Proofs.Ytlkiabgpnboicaa
open Go.RowKit Go.Sort Go


theorem Blk.grown {w w' : World} {g : Nat} {t : TypeId} {cs : Array Value} {row : Option Nat} (h : Blk w g t cs) (hg : w.grownBy w' row) (hne : some g ≠ row) : Blk w' g t cs := (hg.block g h.lt hne).trans h

theorem gsetc (w : World) (a : Addr) (u : Value) : w.grownBy (w.setCell a u) (some a.block) :=
  ⟨rfl, rfl, rfl, by simp [World.setCell], fun k _ hk => Below.heap_setCell w a u k (fun e => hk (by rw [e]))⟩

theorem cell_one_at {w : World} {x : Value} {t : TypeId} {b : Nat} (h : w.heap.size = b) : ∀ j u, [x][j]? = some u → (w.alloc (.cells #[x] t)).cell? ((⟨b, 0, none⟩ : Addr).add j) = some u := by
  subst h; exact cell_one_new _ _ _


theorem ownsRow_slice {w : World} {base : Nat} {e : TypeId} {size : Nat} {v : Value} {n : Nat} {xs : List Value} (h : w.ownsRow base e size v n xs) : ∃ a m c, v = .slice a m c := by
  rcases h.2 with ⟨rfl, _⟩ | ⟨g, c, _, rfl, _⟩ <;> exact ⟨_, _, _, rfl⟩

end Go.Proofs.Ytlkiabgpnboicaa

/- Terms that lie within some blocks, and rows of terms that are made by append, one term after the other. -/
namespace Go.Proofs.Ytlkiabgpnboicaa.Old
set_option maxRecDepth 100000
open Go.RowKit Go

mutual
/-- The value 'v' is the term 't', and all its rows lie in blocks of 'S'. -/
def InT (S : Nat → Prop) (w : World) : T → Value → Prop
  | .mk f l, v => I64 f ∧ ∃ (a : Option Addr) (c : Nat), v = .agg #[.int .i64 f, .slice a l.length c] ∧ l.length ≤ c ∧ c ≤ maxLen ∧ InTs S w l a 0
def InTs (S : Nat → Prop) (w : World) : List T → Option Addr → Nat → Prop
  | [], _, _ => True
  | t :: r, a, i => (∃ (b o : Nat) (u v : Value), a = some ⟨b, o, none⟩ ∧ S b ∧ w.cell? ⟨b, o + i * 2, none⟩ = some u ∧ w.cell? ⟨b, o + i * 2 + 1, none⟩ = some v ∧ InT S w t (.agg #[u, v])) ∧ InTs S w r a (i + 1)
end

mutual
theorem InT.keep {S : Nat → Prop} {w w' : World} (hb : ∀ (p : Addr) (x : Value), S p.block → w.cell? p = some x → w'.cell? p = some x) : ∀ {t : T} {v : Value}, InT S w t v → InT S w' t v
  | .mk _ _, _, ⟨h0, a, c, h1, h2, h3, h4⟩ => ⟨h0, a, c, h1, h2, h3, InTs.keep hb h4⟩
theorem InTs.keep {S : Nat → Prop} {w w' : World} (hb : ∀ (p : Addr) (x : Value), S p.block → w.cell? p = some x → w'.cell? p = some x) : ∀ {l : List T} {a : Option Addr} {i : Nat}, InTs S w l a i → InTs S w' l a i
  | [], _, _, _ => trivial
  | _ :: _, _, _, ⟨⟨b, o, u, v, ha, hs, h1, h2, h3⟩, h4⟩ => ⟨⟨b, o, u, v, ha, hs, hb ⟨b, _, none⟩ _ hs h1, hb ⟨b, _, none⟩ _ hs h2, InT.keep hb h3⟩, InTs.keep hb h4⟩
end
mutual
theorem InT.mono {S S' : Nat → Prop} {w : World} (hb : ∀ b, S b → b < w.heap.size → S' b) : ∀ {t : T} {v : Value}, InT S w t v → InT S' w t v
  | .mk _ _, _, ⟨h0, a, c, h1, h2, h3, h4⟩ => ⟨h0, a, c, h1, h2, h3, InTs.mono hb h4⟩
theorem InTs.mono {S S' : Nat → Prop} {w : World} (hb : ∀ b, S b → b < w.heap.size → S' b) : ∀ {l : List T} {a : Option Addr} {i : Nat}, InTs S w l a i → InTs S' w l a i
  | [], _, _, _ => trivial
  | _ :: _, _, _, ⟨⟨b, o, u, v, ha, hs, h1, h2, h3⟩, h4⟩ => ⟨⟨b, o, u, v, ha, hb _ hs (World.block_lt_of_cell? _ _ h1), h1, h2, InT.mono hb h3⟩, InTs.mono hb h4⟩
end
mutual
theorem InT.isT {S : Nat → Prop} {w : World} : ∀ {t : T} {v : Value}, InT S w t v → IsT w t v
  | .mk _ _, _, ⟨h0, a, c, h1, h2, h3, h4⟩ => ⟨h0, a, c, h1, h2, h3, InTs.isTs h4⟩
theorem InTs.isTs {S : Nat → Prop} {w : World} : ∀ {l : List T} {a : Option Addr} {i : Nat}, InTs S w l a i → IsTs w l a i
  | [], _, _, _ => trivial
  | _ :: _, _, _, ⟨⟨b, o, u, v, ha, hs, h1, h2, h3⟩, h4⟩ => ⟨⟨b, o, u, v, ha, h1, h2, InT.isT h3⟩, InTs.isTs h4⟩
end
mutual
theorem IsT.inT {w : World} : ∀ {t : T} {v : Value}, IsT w t v → InT (fun b => b < w.heap.size) w t v
  | .mk _ _, _, ⟨h0, a, c, h1, h2, h3, h4⟩ => ⟨h0, a, c, h1, h2, h3, IsTs.inTs h4⟩
theorem IsTs.inTs {w : World} : ∀ {l : List T} {a : Option Addr} {i : Nat}, IsTs w l a i → InTs (fun b => b < w.heap.size) w l a i
  | [], _, _, _ => trivial
  | _ :: _, _, _, ⟨⟨b, o, u, v, ha, h1, h2, h3⟩, h4⟩ => ⟨⟨b, o, u, v, ha, World.block_lt_of_cell? _ _ h1, h1, h2, IsT.inT h3⟩, IsTs.inTs h4⟩
end

theorem InT.below {S : Nat → Prop} {w w' : World} (hb : Below w.heap.size w w') {t : T} {v : Value} (h : InT S w t v) : InT S w' t v := h.keep fun p x _ hx => bkeeps hb p x hx
theorem InTs.below {S : Nat → Prop} {w w' : World} (hb : Below w.heap.size w w') {l : List T} {a : Option Addr} {i : Nat} (h : InTs S w l a i) : InTs S w' l a i := h.keep fun p x _ hx => bkeeps hb p x hx
/-- What keeps blocks below 'B' keeps what lies there. -/
theorem InT.old {B N : Nat} {w w' : World} (hb : Below N w w') (hBN : B ≤ N) {t : T} {v : Value} (h : InT (fun b => b < B) w t v) : InT (fun b => b < B) w' t v := InT.keep (S := fun b => b < B) (fun p x (hp : p.block < B) hx => (hb.cell (Nat.lt_of_lt_of_le hp hBN)).trans hx) h
theorem InTs.old {B N : Nat} {w w' : World} (hb : Below N w w') (hBN : B ≤ N) {l : List T} {a : Option Addr} {i : Nat} (h : InTs (fun b => b < B) w l a i) : InTs (fun b => b < B) w' l a i := InTs.keep (S := fun b => b < B) (fun p x (hp : p.block < B) hx => (hb.cell (Nat.lt_of_lt_of_le hp hBN)).trans hx) h

theorem InT.form {S : Nat → Prop} {w : World} {t : T} {v : Value} (h : InT S w t v) : I64 t.f ∧ ∃ (a : Option Addr) (c : Nat), v = .agg #[.int .i64 t.f, .slice a t.args.length c] ∧ t.args.length ≤ c ∧ c ≤ maxLen ∧ InTs S w t.args a 0 := by
  cases t; exact h

theorem InTs.at0 {S : Nat → Prop} {w : World} {l : List T} : ∀ {a : Option Addr} {i : Nat}, InTs S w l a i → ∀ k (hk : k < l.length),
    ∃ (b o : Nat) (u v : Value), a = some ⟨b, o, none⟩ ∧ S b ∧ w.cell? ⟨b, o + (i + k) * 2, none⟩ = some u ∧ w.cell? ⟨b, o + (i + k) * 2 + 1, none⟩ = some v ∧ InT S w l[k] (.agg #[u, v]) := by
  induction l with
  | nil => intro a i _ k hk; simp at hk
  | cons t r ih =>
    intro a i h k hk
    obtain ⟨h0, h1⟩ := h
    cases k with
    | zero => exact h0
    | succ k =>
      obtain ⟨b, o, u, v, h2, h3, h4, h5, h6⟩ := ih h1 k (by simpa using hk)
      refine ⟨b, o, u, v, h2, h3, ?_, ?_, by simpa using h6⟩
      · rw [show i + (k + 1) = i + 1 + k by omega]; exact h4
      · rw [show i + (k + 1) = i + 1 + k by omega]; exact h5
theorem InTs.at_ {S : Nat → Prop} {w : World} {l : List T} {a : Option Addr} (h : InTs S w l a 0) (k : Nat) (hk : k < l.length) :
    ∃ (b o : Nat) (u v : Value), a = some ⟨b, o, none⟩ ∧ S b ∧ w.cell? ⟨b, o + k * 2, none⟩ = some u ∧ w.cell? ⟨b, o + k * 2 + 1, none⟩ = some v ∧ InT S w l[k] (.agg #[u, v]) := by
  have := h.at0 k hk
  simpa using this

/-! ### Rows -/

def Elems (S : Nat → Prop) (w : World) : List T → List Value → Prop
  | [], [] => True
  | t :: r, u :: v :: xs => InT S w t (.agg #[u, v]) ∧ Elems S w r xs
  | _, _ => False

theorem Elems.keep {S : Nat → Prop} {w w' : World} (hb : ∀ (p : Addr) (x : Value), S p.block → w.cell? p = some x → w'.cell? p = some x) : ∀ {l : List T} {xs : List Value}, Elems S w l xs → Elems S w' l xs
  | [], [], _ => trivial
  | _ :: _, _ :: _ :: _, h => ⟨h.1.keep hb, Elems.keep hb h.2⟩
  | [], _ :: _, h => h.elim
  | _ :: _, [], h => h.elim
  | _ :: _, [_], h => h.elim
theorem Elems.mono {S S' : Nat → Prop} {w : World} (hb : ∀ b, S b → b < w.heap.size → S' b) : ∀ {l : List T} {xs : List Value}, Elems S w l xs → Elems S' w l xs
  | [], [], _ => trivial
  | _ :: _, _ :: _ :: _, h => ⟨h.1.mono hb, Elems.mono hb h.2⟩
  | [], _ :: _, h => h.elim
  | _ :: _, [], h => h.elim
  | _ :: _, [_], h => h.elim
theorem Elems.snoc {S : Nat → Prop} {w : World} {t : T} {u v : Value} (ht : InT S w t (.agg #[u, v])) : ∀ {l : List T} {xs : List Value}, Elems S w l xs → Elems S w (l ++ [t]) (xs ++ [u, v])
  | [], [], _ => ⟨ht, trivial⟩
  | _ :: _, _ :: _ :: _, h => ⟨h.1, Elems.snoc ht h.2⟩
  | [], _ :: _, h => h.elim
  | _ :: _, [], h => h.elim
  | _ :: _, [_], h => h.elim
theorem Elems.row {S : Nat → Prop} {w : World} {g o : Nat} (hg : S g) : ∀ {l : List T} {xs : List Value} {i : Nat}, Elems S w l xs → (∀ j u, xs[j]? = some u → w.cell? ⟨g, o + i * 2 + j, none⟩ = some u) → InTs S w l (some ⟨g, o, none⟩) i
  | [], [], _, _, _ => trivial
  | t :: r, u :: v :: xs, i, h, hc => ⟨⟨g, o, u, v, rfl, hg, by simpa using hc 0 u rfl, by simpa using hc 1 v rfl, h.1⟩, Elems.row hg h.2 (fun j x hx => by
      have := hc (j + 2) x (by simpa using hx)
      rwa [show o + (i + 1) * 2 + j = o + i * 2 + (j + 2) by omega])⟩
  | [], _ :: _, _, h, _ => h.elim
  | _ :: _, [], _, h, _ => h.elim
  | _ :: _, [_], _, h, _ => h.elim

/-- What a call may leave: the blocks below 'B', or new ones; not the row's own one. -/
def Own (B N : Nat) (r : Value) (b : Nat) : Prop := (b < B ∨ N ≤ b) ∧ r.ownBlock ≠ some b

/-- Within a call that makes a term of the head 'f' by append: the argument's box, the result's, that of the term that is made; 'rv' in there, and the row 'r'. -/
structure Grow (B : Nat) (w0 : World) (y0 y1 : Value) (f : Int) (ts : List T) (w : World) (rv r : Value) : Prop where
  le : B ≤ w0.heap.size
  below : Below w0.heap.size w0 w
  arg : Blk w w0.heap.size 27 #[y0, y1]
  res : ∃ x0 x1, Blk w (w0.heap.size + 1) 27 #[x0, x1]
  out : Blk w (w0.heap.size + 2) 27 #[.int .i64 f, rv]
  rows : ∃ xs, w.ownsRow (w0.heap.size + 3) 27 2 r ts.length xs ∧ Elems (Own B (w0.heap.size + 3) r) w ts xs

/-- The same, with the row's own block changed or more memory made. -/
theorem Grow.below_ {B : Nat} {w0 w w' : World} {y0 y1 : Value} {f : Int} {ts : List T} {rv r : Value} (h : Grow B w0 y0 y1 f ts w rv r) (hb : Below w.heap.size w w') : Grow B w0 y0 y1 f ts w' rv r := by
  obtain ⟨x0, x1, hr⟩ := h.res
  obtain ⟨xs, h1, h2⟩ := h.rows
  refine ⟨h.le, bstep h.below hb, h.arg.below hb, ⟨x0, x1, hr.below hb⟩, h.out.below hb, xs, ?_, h2.keep fun p x _ hx => bkeeps hb p x hx⟩
  refine ⟨h1.1, h1.2.imp id ?_⟩
  rintro ⟨g, cap, cur, e1, e2, e3, e4, e5, e6, e7⟩
  exact ⟨g, cap, cur, e1, e2, (hb.block g (lt_of_block e3)).trans e3, e4, e5, e6, e7⟩

theorem Grow.start {B : Nat} {w0 : World} {y0 y1 x0 x1 : Value} {f : Int} {w : World} (hle : B ≤ w0.heap.size) (hb : Below w0.heap.size w0 w) (h0 : Blk w w0.heap.size 27 #[y0, y1]) (h1 : Blk w (w0.heap.size + 1) 27 #[x0, x1]) (h2 : Blk w (w0.heap.size + 2) 27 #[.int .i64 f, .slice none 0 0]) :
    Grow B w0 y0 y1 f [] w (.slice none 0 0) (.slice none 0 0) := ⟨hle, hb, h0, ⟨x0, x1, h1⟩, h2, [], ⟨rfl, .inl ⟨rfl, rfl⟩⟩, trivial⟩

theorem Grow.drew {B : Nat} {w0 w : World} {y0 y1 : Value} {f : Int} {ts : List T} {rv r : Value} (h : Grow B w0 y0 y1 f ts w rv r) : Grow B w0 y0 y1 f ts w.drew rv r := by
  obtain ⟨x0, x1, hr⟩ := h.res
  obtain ⟨xs, h1, h2⟩ := h.rows
  exact ⟨h.le, h.below.drew, h.arg, ⟨x0, x1, hr⟩, h.out, xs, h1.drew, Elems.keep (w := w) (w' := w.drew) (fun p x _ hx => hx) h2⟩

/-- Behind the store of the row. -/
theorem Grow.store {B : Nat} {w0 w : World} {y0 y1 : Value} {f : Int} {ts : List T} {rv r : Value} (h : Grow B w0 y0 y1 f ts w rv r) : Grow B w0 y0 y1 f ts (w.setCell ⟨w0.heap.size + 2, 1, none⟩ r) r r := by
  obtain ⟨x0, x1, hr⟩ := h.res
  obtain ⟨xs, h1, h2⟩ := h.rows
  have hg := gsetc w ⟨w0.heap.size + 2, 1, none⟩ r
  have hlt := h.arg.lt
  have hle := h.le
  refine ⟨hle, h.below.grown hg (by omega) (fun b hb => ?_), h.arg.far (by simp) _, ⟨x0, x1, hr.far (by simp) _⟩, by simpa using h.out.set_ 1 r, xs, h1.kept hg (.inr fun e => ?_), h2.keep fun p x hp hx => hg.cell hx (fun e => ?_)⟩
  · simp only [Option.some.injEq] at hb; subst hb; simp
  · have := h1.lt _ e; simp at this
  · have hp := hp.1
    simp only [Option.some.injEq] at e
    rw [e] at hp
    simp at hp
    omega

/-! ### One term more -/

/-- What lies below 'B', or was made since there were 'N' blocks. -/
def New (B N : Nat) (b : Nat) : Prop := b < B ∨ N ≤ b

section
variable {B : Nat} {w0 wr : World} {y0 y1 : Value} {f : Int} {ts : List T} {rv : Value} {t : T}

/-- The chain: the call, the row of one, the append, the store. -/
def GrowG (B : Nat) (w0 wr : World) (y0 y1 : Value) (f : Int) (ts : List T) (rv : Value) (t : T) : List Value → World → Prop
  | [], w => w = wr.drew ∧ Grow B w0 y0 y1 f ts w rv rv
  | [v], w => Grow B w0 y0 y1 f ts w rv rv ∧ wr.heap.size ≤ w.heap.size ∧ InT (New B wr.heap.size) w t v
  | [v, s], w => Grow B w0 y0 y1 f ts w rv rv ∧ InT (New B wr.heap.size) w t v ∧ ∃ g u x, s = .slice (some ⟨g, 0, none⟩) 1 1 ∧ v = .agg #[u, x] ∧ Blk w g 27 #[u, x] ∧ wr.heap.size ≤ g ∧ u.oneCell' = true ∧ x.oneCell' = true
  | [_, _, r], w => Grow B w0 y0 y1 f (ts ++ [t]) w rv r ∧ ∃ a n c, r = .slice a n c
  | _ :: _ :: r :: _, w => Grow B w0 y0 y1 f (ts ++ [t]) w r r ∧ ∃ a n c, r = .slice a n c

theorem GrowG.grow : ∀ {vs : List Value} {w : World}, GrowG B w0 wr y0 y1 f ts rv t vs w → ∃ ts' rv' r', Grow B w0 y0 y1 f ts' w rv' r' ∧ (vs.length ≤ 3 → rv' = rv)
  | [], _, h => ⟨_, _, _, h.2, fun _ => rfl⟩
  | [_], _, h => ⟨_, _, _, h.1, fun _ => rfl⟩
  | [_, _], _, h => ⟨_, _, _, h.1, fun _ => rfl⟩
  | [_, _, _], _, h => ⟨_, _, _, h.1, fun _ => rfl⟩
  | _ :: _ :: r :: _ :: _, _, h => ⟨_, _, _, h.1, fun e => by simp at e⟩

theorem GrowG.arg {vs : List Value} {w : World} (h : GrowG B w0 wr y0 y1 f ts rv t vs w) : w.cell? ⟨w0.heap.size, 0, none⟩ = some y0 ∧ w.cell? ⟨w0.heap.size, 1, none⟩ = some y1 := by
  obtain ⟨_, _, _, h, _⟩ := h.grow
  exact ⟨h.arg.cell 0, h.arg.cell 1⟩
theorem GrowG.out {vs : List Value} {w : World} (h : GrowG B w0 wr y0 y1 f ts rv t vs w) (hl : vs.length ≤ 3) : w.cell? ⟨w0.heap.size + 2, 1, none⟩ = some rv := by
  obtain ⟨_, _, _, h, e⟩ := h.grow
  rw [← e hl]
  exact h.out.cell 1
theorem GrowG.old {vs : List Value} {w : World} (h : GrowG B w0 wr y0 y1 f ts rv t vs w) {p : Addr} {x : Value} (hp : p.block < B) (hx : w0.cell? p = some x) : w.cell? p = some x := by
  obtain ⟨_, _, _, h, _⟩ := h.grow
  exact (h.below.cell (Nat.lt_of_lt_of_le hp h.le)).trans hx

theorem GrowG.call {w w' : World} {v : Value} (h : GrowG B w0 wr y0 y1 f ts rv t [] w) (hi : InT (New B w.heap.size) w' t v) (hb : Below w.heap.size w w') : GrowG B w0 wr y0 y1 f ts rv t ([] ++ [v]) w' := by
  obtain ⟨rfl, h⟩ := h
  exact ⟨h.below_ hb, hb.size, hi⟩

theorem wp_rowT {w : World} {a : Act} {K : Act → World → Prop} {Q : Exit → Act → World → Prop} {o : Oper} {x : Operand} {v : Value} {S : Nat → Prop} (ho : o.op = .buildSlice 25 1 #[(0, x)]) (hx : a.eval x = v) (hv : InT S w t v)
    (hK : ∀ u y, v = .agg #[u, y] → u.oneCell' = true → y.oneCell' = true → K (a.put o.dst (.slice (some ⟨w.heap.size, 0, none⟩) 1 1)) (w.alloc (.cells #[u, y] 27))) : o.wp Try.prog a w K Q := by
  obtain ⟨_, a1, c1, rfl, _, _, _⟩ := hv.form
  unfold Oper.wp execOp
  simp only [ho, hx, List.map_toArray, List.map_cons, List.map_nil]
  go_simp
  exact hK _ _ rfl rfl rfl

theorem GrowG.row {w : World} {v u y : Value} (h : GrowG B w0 wr y0 y1 f ts rv t [v] w) (hv : v = .agg #[u, y]) (hu : u.oneCell' = true) (hy : y.oneCell' = true) :
    GrowG B w0 wr y0 y1 f ts rv t ([v] ++ [.slice (some ⟨w.heap.size, 0, none⟩) 1 1]) (w.alloc (.cells #[u, y] 27)) := by
  obtain ⟨h1, h2, h3⟩ := h
  have hb := balloc w (.cells #[u, y] 27)
  exact ⟨h1.below_ hb, h3.below hb, _, u, y, rfl, hv, Blk.new' rfl, h2, hu, hy⟩

theorem GrowG.append {w w' : World} {v s u x : Value} {g1 c1 : Nat} {xs : List Value} (h : GrowG B w0 wr y0 y1 f ts rv t [v, s] w) (hwr : ∀ b, rv.ownBlock = some b → b < wr.heap.size) (hN : w0.heap.size + 3 ≤ wr.heap.size)
    (hv : v = .agg #[u, x]) (hxs : Elems (Own B (w0.heap.size + 3) rv) w ts xs)
    (hown : w'.ownsRow (w0.heap.size + 3) 27 2 (.slice (some ⟨g1, 0, none⟩) (ts.length + 1) c1) (ts.length + 1) (xs ++ [u, x])) (hgrow : w.grownBy w' rv.ownBlock) (hat : rv.ownBlock = some g1 ∨ g1 = w.heap.size) :
    GrowG B w0 wr y0 y1 f ts rv t ([v, s] ++ [.slice (some ⟨g1, 0, none⟩) (ts.length + 1) c1]) w' := by
  obtain ⟨h1, h3, _⟩ := h
  subst hv
  obtain ⟨x0, x1, hr⟩ := h1.res
  obtain ⟨xs', ho, _⟩ := h1.rows
  have hlt := h1.out.lt
  have hlow := ho.lt
  have hle := h1.le
  have far : ∀ b, b < w0.heap.size + 3 → some b ≠ rv.ownBlock := fun b hb e => by have := (hlow b e.symm).1; omega
  have hfresh : ∀ b, b < w.heap.size → rv.ownBlock ≠ some b → some g1 ≠ some b := by
    intro b hb hne e
    simp only [Option.some.injEq] at e
    subst e
    rcases hat with e | e
    · exact hne e
    · omega
  refine ⟨⟨hle, h1.below.grown hgrow (by omega) (fun b hb => by have := (hlow b hb).1; omega), h1.arg.grown hgrow (far _ (by omega)), ⟨x0, x1, hr.grown hgrow (far _ (by omega))⟩, h1.out.grown hgrow (far _ (by omega)), xs ++ [u, x], by simpa using hown, ?_⟩, _, _, _, rfl⟩
  have hK : ∀ (p : Addr) (y : Value), rv.ownBlock ≠ some p.block → w.cell? p = some y → w'.cell? p = some y := fun p y hp hy => hgrow.cell hy (Ne.symm hp)
  refine Elems.snoc ?_ ?_
  · refine InT.mono (S := fun b => New B wr.heap.size b ∧ some g1 ≠ some b) ?_ (InT.keep (w := w) ?_ (InT.mono ?_ h3))
    · intro b hb _
      refine ⟨hb.1.imp id (fun h => by omega), hb.2⟩
    · intro p y hp hy
      refine hK p y (fun e => ?_) hy
      have := hwr _ e
      have := (hlow _ e).1
      rcases hp.1 with h | h <;> omega
    · intro b hb hlt
      refine ⟨hb, hfresh b hlt (fun e => ?_)⟩
      have := hwr _ e
      have := (hlow _ e).1
      rcases hb with h | h <;> omega
  · refine Elems.mono (S := fun b => Own B (w0.heap.size + 3) rv b ∧ some g1 ≠ some b) (fun b hb _ => ⟨hb.1.1, hb.2⟩) (Elems.keep (w := w) (fun p y hp hy => hK p y hp.1.2 hy) (Elems.mono (fun b hb hlt => ⟨hb, hfresh b hlt hb.2⟩) hxs))

theorem GrowG.store {w : World} {v s r x : Value} (h : GrowG B w0 wr y0 y1 f ts rv t [v, s, r] w) : GrowG B w0 wr y0 y1 f ts rv t ([v, s, r] ++ [x]) (w.setCell ⟨w0.heap.size + 2, 1, none⟩ r) := ⟨h.1.store, h.2⟩

theorem GrowG.inT {w : World} {v : Value} (h : GrowG B w0 wr y0 y1 f ts rv t [v] w) : InT (New B wr.heap.size) w t v := h.2.2
theorem GrowG.two {w : World} {v s : Value} (h : GrowG B w0 wr y0 y1 f ts rv t [v, s] w) : Grow B w0 y0 y1 f ts w rv rv ∧ InT (New B wr.heap.size) w t v ∧ ∃ g u x, s = .slice (some ⟨g, 0, none⟩) 1 1 ∧ v = .agg #[u, x] ∧ Blk w g 27 #[u, x] ∧ wr.heap.size ≤ g ∧ u.oneCell' = true ∧ x.oneCell' = true := h
theorem GrowG.three {w : World} {v s r : Value} (h : GrowG B w0 wr y0 y1 f ts rv t [v, s, r] w) : Grow B w0 y0 y1 f (ts ++ [t]) w rv r ∧ ∃ a n c, r = .slice a n c := h
theorem GrowG.four {w : World} {v s r q : Value} (h : GrowG B w0 wr y0 y1 f ts rv t [v, s, r, q] w) : Grow B w0 y0 y1 f (ts ++ [t]) w r r ∧ ∃ a n c, r = .slice a n c := h
theorem GrowG.oldT {vs : List Value} {w : World} {s : T} {v : Value} (h : GrowG B w0 wr y0 y1 f ts rv t vs w) (hv : InT (fun b => b < B) w0 s v) : InT (fun b => b < B) w s v := by
  obtain ⟨_, _, _, h, _⟩ := h.grow
  exact hv.old h.below h.le
theorem GrowG.oldTs {vs : List Value} {w : World} {l : List T} {a : Option Addr} {i : Nat} (h : GrowG B w0 wr y0 y1 f ts rv t vs w) (hv : InTs (fun b => b < B) w0 l a i) : InTs (fun b => b < B) w l a i := by
  obtain ⟨_, _, _, h, _⟩ := h.grow
  exact hv.old h.below h.le
theorem GrowG.size {vs : List Value} {w : World} (h : GrowG B w0 wr y0 y1 f ts rv t vs w) : B ≤ w.heap.size := by
  obtain ⟨_, _, _, h, _⟩ := h.grow
  have := h.arg.lt
  have := h.le
  omega

theorem vs_eq0 {vs : List Value} (h : vs.length = 0) : vs = [] := List.length_eq_zero_iff.1 h
theorem vs_eq1 {vs : List Value} (h : vs.length = 1) : ∃ v, vs = [v] := by
  match vs, h with
  | [v], _ => exact ⟨v, rfl⟩
theorem vs_eq2 {vs : List Value} (h : vs.length = 2) : ∃ v s, vs = [v, s] := by
  match vs, h with
  | [v, s], _ => exact ⟨v, s, rfl⟩
theorem vs_eq3 {vs : List Value} (h : vs.length = 3) : ∃ v s r, vs = [v, s, r] := by
  match vs, h with
  | [v, s, r], _ => exact ⟨v, s, r, rfl⟩
theorem vs_eq4 {vs : List Value} (h : vs.length = 4) : ∃ v s r q, vs = [v, s, r, q] := by
  match vs, h with
  | [v, s, r, q], _ => exact ⟨v, s, r, q, rfl⟩

theorem wp_storeT {w : World} {a : Act} {K : Act → World → Prop} {Q : Exit → Act → World → Prop} {o : Oper} {x y : Operand} {b i : Nat} {ra : Option Addr} {rn rc : Nat} {old : Value} (ho : o.op = .store 25 x y) (hx : a.eval x = .pointer (some ⟨b, i, none⟩)) (hy : a.eval y = .slice ra rn rc) (hc : w.cell? ⟨b, i, none⟩ = some old) (hf : w.frozen? ⟨b, i, none⟩ = false)
    (hK : ∀ v, K (a.put o.dst v) (w.setCell ⟨b, i, none⟩ (.slice ra rn rc))) : o.wp Try.prog a w K Q := by
  unfold Oper.wp execOp
  simp only [ho, hx, hy]
  go_simp
  exact hK _

theorem wp_appendT {w : World} {a : Act} {K : Act → World → Prop} {Q : Exit → Act → World → Prop} {o : Oper} {x y : Operand} {v s : Value}
    (ho : o.op = .call { callee := .builtin .append, args := #[x, y], argTypes := #[25, 25] }) (hx : a.eval x = rv) (hy : a.eval y = s) (hlen : ts.length + 1 ≤ 4294967296)
    (h : GrowG B w0 wr y0 y1 f ts rv t [v, s] w) (hwr : ∀ b, rv.ownBlock = some b → b < wr.heap.size) (hN : w0.heap.size + 3 ≤ wr.heap.size)
    (hK : ∀ r w', GrowG B w0 wr y0 y1 f ts rv t ([v, s] ++ [r]) w' → K (a.put o.dst r) w') : o.wp Try.prog a w K Q := by
  have hint : (Try.prog.info? 27).map (fun i => (i.zero, i.size, i.bytes)) = some (some (.agg #[.int .i64 0, .slice none 0 0]), 2, 32) := by kernel_rfl
  obtain ⟨i0, hi, hz0, hz1, hz2⟩ := info_parts hint
  obtain ⟨h1, h3, g, u, z, rfl, rfl, hB, hg, o1, o2⟩ := h.two
  obtain ⟨xs, hx1, hx2⟩ := h1.rows
  have hsz := h1.out.lt
  refine wp_append_lies _ x y 25 ho (w0.heap.size + 3) 27 i0 (.agg #[.int .i64 0, .slice none 0 0]) 2 32 Try.underlying25 hi hz0 hz1 hz2 rfl (by decide) rv ts.length xs hx hx1 ⟨g, 0, none⟩ 1 1 [u, z] hy rfl (World.news_of_block hB) (by simp [o1, o2]) (by omega) (by unfold maxLen; omega) (by omega) (by omega) _ rfl ?_
  intro g1 c1 w' hown hgrow hat hlt
  exact hK _ _ (h.append hwr hN rfl hx2 hown hgrow hat)

/-- The row is whole. -/
theorem Grow.value {w : World} {r : Value} (hf : I64 f) (h : Grow B w0 y0 y1 f ts w r r) : InT (New B (w0.heap.size + 3)) w (.mk f ts) (.agg #[.int .i64 f, r]) := by
  obtain ⟨xs, h1, h2⟩ := h.rows
  rcases h1.2 with ⟨rfl, h0⟩ | ⟨g, cap, cur, rfl, hg, hb, hc, hm, hs, ht⟩
  · have : ts = [] := List.length_eq_zero_iff.1 h0
    subst this
    exact ⟨hf, none, 0, rfl, by simp, by unfold maxLen; omega, trivial⟩
  · refine ⟨hf, _, cap, rfl, hc, hm, ?_⟩
    refine InTs.mono (S := fun b => New B (w0.heap.size + 3) b) (fun b hb _ => hb) (Elems.row (.inr hg) (Elems.mono (fun b hb _ => hb.1) h2) (fun j u hj => ?_))
    have := h1.cells (g := g) rfl j u hj
    have e : (⟨g, 0, none⟩ : Addr).add j = ⟨g, j, none⟩ := by unfold Addr.add; split <;> simp_all
    rw [e] at this
    simpa using this

theorem Grow.start3 {x0 x1 : Value} (hle : B ≤ w0.heap.size) : Grow B w0 y0 y1 f [] (((w0.alloc (.cells #[y0, y1] 27)).alloc (.cells #[x0, x1] 27)).alloc (.cells #[.int .i64 f, .slice none 0 0] 27)) (.slice none 0 0) (.slice none 0 0) :=
  .start hle (bstep (balloc2 _ _ _) (balloc _ _)) (((Blk.new' rfl).alloc _).alloc _) ((Blk.new' (by simp)).alloc _) (Blk.new' (by simp))

/-- A store into the result's box. -/
theorem New.far {w w' : World} {N i : Nat} {u : Value} {S : Nat → Prop} (hN : ¬ S N) (hw : w' = w.setCell ⟨N, i, none⟩ u) {t : T} {v : Value} (h : InT S w t v) : InT S w' t v := by
  subst hw
  exact h.keep fun p x hp hx => (gsetc w ⟨N, i, none⟩ u).cell hx (fun e => hN (by simp only [Option.some.injEq] at e; rwa [e] at hp))

theorem Grow.finish {w : World} {r u0 u1 : Value} (hf : I64 f) (h : Grow B w0 y0 y1 f ts w r r) :
    InT (New B w0.heap.size) ((w.setCell ⟨w0.heap.size + 1, 0, none⟩ u0).setCell ⟨w0.heap.size + 1, 1, none⟩ u1) (.mk f ts) (.agg #[.int .i64 f, r]) ∧ Below w0.heap.size w0 ((w.setCell ⟨w0.heap.size + 1, 0, none⟩ u0).setCell ⟨w0.heap.size + 1, 1, none⟩ u1) := by
  have hle := h.le
  have hn : ¬ New B (w0.heap.size + 3) (w0.heap.size + 1) := by unfold New; omega
  refine ⟨(New.far hn rfl (New.far hn rfl (h.value hf))).mono (fun b hb _ => hb.imp id (fun h => by omega)), ?_⟩
  exact (h.below.setCell (p := ⟨w0.heap.size + 1, 0, none⟩) (by simp) _).setCell (p := ⟨w0.heap.size + 1, 1, none⟩) (by simp) _

end

end Go.Proofs.Ytlkiabgpnboicaa.Old

/- Terms put in for variables, and copies of terms: what they are, and where they lie. -/
namespace Go.Proofs.Ytlkiabgpnboicaa.Old
set_option maxRecDepth 100000
open Go.RowKit Go.Sort Go

def putSp (w : World) (bt ot ct k cl : Nat) (al : Option Addr) (ar ls : List T) (rv u x : Value) : List (Bool × Value) := [(true, .pointer (some ⟨(w.heap.size + 2), 1, none⟩)), (true, rv), (true, .pointer (some ⟨w.heap.size, 1, none⟩)), (true, .slice (some ⟨bt, ot, none⟩) ar.length ct), (true, .int .i64 k), (true, .pointer (some ⟨bt, ot + k * 2, none⟩)), (true, (.agg #[u, x])), (true, .slice al ls.length cl), (true, undef), (true, undef), (true, undef), (true, .pointer (some ⟨(w.heap.size + 2), 1, none⟩)), (true, undef)]
def copySp (w : World) (bt ot ct k : Nat) (ar : List T) (rv u x : Value) : List (Bool × Value) := [(true, .pointer (some ⟨(w.heap.size + 2), 1, none⟩)), (true, rv), (true, .pointer (some ⟨w.heap.size, 1, none⟩)), (true, .slice (some ⟨bt, ot, none⟩) ar.length ct), (true, .int .i64 k), (true, .pointer (some ⟨bt, ot + k * 2, none⟩)), (true, (.agg #[u, x])), (true, undef), (true, undef), (true, undef), (true, .pointer (some ⟨(w.heap.size + 2), 1, none⟩)), (true, undef)]

theorem len_sizeL : ∀ l : List T, l.length ≤ T.sizeL l
  | [] => by simp [T.sizeL]
  | t :: r => by have := len_sizeL r; have := T.size_eq t; simp [T.sizeL]; omega
set_option maxHeartbeats 2000000 in
theorem copy_any (B : Nat) : ∀ (t : T) (w : World) (v : Value), t.size ≤ 4294967296 → InT (fun b => b < B) w t v → B ≤ w.heap.size →
    Calls Try.prog 31 #[v] w fun e w' => ∃ v', e = .returned v' ∧ (InT (New B w.heap.size) w' t v' ∧ Below w.heap.size w w') := by
  intro t
  induction t using T.ind with
  | h f ar ih =>
    intro w v hmax hv hB
    obtain ⟨hf, at_, ct, rfl, hc, hm, hl⟩ := hv
    have hlen : ar.length ≤ 4294967295 := by
      have := T.size_eq (T.mk f ar)
      have h2 := len_sizeL ar
      simp at this; omega
    unfold maxLen at hm
    go_enter Try.func31, Try.ntmps31
    go_wp2_with (refine stop_region ?_)
    go_loopw [4] (fun i wr => ∃ (k : Nat) (rv : Value), k ≤ ar.length ∧ i = .int .i64 k ∧ Hid (Grow B w (.int .i64 f) (.slice at_ ar.length ct) f (ar.take k) wr rv rv) ∧ Hid (∃ a n c, rv = .slice a n c)) (fun i _ => ar.length - (intOf i).toNat)
    case atStart =>
      exact ⟨0, .slice none 0 0, Nat.zero_le _, rfl, .start3 hB, ⟨_, _, _, rfl⟩⟩
    case round =>
      obtain ⟨k, rv, hk, rfl, HG, hsh⟩ := hrel
      have k0 := HG.out.arg.cell 0
      have k1 := HG.out.arg.cell 1
      simp only [List.getElem?_toArray, List.getElem?_cons_zero, List.getElem?_cons_succ] at k0 k1
      by_cases hlt : k < ar.length
      · obtain ⟨bt, ot, u, x, rfl, hS, g0, g1, gt⟩ := hl.at_ k hlt
        have RC := Lib.hid (fun (w : World) => ih ar[k] (List.getElem_mem hlt) w (.agg #[u, x]) (by have := T.size_eq (T.mk f ar); have := T.size_le_sizeL (List.getElem_mem hlt); simp at *; omega))
        have HS := Lib.hid hS
        have Hlt := Lib.hid hlt
        have Hmax := Lib.hid hlen
        have HR := Lib.hid (show ∀ b, rv.ownBlock = some b → b < wr.heap.size from fun b hb => by obtain ⟨xs, h1, _⟩ := HG.out.rows; exact (h1.lt b hb).2)
        have HN := Lib.hid (show w.heap.size + 3 ≤ wr.heap.size from HG.out.out.lt)
        have z1 : (k : Int) < (ar.length : Int) := by omega
        have Hg0 := Lib.hid g0
        have Hg1 := Lib.hid g1
        have Hgt := Lib.hid gt
        clear g0 g1 gt
        clear ih hS hlen
        go_wp2_with (refine stop_region ?_)
        refine Stop.mk ?_
        refine wp_region_chain [7, 8, 9, 11] (optP (copySp w bt ot ct k ar rv u x)) (GrowG B w wr (.int .i64 f) (.slice (some ⟨bt, ot, none⟩) ar.length ct) f (ar.take k) rv (ar[k])) [false, false, false, false, false, false, false, false, false, false, false, false, false, false, false, true, true, true, true, true, true, true, true, true, true, true, false] (by kernel_rfl) (by kernel_rfl) (by kernel_rfl) (by decide) (by kernel_rfl) (by kernel_rfl) (⟨rfl, HG.out.drew⟩) ?_ ?_
        · refine ⟨.inl ⟨by decide, true, .none rfl, fun h => optUndef h, fun hβ fx wx vs C => ?_⟩, ?_⟩
          · exact wp_fld_apiTerm_1 rfl ((rel_eval (by kernel_rfl)).trans (show fx 3 = .pointer (some ⟨(w.heap.size + 2), 0, none⟩) from C.keep 3 (by kernel_rfl))) ⟨_, rfl, rfl, optDef hβ rfl⟩
          refine ⟨.inl ⟨by decide, true, .none rfl, fun h => optUndef h, fun hβ fx wx vs C => ?_⟩, ?_⟩
          · exact wp_ld_LapiTerm rfl ((rel_eval (by kernel_rfl)).trans (optPVal (x := .pointer (some ⟨(w.heap.size + 2), 1, none⟩)) (β := true) (C.dep 0 15 (by kernel_rfl) (by decide)) rfl rfl)) (C.now.out (Nat.le_trans (C.most 2 9 rfl (by kernel_rfl)) (by decide))) ⟨_, rfl, rfl, optDef hβ rfl⟩
          refine ⟨.inl ⟨by decide, true, .none rfl, fun h => optUndef h, fun hβ fx wx vs C => ?_⟩, ?_⟩
          · exact wp_fld_apiTerm_1 rfl ((rel_eval (by kernel_rfl)).trans (show fx 1 = .pointer (some ⟨w.heap.size, 0, none⟩) from C.keep 1 (by kernel_rfl))) ⟨_, rfl, rfl, optDef hβ rfl⟩
          refine ⟨.inl ⟨by decide, true, .none rfl, fun h => optUndef h, fun hβ fx wx vs C => ?_⟩, ?_⟩
          · exact wp_ld_LapiTerm rfl ((rel_eval (by kernel_rfl)).trans (optPVal (x := .pointer (some ⟨w.heap.size, 1, none⟩)) (β := true) (C.dep 2 17 (by kernel_rfl) (by decide)) rfl rfl)) (C.now.arg.2) ⟨_, rfl, rfl, optDef hβ rfl⟩
          refine ⟨.inl ⟨by decide, true, .none rfl, fun h => optUndef h, fun hβ fx wx vs C => ?_⟩, ?_⟩
          · exact wp_move rfl ((rel_eval (by kernel_rfl)).trans (show fx 4 = .int .i64 k from C.keep 4 (by kernel_rfl))) ⟨_, rfl, rfl, optDef hβ rfl⟩
          refine ⟨.inl ⟨by decide, true, .none rfl, fun h => optUndef h, fun hβ fx wx vs C => ?_⟩, ?_⟩
          · exact wp_ix_LapiTerm rfl ((rel_eval (by kernel_rfl)).trans (optPVal (x := .slice (some ⟨bt, ot, none⟩) ar.length ct) (β := true) (C.dep 3 18 (by kernel_rfl) (by decide)) rfl rfl)) ((rel_eval (by kernel_rfl)).trans (optPVal (x := .int .i64 k) (β := true) (C.dep 4 19 (by kernel_rfl) (by decide)) rfl rfl)) (Hlt.out) ⟨_, rfl, rfl, optDef hβ rfl⟩
          refine ⟨.inl ⟨by decide, true, .none rfl, fun h => optUndef h, fun hβ fx wx vs C => ?_⟩, ?_⟩
          · exact wp_ld_apiTerm rfl ((rel_eval (by kernel_rfl)).trans (optPVal (x := .pointer (some ⟨bt, ot + k * 2, none⟩)) (β := true) (C.dep 5 20 (by kernel_rfl) (by decide)) rfl rfl)) (C.now.old HS.out Hg0.out) (C.now.old HS.out Hg1.out) ⟨_, rfl, rfl, optDef hβ rfl⟩
          refine ⟨.inr ⟨0, rfl, rfl, fun fx wx vs C hlen => ?_⟩, ?_⟩
          · obtain ⟨rfl⟩ := vs_eq0 hlen
            exact wp_call (by kernel_rfl) rfl (hv1 ((rel_eval (by kernel_rfl)).trans (optPVal (x := (.agg #[u, x])) (β := true) (C.dep 6 21 (by kernel_rfl) (by decide)) rfl rfl))) (RC.out _ (C.now.oldT Hgt.out) C.now.size) (fun v w' h => ⟨v, rfl, C.now.call h.1 h.2⟩)
          refine ⟨.inr ⟨1, rfl, rfl, fun fx wx vs C hlen => ?_⟩, ?_⟩
          · obtain ⟨v0, rfl⟩ := vs_eq1 hlen
            exact wp_rowT rfl ((rel_eval (by kernel_rfl)).trans (Option.some.inj (C.link 0 7 22 rfl (by kernel_rfl))).symm) (C.now.inT) (fun u y h1 h2 h3 => ⟨_, rfl, C.now.row h1 h2 h3⟩)
          refine ⟨.inr ⟨2, rfl, rfl, fun fx wx vs C hlen => ?_⟩, ?_⟩
          · obtain ⟨v0, v1, rfl⟩ := vs_eq2 hlen
            exact wp_appendT rfl ((rel_eval (by kernel_rfl)).trans (optPVal (x := rv) (β := true) (C.dep 1 16 (by kernel_rfl) (by decide)) rfl rfl)) ((rel_eval (by kernel_rfl)).trans (Option.some.inj (C.link 1 8 23 rfl (by kernel_rfl))).symm) (by have := Hmax.out; simp; omega) C.now HR.out HN.out (fun r w' h => ⟨_, rfl, h⟩)
          refine ⟨.inl ⟨by decide, true, .none rfl, fun h => optUndef h, fun hβ fx wx vs C => ?_⟩, ?_⟩
          · exact wp_fld_apiTerm_1 rfl ((rel_eval (by kernel_rfl)).trans (show fx 3 = .pointer (some ⟨(w.heap.size + 2), 0, none⟩) from C.keep 3 (by kernel_rfl))) ⟨_, rfl, rfl, optDef hβ rfl⟩
          refine ⟨.inr ⟨3, rfl, rfl, fun fx wx vs C hlen => ?_⟩, ?_⟩
          · obtain ⟨v0, v1, v2, rfl⟩ := vs_eq3 hlen
            obtain ⟨hq, ra, rn, rc, hr⟩ := C.now.three
            subst hr
            exact wp_storeT rfl ((rel_eval (by kernel_rfl)).trans (optPVal (x := .pointer (some ⟨(w.heap.size + 2), 1, none⟩)) (β := true) (C.dep 10 25 (by kernel_rfl) (by decide)) rfl rfl)) ((rel_eval (by kernel_rfl)).trans (Option.some.inj (C.link 2 9 24 rfl (by kernel_rfl))).symm) (hq.out.cell 1) (hq.out.frozen 1) (fun v => ⟨v, rfl, C.now.store⟩)
          exact trivial
        intro ux w3 vs hlen hG hu hch
        obtain ⟨v0, v1, v2, v3, rfl⟩ := vs_eq4 hlen
        obtain ⟨hG2, hsh2⟩ := hG.four
        have HhG2 := Lib.hid hG2
        have Hhsh2 := Lib.hid hsh2
        clear hG2 hsh2
        clear hG hu hch HG hsh k0 k1
        simp only [finM]
        go_wp2_with fail
        go_roundw
        case rel => exact ⟨k + 1, v2, by omega, by go_num, by rw [List.take_succ_eq_append_getElem hlt]; exact HhG2.out, Hhsh2.out⟩
        case measure => simp [intOf]; omega
      · obtain rfl : k = ar.length := by omega
        obtain ⟨ra, rn, rc, rfl⟩ := hsh.out
        have o0 := HG.out.out.cell 0
        have o1 := HG.out.out.cell 1
        obtain ⟨x0, x1, hr⟩ := HG.out.res
        have c0 := hr.cell 0
        have c1 := hr.cell 1
        have y0 := hr.frozen 0
        have y1 := hr.frozen 1
        simp only [List.getElem?_toArray, List.getElem?_cons_zero, List.getElem?_cons_succ] at o0 o1 c0 c1
        have Hhr := Lib.hid hr
        clear hr
        go_wp2_with fail
        refine bodyPost_ret (v := .agg #[.int .i64 f, .slice ra rn rc]) (by simp [results, Try.results31, go_sem, c0, c1]) rfl ?_
        have := HG.out.finish (u0 := .int .i64 f) (u1 := .slice ra rn rc) hf
        rw [List.take_length] at this
        exact ⟨_, rfl, this.1, this.2⟩

set_option maxHeartbeats 4000000 in
theorem put_any (B : Nat) (ls : List T) : ∀ (t : T) (w : World) (v : Value) (al : Option Addr) (cl : Nat), t.size ≤ 4294967296 → InT (fun b => b < B) w t v → InTs (fun b => b < B) w ls al 0 → ls.length ≤ cl → cl ≤ maxLen → B ≤ w.heap.size →
    Calls Try.prog 17 #[v, .slice al ls.length cl] w fun e w' => ∃ v', e = .returned v' ∧ (InT (New B w.heap.size) w' (t.put ls) v' ∧ Below w.heap.size w w') := by
  intro t
  induction t using T.ind with
  | h f ar ih =>
    intro w v al cl hmax hv hls hlc hlm hB
    obtain ⟨hf, at_, ct, rfl, hc, hm, hl⟩ := id hv
    have hlen : ar.length ≤ 4294967295 := by
      have := T.size_eq (T.mk f ar)
      have h2 := len_sizeL ar
      simp at this; omega
    unfold maxLen at hm
    have hlm' := hlm
    unfold maxLen at hlm'
    by_cases hneg : f < 0
    · obtain ⟨n, rfl⟩ : ∃ n : Nat, f = -1 - n := ⟨(-1 - f).toNat, by omega⟩
      have hn : (-1 - (-1 - (n : Int))).toNat = n := by omega
      have hwr : IntKind.i64.wrap (-1 - (-1 - (n : Int))) = n := by
        have := hf.1
        rw [show -1 - (-1 - (n : Int)) = n by omega]
        exact IntWalk.i64_in _ (by omega)
      by_cases hlt : n < ls.length
      · obtain ⟨bl, ol, u, x, rfl, hS, g0, g1, gt⟩ := hls.at_ n hlt
        obtain ⟨hfi, aa, cc, hux, hcc, hcm, hll⟩ := gt.form
        simp only [Value.agg.injEq, Array.mk.injEq, List.cons.injEq, and_true] at hux
        obtain ⟨rfl, rfl⟩ := hux
        have z0 : (0 : Int) ≤ (n : Int) := by omega
        have z1 : (n : Int) < (ls.length : Int) := by omega
        have g0 := calloc (calloc g0 (.cells #[.int .i64 (-1 - n), .slice at_ ar.length ct] 27)) (.cells #[.int .i64 0, .slice none 0 0] 27)
        have g1 := calloc (calloc g1 (.cells #[.int .i64 (-1 - n), .slice at_ ar.length ct] 27)) (.cells #[.int .i64 0, .slice none 0 0] 27)
        have hget : T.put ls (.mk (-1 - n) ar) = ls[n] := by rw [T.put, if_pos hneg, hn]; simp [hlt]
        have Hgt := Lib.hid gt
        have Hhget := Lib.hid hget
        have Hhll := Lib.hid hll
        clear gt hget hll
        have Hv := Lib.hid hv
        clear hv ih
        go_enter Try.func17, Try.ntmps17
        go_wp2_with (refine stop_region ?_)
        refine bodyPost_ret (v := .agg #[.int .i64 ls[n].f, .slice aa ls[n].args.length cc]) (by simp [results, Try.results17, go_sem]) rfl ?_
        refine ⟨_, rfl, ?_, balloc2 _ _ _⟩
        rw [Hhget.out]
        exact (Hgt.out.below (balloc2 _ _ _)).mono (fun b hb _ => .inl hb)
      · have z1 : ¬ (n : Int) < (ls.length : Int) := by omega
        have hget : T.put ls (.mk (-1 - n) ar) = .mk (-1 - n) ar := by rw [T.put, if_pos hneg, hn, List.getD_eq_getElem?_getD, List.getElem?_eq_none (by omega)]; rfl
        have Hhget := Lib.hid hget
        clear hget
        have Hv := Lib.hid hv
        clear hv ih hlt
        go_enter Try.func17, Try.ntmps17
        go_wp2_with (refine stop_region ?_)
        refine bodyPost_ret (v := .agg #[.int .i64 (-1 - n), .slice at_ ar.length ct]) (by simp [results, Try.results17, go_sem]) rfl ?_
        refine ⟨_, rfl, ?_, balloc2 _ _ _⟩
        rw [Hhget.out]
        exact (Hv.out.below (balloc2 _ _ _)).mono (fun b hb _ => .inl hb)
    · have Hneg := Lib.hid hneg
      go_enter Try.func17, Try.ntmps17
      go_wp2_with (refine stop_region ?_)
      go_loopw [6] (fun i wr => ∃ (k : Nat) (rv : Value), k ≤ ar.length ∧ i = .int .i64 k ∧ Hid (Grow B w (.int .i64 f) (.slice at_ ar.length ct) f ((ar.take k).map (T.put ls)) wr rv rv) ∧ Hid (∃ a n c, rv = .slice a n c)) (fun i _ => ar.length - (intOf i).toNat)
      case atStart =>
        exact ⟨0, .slice none 0 0, Nat.zero_le _, rfl, .start3 hB, ⟨_, _, _, rfl⟩⟩
      case round =>
        obtain ⟨k, rv, hk, rfl, HG, hsh⟩ := hrel
        have k0 := HG.out.arg.cell 0
        have k1 := HG.out.arg.cell 1
        simp only [List.getElem?_toArray, List.getElem?_cons_zero, List.getElem?_cons_succ] at k0 k1
        by_cases hlt : k < ar.length
        · obtain ⟨bt, ot, u, x, rfl, hS, g0, g1, gt⟩ := hl.at_ k hlt
          have RC := Lib.hid (fun (w : World) (h1 : InT (fun b => b < B) w ar[k] (.agg #[u, x])) (h2 : InTs (fun b => b < B) w ls al 0) => ih ar[k] (List.getElem_mem hlt) w (.agg #[u, x]) al cl (by have := T.size_eq (T.mk f ar); have := T.size_le_sizeL (List.getElem_mem hlt); simp at *; omega) h1 h2 hlc hlm)
          have HS := Lib.hid hS
          have Hlt := Lib.hid hlt
          have Hmax := Lib.hid hlen
          have HR := Lib.hid (show ∀ b, rv.ownBlock = some b → b < wr.heap.size from fun b hb => by obtain ⟨xs, h1, _⟩ := HG.out.rows; exact (h1.lt b hb).2)
          have HN := Lib.hid (show w.heap.size + 3 ≤ wr.heap.size from HG.out.out.lt)
          have z1 : (k : Int) < (ar.length : Int) := by omega
          have Hls := Lib.hid hls
          have Hg0 := Lib.hid g0
          have Hg1 := Lib.hid g1
          have Hgt := Lib.hid gt
          clear g0 g1 gt
          clear ih hS hlen hls
          go_wp2_with (refine stop_region ?_)
          refine Stop.mk ?_
          refine wp_region_chain [8, 9, 10, 12] (optP (putSp w bt ot ct k cl al ar ls rv u x)) (GrowG B w wr (.int .i64 f) (.slice (some ⟨bt, ot, none⟩) ar.length ct) f ((ar.take k).map (T.put ls)) rv (ar[k].put ls)) [false, false, false, false, false, false, false, false, false, false, false, false, false, false, false, false, false, false, false, false, false, false, false, false, false, false, false, false, false, false, false, false, false, true, true, true, true, true, true, true, true, true, true, true, true, false] (by kernel_rfl) (by kernel_rfl) (by kernel_rfl) (by decide) (by kernel_rfl) (by kernel_rfl) (⟨rfl, HG.out.drew⟩) ?_ ?_
          · refine ⟨.inl ⟨by decide, true, .none rfl, fun h => optUndef h, fun hβ fx wx vs C => ?_⟩, ?_⟩
            · exact wp_fld_apiTerm_1 rfl ((rel_eval (by kernel_rfl)).trans (show fx 5 = .pointer (some ⟨(w.heap.size + 2), 0, none⟩) from C.keep 5 (by kernel_rfl))) ⟨_, rfl, rfl, optDef hβ rfl⟩
            refine ⟨.inl ⟨by decide, true, .none rfl, fun h => optUndef h, fun hβ fx wx vs C => ?_⟩, ?_⟩
            · exact wp_ld_LapiTerm rfl ((rel_eval (by kernel_rfl)).trans (optPVal (x := .pointer (some ⟨(w.heap.size + 2), 1, none⟩)) (β := true) (C.dep 0 33 (by kernel_rfl) (by decide)) rfl rfl)) (C.now.out (Nat.le_trans (C.most 2 10 rfl (by kernel_rfl)) (by decide))) ⟨_, rfl, rfl, optDef hβ rfl⟩
            refine ⟨.inl ⟨by decide, true, .none rfl, fun h => optUndef h, fun hβ fx wx vs C => ?_⟩, ?_⟩
            · exact wp_fld_apiTerm_1 rfl ((rel_eval (by kernel_rfl)).trans (show fx 2 = .pointer (some ⟨w.heap.size, 0, none⟩) from C.keep 2 (by kernel_rfl))) ⟨_, rfl, rfl, optDef hβ rfl⟩
            refine ⟨.inl ⟨by decide, true, .none rfl, fun h => optUndef h, fun hβ fx wx vs C => ?_⟩, ?_⟩
            · exact wp_ld_LapiTerm rfl ((rel_eval (by kernel_rfl)).trans (optPVal (x := .pointer (some ⟨w.heap.size, 1, none⟩)) (β := true) (C.dep 2 35 (by kernel_rfl) (by decide)) rfl rfl)) (C.now.arg.2) ⟨_, rfl, rfl, optDef hβ rfl⟩
            refine ⟨.inl ⟨by decide, true, .none rfl, fun h => optUndef h, fun hβ fx wx vs C => ?_⟩, ?_⟩
            · exact wp_move rfl ((rel_eval (by kernel_rfl)).trans (show fx 6 = .int .i64 k from C.keep 6 (by kernel_rfl))) ⟨_, rfl, rfl, optDef hβ rfl⟩
            refine ⟨.inl ⟨by decide, true, .none rfl, fun h => optUndef h, fun hβ fx wx vs C => ?_⟩, ?_⟩
            · exact wp_ix_LapiTerm rfl ((rel_eval (by kernel_rfl)).trans (optPVal (x := .slice (some ⟨bt, ot, none⟩) ar.length ct) (β := true) (C.dep 3 36 (by kernel_rfl) (by decide)) rfl rfl)) ((rel_eval (by kernel_rfl)).trans (optPVal (x := .int .i64 k) (β := true) (C.dep 4 37 (by kernel_rfl) (by decide)) rfl rfl)) (Hlt.out) ⟨_, rfl, rfl, optDef hβ rfl⟩
            refine ⟨.inl ⟨by decide, true, .none rfl, fun h => optUndef h, fun hβ fx wx vs C => ?_⟩, ?_⟩
            · exact wp_ld_apiTerm rfl ((rel_eval (by kernel_rfl)).trans (optPVal (x := .pointer (some ⟨bt, ot + k * 2, none⟩)) (β := true) (C.dep 5 38 (by kernel_rfl) (by decide)) rfl rfl)) (C.now.old HS.out Hg0.out) (C.now.old HS.out Hg1.out) ⟨_, rfl, rfl, optDef hβ rfl⟩
            refine ⟨.inl ⟨by decide, true, .none rfl, fun h => optUndef h, fun hβ fx wx vs C => ?_⟩, ?_⟩
            · exact wp_move rfl ((rel_eval (by kernel_rfl)).trans (show fx 1 = .slice al ls.length cl from C.keep 1 (by kernel_rfl))) ⟨_, rfl, rfl, optDef hβ rfl⟩
            refine ⟨.inr ⟨0, rfl, rfl, fun fx wx vs C hlen => ?_⟩, ?_⟩
            · obtain ⟨rfl⟩ := vs_eq0 hlen
              exact wp_call (by kernel_rfl) rfl (hv2 ((rel_eval (by kernel_rfl)).trans (optPVal (x := (.agg #[u, x])) (β := true) (C.dep 6 39 (by kernel_rfl) (by decide)) rfl rfl)) ((rel_eval (by kernel_rfl)).trans (optPVal (x := .slice al ls.length cl) (β := true) (C.dep 7 40 (by kernel_rfl) (by decide)) rfl rfl))) (RC.out _ (C.now.oldT Hgt.out) (C.now.oldTs Hls.out) C.now.size) (fun v w' h => ⟨v, rfl, C.now.call h.1 h.2⟩)
            refine ⟨.inr ⟨1, rfl, rfl, fun fx wx vs C hlen => ?_⟩, ?_⟩
            · obtain ⟨v0, rfl⟩ := vs_eq1 hlen
              exact wp_rowT rfl ((rel_eval (by kernel_rfl)).trans (Option.some.inj (C.link 0 8 41 rfl (by kernel_rfl))).symm) (C.now.inT) (fun u y h1 h2 h3 => ⟨_, rfl, C.now.row h1 h2 h3⟩)
            refine ⟨.inr ⟨2, rfl, rfl, fun fx wx vs C hlen => ?_⟩, ?_⟩
            · obtain ⟨v0, v1, rfl⟩ := vs_eq2 hlen
              exact wp_appendT rfl ((rel_eval (by kernel_rfl)).trans (optPVal (x := rv) (β := true) (C.dep 1 34 (by kernel_rfl) (by decide)) rfl rfl)) ((rel_eval (by kernel_rfl)).trans (Option.some.inj (C.link 1 9 42 rfl (by kernel_rfl))).symm) (by have := Hmax.out; simp; omega) C.now HR.out HN.out (fun r w' h => ⟨_, rfl, h⟩)
            refine ⟨.inl ⟨by decide, true, .none rfl, fun h => optUndef h, fun hβ fx wx vs C => ?_⟩, ?_⟩
            · exact wp_fld_apiTerm_1 rfl ((rel_eval (by kernel_rfl)).trans (show fx 5 = .pointer (some ⟨(w.heap.size + 2), 0, none⟩) from C.keep 5 (by kernel_rfl))) ⟨_, rfl, rfl, optDef hβ rfl⟩
            refine ⟨.inr ⟨3, rfl, rfl, fun fx wx vs C hlen => ?_⟩, ?_⟩
            · obtain ⟨v0, v1, v2, rfl⟩ := vs_eq3 hlen
              obtain ⟨hq, ra, rn, rc, hr⟩ := C.now.three
              subst hr
              exact wp_storeT rfl ((rel_eval (by kernel_rfl)).trans (optPVal (x := .pointer (some ⟨(w.heap.size + 2), 1, none⟩)) (β := true) (C.dep 11 44 (by kernel_rfl) (by decide)) rfl rfl)) ((rel_eval (by kernel_rfl)).trans (Option.some.inj (C.link 2 10 43 rfl (by kernel_rfl))).symm) (hq.out.cell 1) (hq.out.frozen 1) (fun v => ⟨v, rfl, C.now.store⟩)
            exact trivial
          intro ux w3 vs hlen hG hu hch
          obtain ⟨v0, v1, v2, v3, rfl⟩ := vs_eq4 hlen
          obtain ⟨hG2, hsh2⟩ := hG.four
          have HhG2 := Lib.hid hG2
          have Hhsh2 := Lib.hid hsh2
          clear hG2 hsh2
          clear hG hu hch HG hsh k0 k1
          simp only [finM]
          go_wp2_with fail
          go_roundw
          case rel => exact ⟨k + 1, v2, by omega, by go_num, by rw [List.take_succ_eq_append_getElem hlt, List.map_append]; exact HhG2.out, Hhsh2.out⟩
          case measure => simp [intOf]; omega
        · obtain rfl : k = ar.length := by omega
          obtain ⟨ra, rn, rc, rfl⟩ := hsh.out
          have o0 := HG.out.out.cell 0
          have o1 := HG.out.out.cell 1
          obtain ⟨x0, x1, hr⟩ := HG.out.res
          have c0 := hr.cell 0
          have c1 := hr.cell 1
          have y0 := hr.frozen 0
          have y1 := hr.frozen 1
          simp only [List.getElem?_toArray, List.getElem?_cons_zero, List.getElem?_cons_succ] at o0 o1 c0 c1
          have Hhr := Lib.hid hr
          clear hr
          go_wp2_with fail
          refine bodyPost_ret (v := .agg #[.int .i64 f, .slice ra rn rc]) (by simp [results, Try.results17, go_sem, c0, c1]) rfl ?_
          have := HG.out.finish (u0 := .int .i64 f) (u1 := .slice ra rn rc) hf
          rw [List.take_length, ← T.putL_map] at this
          rw [T.put, if_neg (by have := Hneg.out; omega)]
          exact ⟨_, rfl, this.1, this.2⟩

end Go.Proofs.Ytlkiabgpnboicaa.Old

/- A region that draws its order, of which some operations change the memory, in whatever order, and the others only read: walked once. -/
namespace Go.Proofs.Ytlkiabgpnboicaa.Old
set_option maxRecDepth 100000
open Go.RowKit Go

section
variable {P : Program} {ops : Array Oper}

structure CtxM (ops : Array Oper) (chain : List Nat) (R : Nat → Value → Prop) (G : List (Option Value) → World → Prop) (tmps : Array Value) (i : Nat) (o : Oper) (f : Nat → Value) (w : World) (vs : List (Option Value)) : Prop where
  now : G vs w
  keep : ∀ d, (dstsOf ops).contains d = false → f d = tmps.getD d undef
  dep : ∀ j d, depB ops o j d = true → chain.contains j = false → R j (f d)
  len : vs.length = chain.length
  link : ∀ (p c d : Nat), chain[p]? = some c → depB ops o c d = true → vs[p]? = some (some (f d))
  done : ∀ (p c : Nat), chain[p]? = some c → o.after.any (fun e => e.on == c && Region.binds .any e) = true → ∃ v, vs[p]? = some (some v)
  most : ∀ (p c : Nat), chain[p]? = some c → afterB ops c i = true → vs[p]? = some none

def SoundM (P : Program) (ops : Array Oper) (Q : Exit → Act → World → Prop) (chain : List Nat) (R : Nat → Value → Prop) (G : List (Option Value) → World → Prop) (tmps : Array Value) (defers : List Deferred) (i : Nat) (o : Oper) : Prop :=
  (chain.contains i = false ∧ ∃ β, GuardC R chain o β ∧ (β = false → R i undef) ∧
    (β = true → ∀ (f : Nat → Value) (w : World) (vs : List (Option Value)), CtxM ops chain R G tmps i o f w vs →
      o.wp P ⟨((List.range tmps.size).map f).toArray, defers⟩ w (fun a' w' => ∃ v, a' = Act.put ⟨((List.range tmps.size).map f).toArray, defers⟩ o.dst v ∧ w' = w ∧ R i v) Q)) ∨
  (∃ p, chain[p]? = some i ∧ o.guard = none ∧ ∀ (f : Nat → Value) (w : World) (vs : List (Option Value)), CtxM ops chain R G tmps i o f w vs → vs[p]? = some none →
      o.wp P ⟨((List.range tmps.size).map f).toArray, defers⟩ w (fun a' w' => ∃ v, a' = Act.put ⟨((List.range tmps.size).map f).toArray, defers⟩ o.dst v ∧ G (vs.set p (some v)) w') Q)

def SoundFromM (P : Program) (ops : Array Oper) (Q : Exit → Act → World → Prop) (chain : List Nat) (R : Nat → Value → Prop) (G : List (Option Value) → World → Prop) (tmps : Array Value) (defers : List Deferred) : Nat → List Oper → Prop
  | _, [] => True
  | k, o :: r => SoundM P ops Q chain R G tmps defers k o ∧ SoundFromM P ops Q chain R G tmps defers (k + 1) r

theorem SoundFromM.at_ {Q : Exit → Act → World → Prop} {chain : List Nat} {R : Nat → Value → Prop} {G : List (Option Value) → World → Prop} {tmps : Array Value} {defers : List Deferred} : ∀ {l : List Oper} {k : Nat}, SoundFromM P ops Q chain R G tmps defers k l → ∀ i o, l[i]? = some o → SoundM P ops Q chain R G tmps defers (k + i) o
  | [], _, _, i, o, h => by simp at h
  | x :: r, k, h, 0, o, ho => by simp at ho; subst ho; exact h.1
  | x :: r, k, h, i + 1, o, ho => by
    have := h.2.at_ i o (by simpa using ho)
    rwa [show k + 1 + i = k + (i + 1) by omega] at this

structure AtM (ops : Array Oper) (chain : List Nat) (R : Nat → Value → Prop) (G : List (Option Value) → World → Prop) (tmps : Array Value) (listed : Array Bool) (f : Nat → Value) (vs : List (Option Value)) (w : World) : Prop where
  size : listed.size = ops.size
  keep : ∀ d, (dstsOf ops).contains d = false → f d = tmps.getD d undef
  plain : ∀ i d, chain.contains i = false → listed.getD i false = true → (ops[i]?).bind (·.dst) = some d → R i (f d)
  link : ∀ p c : Nat, chain[p]? = some c → (listed.getD c false = true ↔ ∃ v, vs[p]? = some (some v))
  vals : ∀ (p c d : Nat), chain[p]? = some c → listed.getD c false = true → (ops[c]?).bind (·.dst) = some d → vs[p]? = some (some (f d))
  len : vs.length = chain.length
  closed : ∀ i o, ops[i]? = some o → listed.getD i false = true → ∀ e ∈ o.after, Region.binds .any e = true → listed.getD e.on false = true
  now : G vs w

theorem wp_any_mem {Q : Exit → Act → World → Prop} {tmps : List Value} {defers : List Deferred} {w0 : World} (chain : List Nat) (R : Nat → Value → Prop) (G : List (Option Value) → World → Prop) (m : List Bool)
    (hB : opsB ops tmps.length = true) (hnd : chain.Nodup) (hin : (chain.all fun c => Nat.blt c ops.size) = true) (hmask : maskOf ops tmps.length = m) (h0 : G (List.replicate chain.length none) w0)
    (h : SoundFromM P ops Q chain R G tmps.toArray defers 0 ops.toList)
    (hQ : ∀ (u : Nat → Value) (w : World) (vs : List (Option Value)), vs.length = chain.length → (∀ p, p < chain.length → ∃ v, vs[p]? = some (some v)) → G vs w → (∀ i d, (ops[i]?).bind (·.dst) = some d → chain.contains i = false → R i (u d)) → (∀ (p c d : Nat), chain[p]? = some c → (ops[c]?).bind (·.dst) = some d → vs[p]? = some (some (u d))) → Q .normal ⟨(finM u m 0 tmps).toArray, defers⟩ w) :
    wpAny P .any ops Q ops.size (Array.replicate ops.size false) ⟨tmps.toArray, defers⟩ w0 := by
  have hB' : opsB ops tmps.toArray.size = true := by simpa using hB
  have main : ∀ (fuel : Nat) (listed : Array Bool) (f : Nat → Value) (vs : List (Option Value)) (w : World), listed.toList.count false ≤ fuel → AtM ops chain R G tmps.toArray listed f vs w →
      wpAny P .any ops Q fuel listed ⟨((List.range tmps.toArray.size).map f).toArray, defers⟩ w := by
    intro fuel
    have done : ∀ (listed : Array Bool) (f : Nat → Value) (vs : List (Option Value)) (w : World), Region.ready .any ops listed = [] → AtM ops chain R G tmps.toArray listed f vs w →
      Q .normal ⟨((List.range tmps.toArray.size).map f).toArray, defers⟩ w := by
      intro listed f vs w hr H
      have all : ∀ i, i < ops.size → listed.getD i false = true := fun i hi => by
        have := ready_nil hB' H.size hr i hi
        have hs := H.size
        simpa [Array.getD, show i < listed.size by omega] using this
      have hin' : ∀ p c, chain[p]? = some c → c < ops.size := fun p c hc => by
        have := List.all_eq_true.1 hin _ (List.mem_of_getElem? hc)
        simpa [Nat.blt_eq] using this
      have lt_of : ∀ i d, (ops[i]?).bind (·.dst) = some d → i < ops.size := fun i d hd => by
        rcases Nat.lt_or_ge i ops.size with h | h
        · exact h
        · simp [Array.getElem?_eq_none h] at hd
      have := hQ f w vs H.len (fun p hp => (H.link p chain[p] (by simp [hp])).1 (all _ (hin' p _ (by simp [hp])))) H.now (fun i d hd hc => H.plain i d hc (all i (lt_of i d hd)) hd) (fun p c d hc hd => H.vals p c d hc (all c (hin' p c hc)) hd)
      rw [← hmask, maskOf, List.range_eq_range', finM_fin] at this
      have e : fin (dstsOf ops) f 0 tmps = (List.range tmps.toArray.size).map f := by
        apply List.ext_getElem?
        intro k
        by_cases hk : k < tmps.length
        · rw [fin_at _ _ _ _ _ hk]
          simp only [List.size_toArray, Nat.zero_add, List.getElem?_map, List.getElem?_range hk, Option.map_some]
          congr 1
          cases hc : (dstsOf ops).contains k with
          | true => simp
          | false => simp [H.keep k hc, hk]
        · rw [List.getElem?_eq_none (by rw [fin_len]; simpa using hk), List.getElem?_eq_none (by simpa using hk)]
      rwa [e] at this
    induction fuel with
    | zero =>
      intro listed f vs w hc H
      have hr : Region.ready .any ops listed = [] := by
        cases hr : Region.ready .any ops listed with
        | nil => rfl
        | cons i r =>
          have := (mem_ready (md := .any) (ops := ops) (j := i) (listed := listed)).1 (by rw [hr]; simp)
          rw [count_zero hc i] at this
          simp at this
      exact ⟨hr, done listed f vs w hr H⟩
    | succ fuel ih =>
      intro listed f vs w hc H
      refine ⟨fun hr => done listed f vs w hr H, fun i hi => ?_⟩
      obtain ⟨hun, o, ho, haf⟩ := mem_ready.1 hi
      have hilt : i < ops.size := by
        rcases Nat.lt_or_ge i ops.size with h | h
        · exact h
        · simp [Array.getElem?_eq_none h] at ho
      have hils : i < listed.size := by have := H.size; omega
      have hun' := getD_false_of hun
      have ok := opsB_spec hB' ho
      have hs2 := h.at_ i o (by simpa using ho)
      rw [Nat.zero_add] at hs2
      have after_of : ∀ j d, depB ops o j d = true → listed.getD j false = true ∧ (ops[j]?).bind (·.dst) = some d := by
        intro j d hj
        simp only [depB, Bool.and_eq_true, Array.any_eq_true, beq_iff_eq] at hj
        obtain ⟨⟨k, hk, h1, h2⟩, h3⟩ := hj
        exact ⟨h1 ▸ haf _ (Array.getElem_mem hk) h2, h3⟩
      have ctx : CtxM ops chain R G tmps.toArray i o f w vs := by
        have opt : ∀ p c, chain[p]? = some c → listed.getD c false = false → vs[p]? = some none := fun p c hc hl => by
          have hp : p < vs.length := by rw [H.len]; exact (List.getElem?_eq_some_iff.1 hc).1
          rw [List.getElem?_eq_getElem hp]
          cases hx : vs[p] with
          | none => rfl
          | some v =>
            have := (H.link p c hc).2 ⟨v, by rw [List.getElem?_eq_getElem hp, hx]⟩
            rw [hl] at this; cases this
        refine ⟨H.now, H.keep, fun j d hj hc => H.plain j d hc (after_of j d hj).1 (after_of j d hj).2, H.len, fun p c d hc hj => H.vals p c d hc (after_of c d hj).1 (after_of c d hj).2, fun p c hc ha => ?_, fun p c hc ha => opt p c hc ?_⟩
        · simp only [Array.any_eq_true, Bool.and_eq_true, beq_iff_eq] at ha
          obtain ⟨k, hk, h1, h2⟩ := ha
          exact (H.link p c hc).1 (h1 ▸ haf _ (Array.getElem_mem hk) h2)
        · cases hl : listed.getD c false with
          | false => rfl
          | true =>
            exfalso
            unfold afterB at ha
            split at ha
            · rename_i oc hoc
              simp only [Array.any_eq_true, Bool.and_eq_true, beq_iff_eq] at ha
              obtain ⟨k, hk, h1, h2⟩ := ha
              have := H.closed c oc hoc hl _ (Array.getElem_mem hk) h2
              rw [h1, hun'] at this
              cases this
            · cases ha
      unfold wpOp
      simp only [ho]
      -- what is behind a step
      have step : ∀ (v : Value) (vs' : List (Option Value)) (w' : World), G vs' w' → (∀ d, o.dst = some d → chain.contains i = false → R i v) →
          ((chain.contains i = false ∧ vs' = vs) ∨ (∃ p, chain[p]? = some i ∧ vs' = vs.set p (some v))) →
          wpAny P .any ops Q fuel (listed.setIfInBounds i true) (Act.put ⟨((List.range tmps.toArray.size).map f).toArray, defers⟩ o.dst v) w' := by
        intro v vs' w' hG hRi hvs
        have hc' := count_set (l := listed) hils hun hc
        have hset : ∀ j, (listed.setIfInBounds i true).getD j false = true ↔ j = i ∨ listed.getD j false = true := by
          intro j
          by_cases hj : j = i
          · subst hj; simp [getD_set_eq hils]
          · rw [getD_set_ne false (Ne.symm hj)]; simp [hj]
        obtain ⟨f', hf', hput⟩ : ∃ f', (∀ k, f' k = match o.dst with | some d => if k = d then v else f k | none => f k) ∧ Act.put ⟨((List.range tmps.toArray.size).map f).toArray, defers⟩ o.dst v = ⟨((List.range tmps.toArray.size).map f').toArray, defers⟩ := by
          cases hd : o.dst with
          | none => exact ⟨f, fun k => rfl, rfl⟩
          | some d =>
            have hdlt := ok.lt d hd
            refine ⟨fun k => if k = d then v else f k, fun k => rfl, ?_⟩
            simp only [Act.put, Act.mk.injEq, and_true]
            apply Array.ext_getElem?
            intro k
            rw [Array.getElem?_setIfInBounds]
            by_cases hk : k < tmps.toArray.size
            · by_cases hkd : d = k
              · subst hkd; simp at hk; simp [hk]
              · simp at hk; simp [hk, hkd, Ne.symm hkd]
            · have : ¬ d = k := fun e => hk (e ▸ hdlt)
              simp only [this, if_false]
              rw [Array.getElem?_eq_none (by simpa using hk), Array.getElem?_eq_none (by simpa using hk)]
        rw [hput]
        have hother : ∀ j k, j ≠ i → (ops[j]?).bind (·.dst) = some k → f' k = f k := by
          intro j k hji hjk
          rw [hf']
          cases hd : o.dst with
          | none => rfl
          | some d =>
            have hkd : k ≠ d := by
              rintro rfl
              have hjlt : j < ops.size := by
                rcases Nat.lt_or_ge j ops.size with h | h
                · exact h
                · simp [Array.getElem?_eq_none h] at hjk
              exact hji (ok.own k j hd hjlt hjk).symm
            simp [hkd]
        have hself : ∀ d, (ops[i]?).bind (·.dst) = some d → f' d = v := by
          intro d hd
          rw [ho] at hd
          simp only [Option.bind_some] at hd
          rw [hf', hd]; simp
        refine ih _ f' vs' w' hc' ⟨by simpa using H.size, fun d hd => ?_, fun j d hjc hj hjd => ?_, fun p c hpc => ?_, fun p c d hpc hp hcd => ?_, ?_, fun j oj hoj hj e he hb => ?_, hG⟩
        · rw [hf']
          cases hd2 : o.dst with
          | none => exact H.keep d hd
          | some d' =>
            have : d ≠ d' := by rintro rfl; rw [mem_dsts ho hd2] at hd; cases hd
            simp only [this, if_false]
            exact H.keep d hd
        · by_cases hji : j = i
          · subst hji
            rw [hself d hjd]
            rw [ho] at hjd
            exact hRi d hjd hjc
          · rw [hother j d hji hjd]
            exact H.plain j d hjc (((hset j).1 hj).resolve_left hji) hjd
        · rw [hset]
          rcases hvs with ⟨hci, rfl⟩ | ⟨q, hq, rfl⟩
          · have : c ≠ i := by
              rintro rfl
              have := List.mem_of_getElem? hpc
              simp [this] at hci
            exact ⟨fun h => (H.link p c hpc).1 (h.resolve_left this), fun h => .inr ((H.link p c hpc).2 h)⟩
          · have hpl : q < vs.length := by rw [H.len]; exact (List.getElem?_eq_some_iff.1 hq).1
            by_cases hpq : p = q
            · subst hpq
              rw [hq] at hpc
              simp only [Option.some.injEq] at hpc
              subst hpc
              exact ⟨fun _ => ⟨v, by rw [List.getElem?_set_self hpl]⟩, fun _ => .inl rfl⟩
            · have hci : c ≠ i := by
                rintro rfl
                exact hpq ((List.getElem?_inj (List.getElem?_eq_some_iff.1 hpc).1 hnd).1 (hpc.trans hq.symm))
              rw [List.getElem?_set_ne (Ne.symm hpq)]
              exact ⟨fun h => (H.link p c hpc).1 (h.resolve_left hci), fun h => .inr ((H.link p c hpc).2 h)⟩
        · rcases hvs with ⟨hci, rfl⟩ | ⟨q, hq, rfl⟩
          · have hne : c ≠ i := by
              rintro rfl
              have := List.mem_of_getElem? hpc
              simp [this] at hci
            rw [hother c d hne hcd]
            exact H.vals p c d hpc (((hset c).1 hp).resolve_left hne) hcd
          · have hpl : q < vs.length := by rw [H.len]; exact (List.getElem?_eq_some_iff.1 hq).1
            by_cases hpq : p = q
            · subst hpq
              rw [hq] at hpc
              simp only [Option.some.injEq] at hpc
              subst hpc
              rw [hself d hcd, List.getElem?_set_self hpl]
            · have hne : c ≠ i := by
                rintro rfl
                exact hpq ((List.getElem?_inj (List.getElem?_eq_some_iff.1 hpc).1 hnd).1 (hpc.trans hq.symm))
              rw [hother c d hne hcd, List.getElem?_set_ne (Ne.symm hpq)]
              exact H.vals p c d hpc (((hset c).1 hp).resolve_left hne) hcd
        · rcases hvs with ⟨hci, rfl⟩ | ⟨q, hq, rfl⟩
          · exact H.len
          · rw [List.length_set]; exact H.len
        · rw [hset]
          by_cases hji : j = i
          · subst hji
            rw [ho] at hoj
            simp only [Option.some.injEq] at hoj
            subst hoj
            exact .inr (haf e he hb)
          · exact .inr (H.closed j oj hoj (((hset j).1 hj).resolve_left hji) e he hb)
      rcases hs2 with ⟨hci, β, hg, hs1, hs2⟩ | ⟨p, hp, hgn, hs2⟩
      · have hwant : Region.wanted o (yielded ops ((List.range tmps.toArray.size).map f).toArray) = β := by
          have known : ∀ g c d b, o.guard = some (g, b) → chain.contains g = false → (∀ v, R g v → (d = true → v = .bool c) ∧ (d = false → v = undef)) → yielded ops ((List.range tmps.toArray.size).map f).toArray g = if d then some c else none := by
            intro g c dd b hgb hgc hv
            obtain ⟨⟨e, he, h1, h2⟩, d, hd⟩ := ok.guard g b hgb
            have hv := hv (f d) (H.plain g d hgc (h1 ▸ haf e he h2) hd)
            have hdlt : d < tmps.toArray.size := by
              obtain ⟨og, hog, hgd⟩ := Option.bind_eq_some_iff.1 hd
              exact (opsB_spec hB' hog).lt d hgd
            simp only [List.size_toArray] at hdlt
            unfold yielded
            rw [hd]
            cases dd with
            | true => simp [hdlt, hv.1 rfl]
            | false => simp [hdlt, hv.2 rfl, undef]
          cases hg with
          | none h => unfold Region.wanted; rw [h]
          | @yes g c d h hc hv => have := known _ _ _ _ h hc hv; unfold Region.wanted; rw [h]; simp only [this]; cases d <;> simp
          | @no g c d h hc hv => have := known _ _ _ _ h hc hv; unfold Region.wanted; rw [h]; simp only [this]; cases d <;> cases c <;> simp
        cases hβ : β with
        | false =>
          rw [hβ] at hwant
          simp only [hwant, Bool.false_eq_true, if_false]
          exact step undef vs w H.now (fun _ _ _ => hs1 hβ) (.inl ⟨hci, rfl⟩)
        | true =>
          rw [hβ] at hwant
          simp only [hwant, if_true]
          refine Or.inl (Oper.wp_mono ?_ (hs2 hβ f w vs ctx))
          rintro a' w' ⟨v, rfl, rfl, hRi⟩
          exact step v vs w' H.now (fun _ _ _ => hRi) (.inl ⟨hci, rfl⟩)
      · have hwant : Region.wanted o (yielded ops ((List.range tmps.toArray.size).map f).toArray) = true := by unfold Region.wanted; rw [hgn]
        have hnone : vs[p]? = some none := by
          have hp' : p < vs.length := by rw [H.len]; exact (List.getElem?_eq_some_iff.1 hp).1
          rw [List.getElem?_eq_getElem hp']
          cases hx : vs[p] with
          | none => rfl
          | some v =>
            have := (H.link p i hp).2 ⟨v, by rw [List.getElem?_eq_getElem hp', hx]⟩
            rw [hun'] at this; cases this
        simp only [hwant, if_true]
        refine Or.inl (Oper.wp_mono ?_ (hs2 f w vs ctx hnone))
        rintro a' w' ⟨v, rfl, hG⟩
        have hcc : chain.contains i = true := by
          have := List.mem_of_getElem? hp
          simpa using this
        exact step v (vs.set p (some v)) w' hG (fun _ _ h => by rw [hcc] at h; cases h) (.inr ⟨p, hp, rfl⟩)
  have e0 : (⟨tmps.toArray, defers⟩ : Act) = ⟨((List.range tmps.toArray.size).map (fun d => tmps.toArray.getD d undef)).toArray, defers⟩ := by
    simp only [Act.mk.injEq, and_true]
    apply Array.ext_getElem?
    intro k
    by_cases hk : k < tmps.length <;> simp [hk]
  rw [e0]
  have nothing : ∀ i, ((List.replicate ops.size false).toArray).getD i false = false := fun i => by
    by_cases h : i < ops.size <;> simp [Array.getD, h]
  have nothing' : ∀ i, (Array.replicate ops.size false).getD i false = false := fun i => by
    by_cases h : i < ops.size <;> simp [Array.getD, h]
  refine main _ _ _ (List.replicate chain.length none) _ (by simp) ⟨by simp, fun _ _ => rfl, fun i d _ hi => ?_, fun p c hpc => ?_, fun p c d _ hp => ?_, by simp, fun i o _ hi => ?_, h0⟩
  · rw [nothing'] at hi; cases hi
  · rw [nothing']
    refine ⟨fun h => (by cases h), fun ⟨v, hv⟩ => ?_⟩
    have hp := (List.getElem?_eq_some_iff.1 hpc).1
    simp [hp] at hv
  · rw [nothing'] at hp; cases hp
  · rw [nothing'] at hi; cases hi

theorem wp_region_mem {id : Nat} {dr : Bool} {Q : Exit → Act → World → Prop} {tmps : List Value} {defers : List Deferred} {w0 : World} (chain : List Nat) (R : Nat → Value → Prop) (G : List (Option Value) → World → Prop) (m : List Bool)
    (hm : P.follows .mixedOrders = true) (hB : opsB ops tmps.length = true) (hnd : chain.Nodup) (hin : (chain.all fun c => Nat.blt c ops.size) = true) (hmask : maskOf ops tmps.length = m) (h0 : G (List.replicate chain.length none) (bif dr then w0.drew else w0))
    (h : SoundFromM P ops Q chain R G tmps.toArray defers 0 ops.toList)
    (hQ : ∀ (u : Nat → Value) (w : World) (vs : List (Option Value)), vs.length = chain.length → (∀ p, p < chain.length → ∃ v, vs[p]? = some (some v)) → G vs w → (∀ i d, (ops[i]?).bind (·.dst) = some d → chain.contains i = false → R i (u d)) → (∀ (p c d : Nat), chain[p]? = some c → (ops[c]?).bind (·.dst) = some d → vs[p]? = some (some (u d))) → Q .normal ⟨(finM u m 0 tmps).toArray, defers⟩ w) :
    (Code.region id ops dr).wp P Q ⟨tmps.toArray, defers⟩ w0 := by
  cases dr with
  | true => exact wp_region_any hm (wp_any_mem chain R G m hB hnd hin hmask h0 h hQ)
  | false => exact any_start hB (wp_any_mem chain R G m hB hnd hin hmask h0 h hQ)

end
end Go.Proofs.Ytlkiabgpnboicaa.Old

/- Two terms that calls make, each put into a box of its own: 'a, b := F(..), G(..)' where both are boxed. The calls, the boxes, the stores, in whatever order. -/
namespace Go.Proofs.Ytlkiabgpnboicaa.Old
set_option maxRecDepth 100000
open Go.RowKit Go

/-- Blocks that a call may leave, but for the two boxes. -/
def Fr (B N : Nat) (g1 g2 : Option Nat) (b : Nat) : Prop := New B N b ∧ g1 ≠ some b ∧ g2 ≠ some b
def ptr (g : Nat) : Value := .pointer (some ⟨g, 0, none⟩)

structure StG (B : Nat) (w0 : World) (a b : T) (c1 c2 a1 a2 s1 s2 : Option Value) (g1 g2 : Option Nat) (w : World) : Prop where
  le : B ≤ w0.heap.size
  below : Below w0.heap.size w0 w
  p1 : a1 = g1.map ptr
  p2 : a2 = g2.map ptr
  lo : ∀ g, g1 = some g ∨ g2 = some g → w0.heap.size ≤ g
  ne : ∀ g, g1 = some g → g2 ≠ some g
  b1 : ∀ g, g1 = some g → ∃ x y, Blk w g 27 #[x, y] ∧ (s1 ≠ none → c1 = some (.agg #[x, y]))
  b2 : ∀ g, g2 = some g → ∃ x y, Blk w g 27 #[x, y] ∧ (s2 ≠ none → c2 = some (.agg #[x, y]))
  v1 : ∀ v, c1 = some v → InT (Fr B w0.heap.size g1 g2) w a v
  v2 : ∀ v, c2 = some v → InT (Fr B w0.heap.size g1 g2) w b v

def TwoG (B : Nat) (w0 : World) (a b : T) : List (Option Value) → World → Prop
  | [c1, c2, a1, a2, s1, s2], w => ∃ g1 g2, StG B w0 a b c1 c2 a1 a2 s1 s2 g1 g2 w
  | _, _ => False

section
variable {B : Nat} {w0 w : World} {a b : T} {c1 c2 a1 a2 s1 s2 : Option Value} {g1 g2 : Option Nat}

theorem StG.lt (h : StG B w0 a b c1 c2 a1 a2 s1 s2 g1 g2 w) : ∀ g, g1 = some g ∨ g2 = some g → g < w.heap.size := by
  rintro g (e | e)
  · obtain ⟨_, _, hb, _⟩ := h.b1 g e; exact hb.lt
  · obtain ⟨_, _, hb, _⟩ := h.b2 g e; exact hb.lt

theorem StG.start (hle : B ≤ w0.heap.size) (hb : Below w0.heap.size w0 w) : StG B w0 a b none none none none none none none none w :=
  ⟨hle, hb, rfl, rfl, fun _ h => by simp at h, fun _ h => by simp at h, fun _ h => by simp at h, fun _ h => by simp at h, fun _ h => by simp at h, fun _ h => by simp at h⟩

theorem StG.fresh (h : StG B w0 a b c1 c2 a1 a2 s1 s2 g1 g2 w) {w' : World} {t : T} {v : Value} (hv : InT (New B w.heap.size) w' t v) : InT (Fr B w0.heap.size g1 g2) w' t v := by
  have hlt := h.lt
  have hlo := h.lo
  have hle := h.le
  have hsz := h.below.size
  refine hv.mono fun b hb _ => ⟨hb.imp id (fun h => by omega), fun e => ?_, fun e => ?_⟩
  · have := hlt b (.inl e); have := hlo b (.inl e); rcases hb with hb | hb <;> omega
  · have := hlt b (.inr e); have := hlo b (.inr e); rcases hb with hb | hb <;> omega

theorem StG.call1 {w' : World} {v : Value} (h : StG B w0 a b none c2 a1 a2 none s2 g1 g2 w) (hv : InT (New B w.heap.size) w' a v) (hb : Below w.heap.size w w') : StG B w0 a b (some v) c2 a1 a2 none s2 g1 g2 w' := by
  refine ⟨h.le, bstep h.below hb, h.p1, h.p2, h.lo, h.ne, fun g hg => ?_, fun g hg => ?_, fun v' hv' => ?_, fun v' hv' => (h.v2 v' hv').below hb⟩
  · obtain ⟨x, y, h1, _⟩ := h.b1 g hg; exact ⟨x, y, h1.below hb, fun e => absurd rfl e⟩
  · obtain ⟨x, y, h1, h2⟩ := h.b2 g hg; exact ⟨x, y, h1.below hb, h2⟩
  · simp only [Option.some.injEq] at hv'; subst hv'; exact h.fresh hv
theorem StG.call2 {w' : World} {v : Value} (h : StG B w0 a b c1 none a1 a2 s1 none g1 g2 w) (hv : InT (New B w.heap.size) w' b v) (hb : Below w.heap.size w w') : StG B w0 a b c1 (some v) a1 a2 s1 none g1 g2 w' := by
  refine ⟨h.le, bstep h.below hb, h.p1, h.p2, h.lo, h.ne, fun g hg => ?_, fun g hg => ?_, fun v' hv' => (h.v1 v' hv').below hb, fun v' hv' => ?_⟩
  · obtain ⟨x, y, h1, h2⟩ := h.b1 g hg; exact ⟨x, y, h1.below hb, h2⟩
  · obtain ⟨x, y, h1, _⟩ := h.b2 g hg; exact ⟨x, y, h1.below hb, fun e => absurd rfl e⟩
  · simp only [Option.some.injEq] at hv'; subst hv'; exact h.fresh hv

theorem StG.keepN (h : StG B w0 a b c1 c2 a1 a2 s1 s2 g1 g2 w) {o : Obj} {t : T} {v : Value} (hv : InT (Fr B w0.heap.size g1 g2) w t v) : InT (fun b => New B w0.heap.size b ∧ b < w.heap.size ∧ g1 ≠ some b ∧ g2 ≠ some b) (w.alloc o) t v :=
  (hv.mono fun b hb hlt => ⟨hb.1, hlt, hb.2⟩).below (balloc w o)

theorem StG.alloc1 {x y : Value} (h : StG B w0 a b c1 c2 none a2 none s2 g1 g2 w) : StG B w0 a b c1 c2 (some (ptr w.heap.size)) a2 none s2 (some w.heap.size) g2 (w.alloc (.cells #[x, y] 27)) := by
  have hb := balloc w (.cells #[x, y] 27)
  have hlt := h.lt
  have hsz := h.below.size
  refine ⟨h.le, bstep h.below hb, rfl, h.p2, ?_, ?_, fun g hg => ?_, fun g hg => ?_, fun v' hv' => ?_, fun v' hv' => ?_⟩
  · rintro g (e | e)
    · simp only [Option.some.injEq] at e; omega
    · exact h.lo g (.inr e)
  · intro g e e2; simp only [Option.some.injEq] at e; have := hlt g (.inr e2); omega
  · simp only [Option.some.injEq] at hg; subst hg; exact ⟨x, y, Blk.new' rfl, fun e => absurd rfl e⟩
  · obtain ⟨x', y', h1, h2⟩ := h.b2 g hg; exact ⟨x', y', h1.below hb, h2⟩
  · exact (h.keepN (h.v1 v' hv')).mono fun b hb _ => ⟨hb.1, fun e => by simp only [Option.some.injEq] at e; omega, hb.2.2.2⟩
  · exact (h.keepN (h.v2 v' hv')).mono fun b hb _ => ⟨hb.1, fun e => by simp only [Option.some.injEq] at e; omega, hb.2.2.2⟩
theorem StG.alloc2 {x y : Value} (h : StG B w0 a b c1 c2 a1 none s1 none g1 g2 w) : StG B w0 a b c1 c2 a1 (some (ptr w.heap.size)) s1 none g1 (some w.heap.size) (w.alloc (.cells #[x, y] 27)) := by
  have hb := balloc w (.cells #[x, y] 27)
  have hlt := h.lt
  have hsz := h.below.size
  refine ⟨h.le, bstep h.below hb, h.p1, rfl, ?_, ?_, fun g hg => ?_, fun g hg => ?_, fun v' hv' => ?_, fun v' hv' => ?_⟩
  · rintro g (e | e)
    · exact h.lo g (.inl e)
    · simp only [Option.some.injEq] at e; omega
  · intro g e e2; simp only [Option.some.injEq] at e2; have := hlt g (.inl e); omega
  · obtain ⟨x', y', h1, h2⟩ := h.b1 g hg; exact ⟨x', y', h1.below hb, h2⟩
  · simp only [Option.some.injEq] at hg; subst hg; exact ⟨x, y, Blk.new' rfl, fun e => absurd rfl e⟩
  · exact (h.keepN (h.v1 v' hv')).mono fun b hb _ => ⟨hb.1, hb.2.2.1, fun e => by simp only [Option.some.injEq] at e; omega⟩
  · exact (h.keepN (h.v2 v' hv')).mono fun b hb _ => ⟨hb.1, hb.2.2.1, fun e => by simp only [Option.some.injEq] at e; omega⟩

theorem InT.far2 {S : Nat → Prop} {g : Nat} {x y v : Value} {t : T} (hg : ¬ S g) (h : InT S w t v) : InT S ((w.setCell ⟨g, 0, none⟩ x).setCell ⟨g, 1, none⟩ y) t v := New.far hg rfl (New.far hg rfl h)

theorem StG.store1 {g : Nat} {x y q : Value} (h : StG B w0 a b (some (.agg #[x, y])) c2 a1 a2 none s2 (some g) g2 w) : StG B w0 a b (some (.agg #[x, y])) c2 a1 a2 (some q) s2 (some g) g2 ((w.setCell ⟨g, 0, none⟩ x).setCell ⟨g, 1, none⟩ y) := by
  have hlo := h.lo g (.inl rfl)
  obtain ⟨x', y', hB, _⟩ := h.b1 g rfl
  refine ⟨h.le, (h.below.setCell (p := ⟨g, 0, none⟩) hlo _).setCell (p := ⟨g, 1, none⟩) hlo _, h.p1, h.p2, h.lo, h.ne, fun g' hg => ?_, fun g' hg => ?_, fun v' hv' => (h.v1 v' hv').far2 (fun e => e.2.1 rfl), fun v' hv' => (h.v2 v' hv').far2 (fun e => e.2.1 rfl)⟩
  · simp only [Option.some.injEq] at hg; subst hg
    exact ⟨x, y, by simpa using (hB.set_ 0 x).set_ 1 y, fun _ => rfl⟩
  · obtain ⟨u, v, h1, h2⟩ := h.b2 g' hg
    have hne : g' ≠ g := fun e => h.ne g rfl (by rw [← e]; exact hg)
    exact ⟨u, v, (h1.far (p := ⟨g, 0, none⟩) (by simpa using hne) _).far (p := ⟨g, 1, none⟩) (by simpa using hne) _, h2⟩
theorem StG.store2 {g : Nat} {x y q : Value} (h : StG B w0 a b c1 (some (.agg #[x, y])) a1 a2 s1 none g1 (some g) w) : StG B w0 a b c1 (some (.agg #[x, y])) a1 a2 s1 (some q) g1 (some g) ((w.setCell ⟨g, 0, none⟩ x).setCell ⟨g, 1, none⟩ y) := by
  have hlo := h.lo g (.inr rfl)
  obtain ⟨x', y', hB, _⟩ := h.b2 g rfl
  refine ⟨h.le, (h.below.setCell (p := ⟨g, 0, none⟩) hlo _).setCell (p := ⟨g, 1, none⟩) hlo _, h.p1, h.p2, h.lo, h.ne, fun g' hg => ?_, fun g' hg => ?_, fun v' hv' => (h.v1 v' hv').far2 (fun e => e.2.2 rfl), fun v' hv' => (h.v2 v' hv').far2 (fun e => e.2.2 rfl)⟩
  · obtain ⟨u, v, h1, h2⟩ := h.b1 g' hg
    have hne : g' ≠ g := fun e => h.ne g' hg (by rw [e])
    exact ⟨u, v, (h1.far (p := ⟨g, 0, none⟩) (by simpa using hne) _).far (p := ⟨g, 1, none⟩) (by simpa using hne) _, h2⟩
  · simp only [Option.some.injEq] at hg; subst hg
    exact ⟨x, y, by simpa using (hB.set_ 0 x).set_ 1 y, fun _ => rfl⟩

theorem six {vs : List (Option Value)} (h : vs.length = 6) : ∃ a b c d e f, vs = [a, b, c, d, e, f] := by
  match vs, h with
  | [a, b, c, d, e, f], _ => exact ⟨a, b, c, d, e, f, rfl⟩

theorem TwoG.out {vs : List (Option Value)} (h : TwoG B w0 a b vs w) : ∃ c1 c2 a1 a2 s1 s2 g1 g2, vs = [c1, c2, a1, a2, s1, s2] ∧ StG B w0 a b c1 c2 a1 a2 s1 s2 g1 g2 w := by
  unfold TwoG at h
  split at h
  · obtain ⟨g1, g2, h⟩ := h
    exact ⟨_, _, _, _, _, _, g1, g2, rfl, h⟩
  · exact h.elim

theorem TwoG.below {vs : List (Option Value)} (h : TwoG B w0 a b vs w) : Below w0.heap.size w0 w := by
  obtain ⟨_, _, _, _, _, _, _, _, _, h⟩ := h.out
  exact h.below
theorem TwoG.le {vs : List (Option Value)} (h : TwoG B w0 a b vs w) : B ≤ w.heap.size := by
  obtain ⟨_, _, _, _, _, _, _, _, _, h⟩ := h.out
  have := h.le
  have := h.below.size
  omega

variable {av : Act} {K : Act → World → Prop} {Q : Exit → Act → World → Prop} {o : Oper}
theorem wp_allocT (ho : o.op = .alloc 27) (hK : K (av.put o.dst (.pointer (some ⟨w.heap.size, 0, none⟩))) (w.alloc (.cells #[.int .i64 0, .slice none 0 0] 27))) : o.wp Try.prog av w K Q := by
  unfold Oper.wp execOp
  simp only [ho]
  go_simp
  exact hK
theorem wp_storeTerm {x y : Operand} {g : Nat} {f : Int} {ra : Option Addr} {rn rc : Nat} {q0 q1 : Value} (ho : o.op = .store 27 x y) (hx : av.eval x = .pointer (some ⟨g, 0, none⟩)) (hy : av.eval y = .agg #[.int .i64 f, .slice ra rn rc]) (hB : Blk w g 27 #[q0, q1])
    (hK : ∀ v, K (av.put o.dst v) ((w.setCell ⟨g, 0, none⟩ (.int .i64 f)).setCell ⟨g, 1, none⟩ (.slice ra rn rc))) : o.wp Try.prog av w K Q := by
  have h0 := hB.cell 0
  have h1 := hB.cell 1
  have f0 := hB.frozen 0
  have f1 := hB.frozen 1
  simp only [List.getElem?_toArray, List.getElem?_cons_zero, List.getElem?_cons_succ] at h0 h1
  unfold Oper.wp execOp
  simp only [ho, hx, hy]
  go_simp
  exact hK _

theorem StG.store1_op {x y : Operand} {p v : Value} (h : StG B w0 a b c1 c2 a1 a2 none s2 g1 g2 w) (ho : o.op = .store 27 x y) (hc : c1 = some v) (ha : a1 = some p) (hx : av.eval x = p) (hy : av.eval y = v)
    (hK : ∀ q w', (∃ g1 g2, StG B w0 a b c1 c2 a1 a2 (some q) s2 g1 g2 w') → K (av.put o.dst q) w') : o.wp Try.prog av w K Q := by
  subst hc ha
  have hp := h.p1
  cases g1 with
  | none => cases hp
  | some g =>
    simp only [Option.map_some, Option.some.injEq] at hp
    subst hp
    obtain ⟨_, ra, rc, hv, _⟩ := (h.v1 v rfl).form
    subst hv
    obtain ⟨x0, y0, hB, _⟩ := h.b1 g rfl
    exact wp_storeTerm ho hx hy hB (fun q => hK q _ ⟨_, _, h.store1⟩)
theorem StG.store2_op {x y : Operand} {p v : Value} (h : StG B w0 a b c1 c2 a1 a2 s1 none g1 g2 w) (ho : o.op = .store 27 x y) (hc : c2 = some v) (ha : a2 = some p) (hx : av.eval x = p) (hy : av.eval y = v)
    (hK : ∀ q w', (∃ g1 g2, StG B w0 a b c1 c2 a1 a2 s1 (some q) g1 g2 w') → K (av.put o.dst q) w') : o.wp Try.prog av w K Q := by
  subst hc ha
  have hp := h.p2
  cases g2 with
  | none => cases hp
  | some g =>
    simp only [Option.map_some, Option.some.injEq] at hp
    subst hp
    obtain ⟨_, ra, rc, hv, _⟩ := (h.v2 v rfl).form
    subst hv
    obtain ⟨x0, y0, hB, _⟩ := h.b2 g rfl
    exact wp_storeTerm ho hx hy hB (fun q => hK q _ ⟨_, _, h.store2⟩)

/-- All is done. -/
theorem StG.end_ {q1 q2 p1 p2 u1 u2 : Value} (h : StG B w0 a b (some u1) (some u2) (some p1) (some p2) (some q1) (some q2) g1 g2 w) :
    ∃ g h' x y z r, p1 = .pointer (some ⟨g, 0, none⟩) ∧ p2 = .pointer (some ⟨h', 0, none⟩) ∧ Box w g [x, y] ∧ Box w h' [z, r] ∧ IsT w a (.agg #[x, y]) ∧ IsT w b (.agg #[z, r]) := by
  have e1 := h.p1
  have e2 := h.p2
  cases g1 with
  | none => cases e1
  | some g =>
    cases g2 with
    | none => cases e2
    | some h' =>
      simp only [Option.map_some, Option.some.injEq] at e1 e2
      obtain ⟨x, y, hB, hv⟩ := h.b1 g rfl
      obtain ⟨z, r, hB', hv'⟩ := h.b2 h' rfl
      have hv := hv (by simp)
      have hv' := hv' (by simp)
      simp only [Option.some.injEq] at hv hv'
      subst hv hv'
      exact ⟨g, h', x, y, z, r, e1, e2, fun i v hi => by rw [hB.cell]; simpa using hi, fun i v hi => by rw [hB'.cell]; simpa using hi, (h.v1 _ rfl).isT, (h.v2 _ rfl).isT⟩
end
end Go.Proofs.Ytlkiabgpnboicaa.Old

/- The walk through the law LpoStable. -/
namespace Go.Proofs.Ytlkiabgpnboicaa
open Go.RowKit Go

theorem two_end {B : Nat} {w0 w : World} {a b : T} {vs : List (Option Value)} (hlen : vs.length = 6) (hall : ∀ p, p < 6 → ∃ v, vs[p]? = some (some v)) (hG : Old.TwoG B w0 a b vs w) : ∃ (g h : Nat) (e1 e2 : Option Addr) (d1 d2 : Nat), vs[2]? = some (some (.pointer (some ⟨g, 0, none⟩))) ∧ vs[3]? = some (some (.pointer (some ⟨h, 0, none⟩))) ∧
    Blk w g 27 #[.int .i64 a.f, .slice e1 a.args.length d1] ∧ Blk w h 27 #[.int .i64 b.f, .slice e2 b.args.length d2] ∧ IsT w a (.agg #[.int .i64 a.f, .slice e1 a.args.length d1]) ∧ IsT w b (.agg #[.int .i64 b.f, .slice e2 b.args.length d2]) ∧ Below w0.heap.size w0 w := by
  obtain ⟨c1, c2, a1, a2, s1, s2, g1, g2, rfl, h⟩ := hG.out
  have h0 := hall 0 (by omega)
  have h1 := hall 1 (by omega)
  have h2 := hall 2 (by omega)
  have h3 := hall 3 (by omega)
  have h4 := hall 4 (by omega)
  have h5 := hall 5 (by omega)
  simp only [List.getElem?_cons_zero, List.getElem?_cons_succ, Option.some.injEq] at h0 h1 h2 h3 h4 h5
  obtain ⟨u1, rfl⟩ := h0
  obtain ⟨u2, rfl⟩ := h1
  obtain ⟨q1, rfl⟩ := h2
  obtain ⟨q2, rfl⟩ := h3
  obtain ⟨r1, rfl⟩ := h4
  obtain ⟨r2, rfl⟩ := h5
  have e1 := h.p1
  have e2 := h.p2
  cases g1 with
  | none => cases e1
  | some g =>
    cases g2 with
    | none => cases e2
    | some h' =>
      simp only [Option.map_some, Option.some.injEq] at e1 e2
      obtain ⟨x, y, hB, hv⟩ := h.b1 g rfl
      obtain ⟨z, r, hB', hv'⟩ := h.b2 h' rfl
      have hv := hv (by simp)
      have hv' := hv' (by simp)
      simp only [Option.some.injEq] at hv hv'
      subst hv hv'
      have t1 := Old.InT.isT (h.v1 _ rfl)
      have t2 := Old.InT.isT (h.v2 _ rfl)
      obtain ⟨_, ea, da, f1, _⟩ := t1.form
      obtain ⟨_, eb, db, f2, _⟩ := t2.form
      simp only [Value.agg.injEq, Array.mk.injEq, List.cons.injEq, and_true] at f1 f2
      obtain ⟨rfl, rfl⟩ := f1
      obtain ⟨rfl, rfl⟩ := f2
      refine ⟨g, h', ea, eb, da, db, ?_, ?_, hB, hB', t1, t2, h.below⟩
      · simp only [List.getElem?_cons_zero, List.getElem?_cons_succ, e1]; rfl
      · simp only [List.getElem?_cons_zero, List.getElem?_cons_succ, e2]; rfl
namespace T
mutual
theorem put_size {M : Nat} (hM : 1 ≤ M) {ls : List T} (h : ∀ x ∈ ls, size x ≤ M) : ∀ t : T, size (put ls t) ≤ size t * M
  | .mk f l => by
    rw [put]
    split
    · rw [List.getD_eq_getElem?_getD]
      cases hx : ls[(-1 - f).toNat]? with
      | none => simp only [Option.getD_none]; exact Nat.le_mul_of_pos_right _ (by omega)
      | some x =>
        have := h x (List.mem_of_getElem? hx)
        have h1 : 1 ≤ size (.mk f l) := by rw [size]; omega
        simp only [Option.getD_some]
        exact Nat.le_trans this (Nat.le_mul_of_pos_left _ (by omega))
    · rw [size, size, Nat.add_mul]
      have := putL_size hM h l
      omega
theorem putL_size {M : Nat} (hM : 1 ≤ M) {ls : List T} (h : ∀ x ∈ ls, size x ≤ M) : ∀ l : List T, sizeL (putL ls l) ≤ sizeL l * M
  | [] => by simp [putL, sizeL]
  | a :: r => by
    rw [putL, sizeL, sizeL, Nat.add_mul]
    have := put_size hM h a
    have := putL_size hM h r
    omega
end
end T
theorem put_at {t : T} {ls : List T} {w W : World} {v : Value} {al : Option Addr} {cl : Nat} (hz : t.size ≤ 4294967296) (ht : IsT w t v) (hl : IsTs w ls al 0) (hc : ls.length ≤ cl) (hm : cl ≤ maxLen) (hW : Below w.heap.size w W) :
    Calls Try.prog 17 #[v, .slice al ls.length cl] W fun e w' => ∃ v', e = .returned v' ∧ (Old.InT (Old.New w.heap.size W.heap.size) w' (t.put ls) v' ∧ Below W.heap.size W w') :=
  Old.put_any w.heap.size ls t W v al cl hz (Old.InT.old hW (Nat.le_refl _) (Old.IsT.inT ht)) (Old.InTs.old hW (Nat.le_refl _) (Old.IsTs.inTs hl)) hc hm hW.size
set_option maxRecDepth 100000 in
theorem stable_any (sg : List Sy) (o : Od) (s t : T) (l : List T) (w : World) (vs vo v1 v2 : Value) (al : Option Addr) (cl : Nat) (zs : s.size ≤ 1048576) (zt : t.size ≤ 1048576) (zl : T.sizeL l ≤ 1048576) (hst : IsSig w sg vs) (hot : IsOd w o vo) (hs : IsT w s v1) (ht : IsT w t v2) (hlc : l.length ≤ cl) (hlm : cl ≤ maxLen) (hl : IsTs w l al 0) :
    Calls Try.prog 6 #[vs, vo, v1, v2, .slice al l.length cl] w (Ret fun v' w' => v' = .bool true ∧ Below w.heap.size w w') := by
  have h0 := hst
  have h1 := hot
  have zs : s.size ≤ 4294967296 := by omega
  have zt : t.size ≤ 4294967296 := by omega
  have hlm2 := hlm
  unfold maxLen at hlm2
  obtain ⟨p1, p2, k1, k2, rfl, _, _, _, _, hp, _, _⟩ := h1
  obtain ⟨a, c, rfl, _, _, _⟩ := h0
  obtain ⟨_, es, ds, rfl, _, _, _⟩ := hs.form
  obtain ⟨_, et, dt, rfl, _, _, _⟩ := ht.form
  refine Calls.walk (l := [.agg #[.slice a sg.length c], .agg #[.bool o.lpo, .slice p1 o.prec.length k1, .slice p2 o.weights.length k2, .int .i64 o.var], .agg #[.int .i64 s.f, .slice es s.args.length ds], .agg #[.int .i64 t.f, .slice et t.args.length dt], .slice al l.length cl]) Try.func6 rfl (by kernel_rfl) ?_
  refine WC.sub (K' := [(0, .agg #[.slice a sg.length c]), (1, .agg #[.bool o.lpo, .slice p1 o.prec.length k1, .slice p2 o.weights.length k2, .int .i64 o.var]), (2, .agg #[.int .i64 s.f, .slice es s.args.length ds]), (3, .agg #[.int .i64 t.f, .slice et t.args.length dt]), (4, .slice al l.length cl)]) ⟨rfl, rfl, rfl, rfl, rfl, trivial⟩ ?_
  refine WC.seq ?_
  refine WC.region ?_
  refine WL.step (post := NewBlk w 35 #[.slice a sg.length c]) rfl rfl rfl (fun za zC zh zk => box_35 rfl (zh.ev rfl) (zk _ _ (newBlk _ _ _))) ?_
  rintro _ w1 ⟨g2, rfl, hg3, hB4, hb5, hz6⟩
  have hl7 : w.heap.size ≤ g2 := by omega
  refine WL.step (post := NewBlk w1 24 #[.bool o.lpo, .slice p1 o.prec.length k1, .slice p2 o.weights.length k2, .int .i64 o.var]) rfl rfl rfl (fun za zC zh zk => box_24 rfl (zh.ev rfl) (zk _ _ (newBlk _ _ _))) ?_
  rintro _ w8 ⟨g9, rfl, hg10, hB11, hb12, hz13⟩
  have hl14 : g2 < g9 := by have z1 := hB4.lt; omega
  have hl15 : w.heap.size ≤ g9 := by have z2 := (hb5).size; omega
  refine WL.step (post := NewBlk w8 27 #[.int .i64 s.f, .slice es s.args.length ds]) rfl rfl rfl (fun za zC zh zk => box_27 rfl (zh.ev rfl) (zk _ _ (newBlk _ _ _))) ?_
  rintro _ w16 ⟨g17, rfl, hg18, hB19, hb20, hz21⟩
  have hl22 : g2 < g17 := by have z1 := hB4.lt; have z2 := (hb12).size; omega
  have hl23 : g9 < g17 := by have z1 := hB11.lt; omega
  have hb24 : Below w.heap.size w w8 := (bstep hb5 hb12)
  have hl25 : w.heap.size ≤ g17 := by have z2 := (hb24).size; omega
  refine WL.step (post := NewBlk w16 27 #[.int .i64 t.f, .slice et t.args.length dt]) rfl rfl rfl (fun za zC zh zk => box_27 rfl (zh.ev rfl) (zk _ _ (newBlk _ _ _))) ?_
  rintro _ w26 ⟨g27, rfl, hg28, hB29, hb30, hz31⟩
  have hb32 : Below w1.heap.size w1 w16 := (bstep hb12 hb20)
  have hl33 : g2 < g27 := by have z1 := hB4.lt; have z2 := (hb32).size; omega
  have hl34 : g9 < g27 := by have z1 := hB11.lt; have z2 := (hb20).size; omega
  have hl35 : g17 < g27 := by have z1 := hB19.lt; omega
  have hb36 : Below w.heap.size w w16 := (bstep hb5 hb32)
  have hl37 : w.heap.size ≤ g27 := by have z2 := (hb36).size; omega
  refine WL.val (.bool false) rfl rfl rfl (fun za zC zh zk => wp_assign rfl (zh.ev rfl) zk) ?_
  refine WL.nil (WE.sub (K' := [(0, .agg #[.slice a sg.length c]), (1, .agg #[.bool o.lpo, .slice p1 o.prec.length k1, .slice p2 o.weights.length k2, .int .i64 o.var]), (2, .agg #[.int .i64 s.f, .slice es s.args.length ds]), (3, .agg #[.int .i64 t.f, .slice et t.args.length dt]), (4, .slice al l.length cl), (5, .pointer (some ⟨g2, 0, none⟩)), (6, .pointer (some ⟨g9, 0, none⟩)), (7, .pointer (some ⟨g17, 0, none⟩)), (8, .pointer (some ⟨g27, 0, none⟩)), (10, .bool false)]) ⟨rfl, rfl, rfl, rfl, rfl, rfl, rfl, rfl, rfl, rfl, trivial⟩ ?_)
  refine WE.next ?_
  refine WC.seq ?_
  refine WC.seq ?_
  have hB38 := hB19.below hb30
  have hb39 : Below w.heap.size w w26 := (bstep hb36 hb30)
  have hb41 : Below w1.heap.size w1 w26 := (bstep hb32 hb30)
  have hB40 := hB4.below hb41
  have hb43 : Below w8.heap.size w8 w26 := (bstep hb20 hb30)
  have hB42 := hB11.below hb43
  refine WC.opt [(true, .val (.agg #[.int .i64 s.f, .slice es s.args.length ds])), (true, .val (.agg #[.int .i64 t.f, .slice et t.args.length dt])), (true, .mem (TsOf [s, t]) (fun v w w' hb h => TsOf.bel h hb)), (true, .val (.bool ((greatB [s, t])))), (true, .val (.bool ((greatB [s, t])))), ((true && !(greatB [s, t])), .val (.slice al l.length cl)), ((true && !(greatB [s, t])), .val (.int .i64 (((l.length : Nat) : Int)))), ((true && !(greatB [s, t])), .val (.bool ((decide ((8 : Int) < (((l.length : Nat) : Int) : Int)))))), (true, .val (.bool (((greatB [s, t]) || (decide ((8 : Int) < (((l.length : Nat) : Int) : Int))))))), (true, .val (.bool (((greatB [s, t]) || (decide ((8 : Int) < (((l.length : Nat) : Int) : Int))))))), ((true && !((greatB [s, t]) || (decide ((8 : Int) < (((l.length : Nat) : Int) : Int))))), .val (.slice al l.length cl)), ((true && !((greatB [s, t]) || (decide ((8 : Int) < (((l.length : Nat) : Int) : Int))))), .val (.bool ((greatB l)))), (true, .val (.bool ((((greatB [s, t]) || (decide ((8 : Int) < (((l.length : Nat) : Int) : Int)))) || (greatB l))))), (true, .val (.bool ((((greatB [s, t]) || (decide ((8 : Int) < (((l.length : Nat) : Int) : Int)))) || (greatB l))))), ((true && !(((greatB [s, t]) || (decide ((8 : Int) < (((l.length : Nat) : Int) : Int)))) || (greatB l))), .val (.agg #[.slice a sg.length c])), ((true && !(((greatB [s, t]) || (decide ((8 : Int) < (((l.length : Nat) : Int) : Int)))) || (greatB l))), .val (.agg #[.bool o.lpo, .slice p1 o.prec.length k1, .slice p2 o.weights.length k2, .int .i64 o.var])), ((true && !(((greatB [s, t]) || (decide ((8 : Int) < (((l.length : Nat) : Int) : Int)))) || (greatB l))), .val (.agg #[.int .i64 s.f, .slice es s.args.length ds])), ((true && !(((greatB [s, t]) || (decide ((8 : Int) < (((l.length : Nat) : Int) : Int)))) || (greatB l))), .val (.agg #[.int .i64 t.f, .slice et t.args.length dt])), ((true && !(((greatB [s, t]) || (decide ((8 : Int) < (((l.length : Nat) : Int) : Int)))) || (greatB l))), .mem (TsOf [s, t]) (fun v w w' hb h => TsOf.bel h hb)), ((true && !(((greatB [s, t]) || (decide ((8 : Int) < (((l.length : Nat) : Int) : Int)))) || (greatB l))), .val (.bool ((fitsB sg o [s, t])))), ((true && !(((greatB [s, t]) || (decide ((8 : Int) < (((l.length : Nat) : Int) : Int)))) || (greatB l))), .val (.bool ((!(fitsB sg o [s, t]))))), (true, .val (.bool (((((greatB [s, t]) || (decide ((8 : Int) < (((l.length : Nat) : Int) : Int)))) || (greatB l)) || (!(fitsB sg o [s, t]))))))] [(0, .agg #[.slice a sg.length c]), (1, .agg #[.bool o.lpo, .slice p1 o.prec.length k1, .slice p2 o.weights.length k2, .int .i64 o.var]), (2, .agg #[.int .i64 s.f, .slice es s.args.length ds]), (3, .agg #[.int .i64 t.f, .slice et t.args.length dt]), (4, .slice al l.length cl), (5, .pointer (some ⟨g2, 0, none⟩)), (6, .pointer (some ⟨g9, 0, none⟩)), (7, .pointer (some ⟨g17, 0, none⟩)), (8, .pointer (some ⟨g27, 0, none⟩)), (10, .bool false)] ⟨rfl, rfl, rfl, rfl, rfl, rfl, rfl, rfl, rfl, rfl, trivial⟩ (by kernel_rfl) (by kernel_rfl) (by kernel_rfl) ?_ ?_
  · refine ⟨⟨true, .none rfl, fun h w => optUndef h, fun zβ za zw zc => ?_⟩, ?_⟩
    · exact ld_27 rfl (zc.kn.ev rfl) (bkeeps zc.below _ _ ((hB38.cell 0).trans rfl)) (bkeeps zc.below _ _ ((hB38.cell 1).trans rfl)) ⟨_, rfl, Below.refl _ _, optDef zβ rfl⟩
    refine ⟨⟨true, .none rfl, fun h w => optUndef h, fun zβ za zw zc => ?_⟩, ?_⟩
    · exact ld_27 rfl (zc.kn.ev rfl) (bkeeps zc.below _ _ ((hB29.cell 0).trans rfl)) (bkeeps zc.below _ _ ((hB29.cell 1).trans rfl)) ⟨_, rfl, Below.refl _ _, optDef zβ rfl⟩
    refine ⟨⟨true, .none rfl, fun h w => optUndef h, fun zβ za zw zc => ?_⟩, ?_⟩
    · exact row_25_2 rfl ((show za.eval (.tmp 13) = za.tmps.getD 13 undef from rfl).trans (optVal (zc.dep 0 13 (by kernel_rfl)) rfl rfl)) ((show za.eval (.tmp 14) = za.tmps.getD 14 undef from rfl).trans (optVal (zc.dep 1 14 (by kernel_rfl)) rfl rfl)) ⟨_, rfl, balloc _ _, optDef zβ (ts2 (IsT.below (bstep hb39 zc.below) hs) (IsT.below (bstep hb39 zc.below) ht))⟩
    refine ⟨⟨true, .none rfl, fun h w => optUndef h, fun zβ za zw zc => ?_⟩, ?_⟩
    · exact wp_call (by kernel_rfl) rfl (hv1 (show za.eval (.tmp 15) = za.tmps.getD 15 undef from rfl)) (great_ts (optMem (zc.dep 2 15 (by kernel_rfl)) rfl rfl)) (fun v w' h => ⟨v, rfl, h.2, optDef zβ h.1⟩)
    refine ⟨⟨true, .none rfl, fun h w => optUndef h, fun zβ za zw zc => ?_⟩, ?_⟩
    · exact wp_move rfl ((show za.eval (.tmp 16) = za.tmps.getD 16 undef from rfl).trans (optVal (zc.dep 3 16 (by kernel_rfl)) rfl rfl)) ⟨_, rfl, Below.refl _ _, optDef zβ rfl⟩
    refine ⟨⟨(true && !(greatB [s, t])), .no (c := (greatB [s, t])) (d := true) rfl (fun v w h => h), fun h w => optUndef h, fun zβ za zw zc => ?_⟩, ?_⟩
    · exact wp_move rfl (zc.kn.ev rfl) ⟨_, rfl, Below.refl _ _, optDef zβ rfl⟩
    refine ⟨⟨(true && !(greatB [s, t])), .no (c := (greatB [s, t])) (d := true) rfl (fun v w h => h), fun h w => optUndef h, fun zβ za zw zc => ?_⟩, ?_⟩
    · exact len_25 rfl ((show za.eval (.tmp 18) = za.tmps.getD 18 undef from rfl).trans (optVal (zc.dep 5 18 (by kernel_rfl)) rfl zβ)) ⟨_, rfl, Below.refl _ _, optDef zβ rfl⟩
    refine ⟨⟨(true && !(greatB [s, t])), .no (c := (greatB [s, t])) (d := true) rfl (fun v w h => h), fun h w => optUndef h, fun zβ za zw zc => ?_⟩, ?_⟩
    · exact gtr_3 rfl ((show za.eval (.tmp 19) = za.tmps.getD 19 undef from rfl).trans (optVal (zc.dep 6 19 (by kernel_rfl)) rfl zβ)) (zc.kn.ev rfl) ⟨_, rfl, Below.refl _ _, optDef zβ rfl⟩
    refine ⟨⟨true, .none rfl, fun h w => optUndef h, fun zβ za zw zc => ?_⟩, ?_⟩
    · exact wp_or rfl ((show za.eval (.tmp 17) = za.tmps.getD 17 undef from rfl).trans (optVal (zc.dep 4 17 (by kernel_rfl)) rfl rfl)) (fun hp => ((show za.eval (.tmp 20) = za.tmps.getD 20 undef from rfl).trans (optVal (zc.dep 7 20 (by kernel_rfl)) rfl (bMkN zβ hp)))) ⟨_, rfl, Below.refl _ _, optDef zβ rfl⟩
    refine ⟨⟨true, .none rfl, fun h w => optUndef h, fun zβ za zw zc => ?_⟩, ?_⟩
    · exact wp_move rfl ((show za.eval (.tmp 21) = za.tmps.getD 21 undef from rfl).trans (optVal (zc.dep 8 21 (by kernel_rfl)) rfl rfl)) ⟨_, rfl, Below.refl _ _, optDef zβ rfl⟩
    refine ⟨⟨(true && !((greatB [s, t]) || (decide ((8 : Int) < (((l.length : Nat) : Int) : Int))))), .no (c := ((greatB [s, t]) || (decide ((8 : Int) < (((l.length : Nat) : Int) : Int))))) (d := true) rfl (fun v w h => h), fun h w => optUndef h, fun zβ za zw zc => ?_⟩, ?_⟩
    · exact wp_move rfl (zc.kn.ev rfl) ⟨_, rfl, Below.refl _ _, optDef zβ rfl⟩
    refine ⟨⟨(true && !((greatB [s, t]) || (decide ((8 : Int) < (((l.length : Nat) : Int) : Int))))), .no (c := ((greatB [s, t]) || (decide ((8 : Int) < (((l.length : Nat) : Int) : Int))))) (d := true) rfl (fun v w h => h), fun h w => optUndef h, fun zβ za zw zc => ?_⟩, ?_⟩
    · exact wp_call (by kernel_rfl) rfl (hv1 ((show za.eval (.tmp 23) = za.tmps.getD 23 undef from rfl).trans (optVal (zc.dep 10 23 (by kernel_rfl)) rfl zβ))) (great_x l _ _ _ hlc hlm (IsTs.below (bstep hb39 zc.below) hl)) (fun v w' h => ⟨v, rfl, h.2, optDef zβ h.1⟩)
    refine ⟨⟨true, .none rfl, fun h w => optUndef h, fun zβ za zw zc => ?_⟩, ?_⟩
    · exact wp_or rfl ((show za.eval (.tmp 22) = za.tmps.getD 22 undef from rfl).trans (optVal (zc.dep 9 22 (by kernel_rfl)) rfl rfl)) (fun hp => ((show za.eval (.tmp 24) = za.tmps.getD 24 undef from rfl).trans (optVal (zc.dep 11 24 (by kernel_rfl)) rfl (bMkN zβ hp)))) ⟨_, rfl, Below.refl _ _, optDef zβ rfl⟩
    refine ⟨⟨true, .none rfl, fun h w => optUndef h, fun zβ za zw zc => ?_⟩, ?_⟩
    · exact wp_move rfl ((show za.eval (.tmp 25) = za.tmps.getD 25 undef from rfl).trans (optVal (zc.dep 12 25 (by kernel_rfl)) rfl rfl)) ⟨_, rfl, Below.refl _ _, optDef zβ rfl⟩
    refine ⟨⟨(true && !(((greatB [s, t]) || (decide ((8 : Int) < (((l.length : Nat) : Int) : Int)))) || (greatB l))), .no (c := (((greatB [s, t]) || (decide ((8 : Int) < (((l.length : Nat) : Int) : Int)))) || (greatB l))) (d := true) rfl (fun v w h => h), fun h w => optUndef h, fun zβ za zw zc => ?_⟩, ?_⟩
    · exact ld_35 rfl (zc.kn.ev rfl) (bkeeps zc.below _ _ ((hB40.cell 0).trans rfl)) ⟨_, rfl, Below.refl _ _, optDef zβ rfl⟩
    refine ⟨⟨(true && !(((greatB [s, t]) || (decide ((8 : Int) < (((l.length : Nat) : Int) : Int)))) || (greatB l))), .no (c := (((greatB [s, t]) || (decide ((8 : Int) < (((l.length : Nat) : Int) : Int)))) || (greatB l))) (d := true) rfl (fun v w h => h), fun h w => optUndef h, fun zβ za zw zc => ?_⟩, ?_⟩
    · exact ld_24 rfl (zc.kn.ev rfl) (bkeeps zc.below _ _ ((hB42.cell 0).trans rfl)) (bkeeps zc.below _ _ ((hB42.cell 1).trans rfl)) (bkeeps zc.below _ _ ((hB42.cell 2).trans rfl)) (bkeeps zc.below _ _ ((hB42.cell 3).trans rfl)) ⟨_, rfl, Below.refl _ _, optDef zβ rfl⟩
    refine ⟨⟨(true && !(((greatB [s, t]) || (decide ((8 : Int) < (((l.length : Nat) : Int) : Int)))) || (greatB l))), .no (c := (((greatB [s, t]) || (decide ((8 : Int) < (((l.length : Nat) : Int) : Int)))) || (greatB l))) (d := true) rfl (fun v w h => h), fun h w => optUndef h, fun zβ za zw zc => ?_⟩, ?_⟩
    · exact ld_27 rfl (zc.kn.ev rfl) (bkeeps zc.below _ _ ((hB38.cell 0).trans rfl)) (bkeeps zc.below _ _ ((hB38.cell 1).trans rfl)) ⟨_, rfl, Below.refl _ _, optDef zβ rfl⟩
    refine ⟨⟨(true && !(((greatB [s, t]) || (decide ((8 : Int) < (((l.length : Nat) : Int) : Int)))) || (greatB l))), .no (c := (((greatB [s, t]) || (decide ((8 : Int) < (((l.length : Nat) : Int) : Int)))) || (greatB l))) (d := true) rfl (fun v w h => h), fun h w => optUndef h, fun zβ za zw zc => ?_⟩, ?_⟩
    · exact ld_27 rfl (zc.kn.ev rfl) (bkeeps zc.below _ _ ((hB29.cell 0).trans rfl)) (bkeeps zc.below _ _ ((hB29.cell 1).trans rfl)) ⟨_, rfl, Below.refl _ _, optDef zβ rfl⟩
    refine ⟨⟨(true && !(((greatB [s, t]) || (decide ((8 : Int) < (((l.length : Nat) : Int) : Int)))) || (greatB l))), .no (c := (((greatB [s, t]) || (decide ((8 : Int) < (((l.length : Nat) : Int) : Int)))) || (greatB l))) (d := true) rfl (fun v w h => h), fun h w => optUndef h, fun zβ za zw zc => ?_⟩, ?_⟩
    · exact row_25_2 rfl ((show za.eval (.tmp 29) = za.tmps.getD 29 undef from rfl).trans (optVal (zc.dep 16 29 (by kernel_rfl)) rfl zβ)) ((show za.eval (.tmp 30) = za.tmps.getD 30 undef from rfl).trans (optVal (zc.dep 17 30 (by kernel_rfl)) rfl zβ)) ⟨_, rfl, balloc _ _, optDef zβ (ts2 (IsT.below (bstep hb39 zc.below) hs) (IsT.below (bstep hb39 zc.below) ht))⟩
    refine ⟨⟨(true && !(((greatB [s, t]) || (decide ((8 : Int) < (((l.length : Nat) : Int) : Int)))) || (greatB l))), .no (c := (((greatB [s, t]) || (decide ((8 : Int) < (((l.length : Nat) : Int) : Int)))) || (greatB l))) (d := true) rfl (fun v w h => h), fun h w => optUndef h, fun zβ za zw zc => ?_⟩, ?_⟩
    · exact wp_call (by kernel_rfl) rfl (hv3 ((show za.eval (.tmp 27) = za.tmps.getD 27 undef from rfl).trans (optVal (zc.dep 14 27 (by kernel_rfl)) rfl zβ)) ((show za.eval (.tmp 28) = za.tmps.getD 28 undef from rfl).trans (optVal (zc.dep 15 28 (by kernel_rfl)) rfl zβ)) (show za.eval (.tmp 31) = za.tmps.getD 31 undef from rfl)) (fits_ts (by intro x hx; simp only [List.mem_cons, List.not_mem_nil, or_false] at hx; rcases hx with rfl | rfl; exact zs; exact zt) (IsSig.below (bstep hb39 zc.below) hst) (hot.below (bstep hb39 zc.below)) (optMem (zc.dep 18 31 (by kernel_rfl)) rfl zβ)) (fun v w' h => ⟨v, rfl, h.2, optDef zβ h.1⟩)
    refine ⟨⟨(true && !(((greatB [s, t]) || (decide ((8 : Int) < (((l.length : Nat) : Int) : Int)))) || (greatB l))), .no (c := (((greatB [s, t]) || (decide ((8 : Int) < (((l.length : Nat) : Int) : Int)))) || (greatB l))) (d := true) rfl (fun v w h => h), fun h w => optUndef h, fun zβ za zw zc => ?_⟩, ?_⟩
    · exact wp_not rfl ((show za.eval (.tmp 32) = za.tmps.getD 32 undef from rfl).trans (optVal (zc.dep 19 32 (by kernel_rfl)) rfl zβ)) ⟨_, rfl, Below.refl _ _, optDef zβ rfl⟩
    refine ⟨⟨true, .none rfl, fun h w => optUndef h, fun zβ za zw zc => ?_⟩, ?_⟩
    · exact wp_or rfl ((show za.eval (.tmp 26) = za.tmps.getD 26 undef from rfl).trans (optVal (zc.dep 13 26 (by kernel_rfl)) rfl rfl)) (fun hp => ((show za.eval (.tmp 33) = za.tmps.getD 33 undef from rfl).trans (optVal (zc.dep 20 33 (by kernel_rfl)) rfl (bMkN zβ hp)))) ⟨_, rfl, Below.refl _ _, optDef zβ rfl⟩
    exact trivial
  · intro za w44 zh hb45 zu
    have zh := zh.cons (d := 34) (v := .bool (((((greatB [s, t]) || (decide ((8 : Int) < (((l.length : Nat) : Int) : Int)))) || (greatB l)) || (!(fitsB sg o [s, t]))))) (optVal (zu 21 34 (by kernel_rfl)) rfl rfl)
    clear zu
    refine (show WE _ [(0, .agg #[.slice a sg.length c]), (1, .agg #[.bool o.lpo, .slice p1 o.prec.length k1, .slice p2 o.weights.length k2, .int .i64 o.var]), (2, .agg #[.int .i64 s.f, .slice es s.args.length ds]), (3, .agg #[.int .i64 t.f, .slice et t.args.length dt]), (4, .slice al l.length cl), (5, .pointer (some ⟨g2, 0, none⟩)), (6, .pointer (some ⟨g9, 0, none⟩)), (7, .pointer (some ⟨g17, 0, none⟩)), (8, .pointer (some ⟨g27, 0, none⟩)), (10, .bool false), (34, .bool (((((greatB [s, t]) || (decide ((8 : Int) < (((l.length : Nat) : Int) : Int)))) || (greatB l)) || (!(fitsB sg o [s, t])))))] w44 _ .normal from ?_) za (zh.sub ⟨rfl, rfl, rfl, rfl, rfl, rfl, rfl, rfl, rfl, rfl, rfl, trivial⟩)
    refine WE.next ?_
    refine WC.cond rfl (fun h46 => ?_) (fun h46 => ?_)
    · have h46 : ((((greatB [s, t]) = true) ∨ ((8 : Int) < (((l.length : Nat) : Int) : Int))) ∨ ((greatB l) = true)) ∨ (¬ ((fitsB sg o [s, t]) = true)) := by simpa using h46
      refine WC.seq ?_
      refine WC.region ?_
      refine WL.call rfl rfl rfl (fun za zh zC => wp_call (by kernel_rfl) rfl (hv0)) (wakes_any _) ?_
      rintro _ w47 ⟨rfl, hbw⟩
      refine WL.val (.bool true) rfl rfl rfl (fun za zC zh zk => wp_assign rfl (zh.ev rfl) zk) ?_
      refine WL.nil (WE.sub (K' := [(0, .agg #[.slice a sg.length c]), (1, .agg #[.bool o.lpo, .slice p1 o.prec.length k1, .slice p2 o.weights.length k2, .int .i64 o.var]), (2, .agg #[.int .i64 s.f, .slice es s.args.length ds]), (3, .agg #[.int .i64 t.f, .slice et t.args.length dt]), (4, .slice al l.length cl), (5, .pointer (some ⟨g2, 0, none⟩)), (6, .pointer (some ⟨g9, 0, none⟩)), (7, .pointer (some ⟨g17, 0, none⟩)), (8, .pointer (some ⟨g27, 0, none⟩)), (10, .bool true), (34, .bool (((((greatB [s, t]) || (decide ((8 : Int) < (((l.length : Nat) : Int) : Int)))) || (greatB l)) || (!(fitsB sg o [s, t])))))]) ⟨rfl, rfl, rfl, rfl, rfl, rfl, rfl, rfl, rfl, rfl, rfl, trivial⟩ ?_)
      refine WE.next ?_
      refine WC.ret ?_
      refine WE.thenRet ?_
      refine WE.ret1 rfl rfl ?_
      have hb48 : Below w.heap.size w w47 := (bstep (bstep hb39 hb45) hbw)
      exact ⟨_, rfl, congrArg Value.bool (rfl), hb48⟩
    · have h46 : ¬ (((((greatB [s, t]) = true) ∨ ((8 : Int) < (((l.length : Nat) : Int) : Int))) ∨ ((greatB l) = true)) ∨ (¬ ((fitsB sg o [s, t]) = true))) := by simpa using h46
      have hF := fitsB_of (sg := sg) (o := o) (l := [s, t]) (by have z := h46; simp at z; exact z.2)
      refine WC.skip ?_
      refine WE.next ?_
      refine WC.seq ?_
      have hB49 := hB38.below hb45
      have hb50 : Below w.heap.size w w44 := (bstep hb39 hb45)
      have hB51 := hB29.below hb45
      refine WC.gen [2, 5, 6, 7, 8, 9] (fun i v _ => valR [(true, .agg #[.int .i64 s.f, .slice es s.args.length ds]), (true, .slice al l.length cl), (true, undef), (true, .agg #[.int .i64 t.f, .slice et t.args.length dt]), (true, .slice al l.length cl), (true, undef), (true, undef), (true, undef), (true, undef), (true, undef)] i v) (fun _ _ => True) (Old.TwoG w.heap.size w44 (s.put l) (t.put l)) [(0, .agg #[.slice a sg.length c]), (1, .agg #[.bool o.lpo, .slice p1 o.prec.length k1, .slice p2 o.weights.length k2, .int .i64 o.var]), (2, .agg #[.int .i64 s.f, .slice es s.args.length ds]), (3, .agg #[.int .i64 t.f, .slice et t.args.length dt]), (4, .slice al l.length cl), (5, .pointer (some ⟨g2, 0, none⟩)), (6, .pointer (some ⟨g9, 0, none⟩)), (7, .pointer (some ⟨g17, 0, none⟩)), (8, .pointer (some ⟨g27, 0, none⟩)), (10, .bool false), (34, .bool (((((greatB [s, t]) || (decide ((8 : Int) < (((l.length : Nat) : Int) : Int)))) || (greatB l)) || (!(fitsB sg o [s, t])))))] ⟨rfl, rfl, rfl, rfl, rfl, rfl, rfl, rfl, rfl, rfl, rfl, trivial⟩ (by kernel_rfl) (by kernel_rfl) (by kernel_rfl) (by decide) (by kernel_rfl) (fun _ _ _ _ h _ => h) ⟨none, none, Old.StG.start (hb50).size (Below.refl _ _).drew⟩ ?_ ?_
      · refine ⟨.inl ⟨by decide, true, .none rfl, (fun gg b h => by cases h), (fun h => by cases h), fun _ za zw zvs zc => ?_⟩, ?_⟩
        · exact ld_27 rfl (zc.kn.ev rfl) (bkeeps zc.now.below _ _ ((hB49.cell 0).trans rfl)) (bkeeps zc.now.below _ _ ((hB49.cell 1).trans rfl)) ⟨_, rfl, trivial, zc.now, optDef rfl rfl⟩
        refine ⟨.inl ⟨by decide, true, .none rfl, (fun gg b h => by cases h), (fun h => by cases h), fun _ za zw zvs zc => ?_⟩, ?_⟩
        · exact wp_move rfl (zc.kn.ev rfl) ⟨_, rfl, trivial, zc.now, optDef rfl rfl⟩
        refine ⟨.inr ⟨0, rfl, rfl, fun za zw zvs zc hnone => ?_⟩, ?_⟩
        · obtain ⟨c1, c2, a1, a2, s1, s2, g1, g2, rfl, h⟩ := zc.now.out
          obtain rfl : c1 = none := by simpa using hnone
          obtain rfl : s1 = none := by simpa using zc.most 4 8 rfl (by kernel_rfl)
          exact wp_call (by kernel_rfl) rfl (hv2 ((show za.eval (.tmp 36) = za.tmps.getD 36 undef from rfl).trans (valVal (zc.dep 0 36 (by kernel_rfl) (by decide)) rfl rfl)) ((show za.eval (.tmp 37) = za.tmps.getD 37 undef from rfl).trans (valVal (zc.dep 1 37 (by kernel_rfl) (by decide)) rfl rfl))) (put_at zs hs hl hlc hlm (bstep hb50 zc.now.below)) (fun v w' hv => ⟨v, rfl, trivial, ⟨g1, g2, h.call1 hv.1 hv.2⟩⟩)
        refine ⟨.inl ⟨by decide, true, .none rfl, (fun gg b h => by cases h), (fun h => by cases h), fun _ za zw zvs zc => ?_⟩, ?_⟩
        · exact ld_27 rfl (zc.kn.ev rfl) (bkeeps zc.now.below _ _ ((hB51.cell 0).trans rfl)) (bkeeps zc.now.below _ _ ((hB51.cell 1).trans rfl)) ⟨_, rfl, trivial, zc.now, optDef rfl rfl⟩
        refine ⟨.inl ⟨by decide, true, .none rfl, (fun gg b h => by cases h), (fun h => by cases h), fun _ za zw zvs zc => ?_⟩, ?_⟩
        · exact wp_move rfl (zc.kn.ev rfl) ⟨_, rfl, trivial, zc.now, optDef rfl rfl⟩
        refine ⟨.inr ⟨1, rfl, rfl, fun za zw zvs zc hnone => ?_⟩, ?_⟩
        · obtain ⟨c1, c2, a1, a2, s1, s2, g1, g2, rfl, h⟩ := zc.now.out
          obtain rfl : c2 = none := by simpa using hnone
          obtain rfl : s2 = none := by simpa using zc.most 5 9 rfl (by kernel_rfl)
          exact wp_call (by kernel_rfl) rfl (hv2 ((show za.eval (.tmp 39) = za.tmps.getD 39 undef from rfl).trans (valVal (zc.dep 3 39 (by kernel_rfl) (by decide)) rfl rfl)) ((show za.eval (.tmp 40) = za.tmps.getD 40 undef from rfl).trans (valVal (zc.dep 4 40 (by kernel_rfl) (by decide)) rfl rfl))) (put_at zt ht hl hlc hlm (bstep hb50 zc.now.below)) (fun v w' hv => ⟨v, rfl, trivial, ⟨g1, g2, h.call2 hv.1 hv.2⟩⟩)
        refine ⟨.inr ⟨2, rfl, rfl, fun za zw zvs zc hnone => ?_⟩, ?_⟩
        · obtain ⟨c1, c2, a1, a2, s1, s2, g1, g2, rfl, h⟩ := zc.now.out
          obtain rfl : a1 = none := by simpa using hnone
          obtain rfl : s1 = none := by simpa using zc.most 4 8 rfl (by kernel_rfl)
          exact Old.wp_allocT rfl ⟨_, rfl, trivial, ⟨_, g2, h.alloc1⟩⟩
        refine ⟨.inr ⟨3, rfl, rfl, fun za zw zvs zc hnone => ?_⟩, ?_⟩
        · obtain ⟨c1, c2, a1, a2, s1, s2, g1, g2, rfl, h⟩ := zc.now.out
          obtain rfl : a2 = none := by simpa using hnone
          obtain rfl : s2 = none := by simpa using zc.most 5 9 rfl (by kernel_rfl)
          exact Old.wp_allocT rfl ⟨_, rfl, trivial, ⟨g1, _, h.alloc2⟩⟩
        refine ⟨.inr ⟨4, rfl, rfl, fun za zw zvs zc hnone => ?_⟩, ?_⟩
        · obtain ⟨c1, c2, a1, a2, s1, s2, g1, g2, rfl, h⟩ := zc.now.out
          obtain rfl : s1 = none := by simpa using hnone
          have l0 := zc.link 2 6 11 rfl (by kernel_rfl)
          have l1 := zc.link 0 2 38 rfl (by kernel_rfl)
          exact h.store1_op rfl (Option.some.inj l1) (Option.some.inj l0) rfl rfl (fun q w' hq => ⟨q, rfl, trivial, hq⟩)
        refine ⟨.inr ⟨5, rfl, rfl, fun za zw zvs zc hnone => ?_⟩, ?_⟩
        · obtain ⟨c1, c2, a1, a2, s1, s2, g1, g2, rfl, h⟩ := zc.now.out
          obtain rfl : s2 = none := by simpa using hnone
          have l0 := zc.link 3 7 12 rfl (by kernel_rfl)
          have l1 := zc.link 1 5 41 rfl (by kernel_rfl)
          exact h.store2_op rfl (Option.some.inj l1) (Option.some.inj l0) rfl rfl (fun q w' hq => ⟨q, rfl, trivial, hq⟩)
        exact trivial
      · intro za w3 vs zh hlen hall hG hu hch
        obtain ⟨ga, gb, ea, eb, da, db, e1, e2, hA1, hA2, hta, htb, hb3⟩ := two_end hlen hall hG
        have za2 : (s.put l).size ≤ 4294967296 ∧ (t.put l).size ≤ 4294967296 := by
          have q1 := T.check_ok (hF.2.2 s (by simp))
          have q2 := T.check_ok (hF.2.2 t (by simp))
          have hm : ∀ x ∈ l, x.size ≤ 1048576 := fun x hx => Nat.le_trans (T.size_le_sizeL hx) zl
          have r1 := T.put_size (M := 1048576) (by omega) hm s
          have r2 := T.put_size (M := 1048576) (by omega) hm t
          have := q1.2
          have := q2.2
          omega
        have zh := zh.cons (d := 11) (v := .pointer (some ⟨ga, 0, none⟩)) (by have z := hch 2 6 11 rfl (by kernel_rfl); rw [e1] at z; simpa using z.symm)
        have zh := zh.cons (d := 12) (v := .pointer (some ⟨gb, 0, none⟩)) (by have z := hch 3 7 12 rfl (by kernel_rfl); rw [e2] at z; simpa using z.symm)
        clear hu hch hG hall
        refine (show WE _ [(0, .agg #[.slice a sg.length c]), (1, .agg #[.bool o.lpo, .slice p1 o.prec.length k1, .slice p2 o.weights.length k2, .int .i64 o.var]), (2, .agg #[.int .i64 s.f, .slice es s.args.length ds]), (3, .agg #[.int .i64 t.f, .slice et t.args.length dt]), (4, .slice al l.length cl), (5, .pointer (some ⟨g2, 0, none⟩)), (6, .pointer (some ⟨g9, 0, none⟩)), (7, .pointer (some ⟨g17, 0, none⟩)), (8, .pointer (some ⟨g27, 0, none⟩)), (10, .bool false), (11, .pointer (some ⟨ga, 0, none⟩)), (12, .pointer (some ⟨gb, 0, none⟩)), (34, .bool (((((greatB [s, t]) || (decide ((8 : Int) < (((l.length : Nat) : Int) : Int)))) || (greatB l)) || (!(fitsB sg o [s, t])))))] w3 _ .normal from ?_) za (zh.sub ⟨rfl, rfl, rfl, rfl, rfl, rfl, rfl, rfl, rfl, rfl, rfl, rfl, rfl, trivial⟩)
        refine WE.next ?_
        refine WC.seq ?_
        refine WC.seq ?_
        have hb53 : Below w26.heap.size w26 w3 := (bstep hb45 hb3)
        have hB52 := hB40.below hb53
        have hB54 := hB42.below hb53
        have hb55 : Below w.heap.size w w3 := (bstep hb39 hb53)
        have hB56 := hB49.below hb3
        have hB57 := hB51.below hb3
        refine WC.opt [(true, .val (.agg #[.int .i64 ((s.put l).f), .slice ea ((s.put l).args.length) da])), (true, .val (.agg #[.int .i64 ((t.put l).f), .slice eb ((t.put l).args.length) db])), (true, .mem (TsOf [s.put l, t.put l]) (fun v w w' hb h => TsOf.bel h hb)), (true, .val (.bool ((greatB [s.put l, t.put l])))), (true, .val (.bool ((greatB [s.put l, t.put l])))), ((true && !(greatB [s.put l, t.put l])), .val (.agg #[.slice a sg.length c])), ((true && !(greatB [s.put l, t.put l])), .val (.agg #[.bool o.lpo, .slice p1 o.prec.length k1, .slice p2 o.weights.length k2, .int .i64 o.var])), ((true && !(greatB [s.put l, t.put l])), .val (.agg #[.int .i64 ((s.put l).f), .slice ea ((s.put l).args.length) da])), ((true && !(greatB [s.put l, t.put l])), .val (.agg #[.int .i64 ((t.put l).f), .slice eb ((t.put l).args.length) db])), ((true && !(greatB [s.put l, t.put l])), .mem (TsOf [s.put l, t.put l]) (fun v w w' hb h => TsOf.bel h hb)), ((true && !(greatB [s.put l, t.put l])), .val (.bool ((fitsB sg o [s.put l, t.put l])))), ((true && !(greatB [s.put l, t.put l])), .val (.bool ((!(fitsB sg o [s.put l, t.put l]))))), (true, .val (.bool (((greatB [s.put l, t.put l]) || (!(fitsB sg o [s.put l, t.put l])))))), (true, .val (.bool (((greatB [s.put l, t.put l]) || (!(fitsB sg o [s.put l, t.put l])))))), ((true && !((greatB [s.put l, t.put l]) || (!(fitsB sg o [s.put l, t.put l])))), .val (.agg #[.bool o.lpo, .slice p1 o.prec.length k1, .slice p2 o.weights.length k2, .int .i64 o.var])), ((true && !((greatB [s.put l, t.put l]) || (!(fitsB sg o [s.put l, t.put l])))), .val (.agg #[.int .i64 s.f, .slice es s.args.length ds])), ((true && !((greatB [s.put l, t.put l]) || (!(fitsB sg o [s.put l, t.put l])))), .val (.agg #[.int .i64 t.f, .slice et t.args.length dt])), ((true && !((greatB [s.put l, t.put l]) || (!(fitsB sg o [s.put l, t.put l])))), .val (.bool ((o.lcmp s t == 3)))), ((true && !((greatB [s.put l, t.put l]) || (!(fitsB sg o [s.put l, t.put l])))), .val (.bool ((!(o.lcmp s t == 3))))), (true, .val (.bool ((((greatB [s.put l, t.put l]) || (!(fitsB sg o [s.put l, t.put l]))) || (!(o.lcmp s t == 3))))))] [(0, .agg #[.slice a sg.length c]), (1, .agg #[.bool o.lpo, .slice p1 o.prec.length k1, .slice p2 o.weights.length k2, .int .i64 o.var]), (2, .agg #[.int .i64 s.f, .slice es s.args.length ds]), (3, .agg #[.int .i64 t.f, .slice et t.args.length dt]), (4, .slice al l.length cl), (5, .pointer (some ⟨g2, 0, none⟩)), (6, .pointer (some ⟨g9, 0, none⟩)), (7, .pointer (some ⟨g17, 0, none⟩)), (8, .pointer (some ⟨g27, 0, none⟩)), (10, .bool false), (11, .pointer (some ⟨ga, 0, none⟩)), (12, .pointer (some ⟨gb, 0, none⟩)), (34, .bool (((((greatB [s, t]) || (decide ((8 : Int) < (((l.length : Nat) : Int) : Int)))) || (greatB l)) || (!(fitsB sg o [s, t])))))] ⟨rfl, rfl, rfl, rfl, rfl, rfl, rfl, rfl, rfl, rfl, rfl, rfl, rfl, trivial⟩ (by kernel_rfl) (by kernel_rfl) (by kernel_rfl) ?_ ?_
        · refine ⟨⟨true, .none rfl, fun h w => optUndef h, fun zβ za zw zc => ?_⟩, ?_⟩
          · exact ld_27 rfl (zc.kn.ev rfl) (bkeeps zc.below _ _ ((hA1.cell 0).trans rfl)) (bkeeps zc.below _ _ ((hA1.cell 1).trans rfl)) ⟨_, rfl, Below.refl _ _, optDef zβ rfl⟩
          refine ⟨⟨true, .none rfl, fun h w => optUndef h, fun zβ za zw zc => ?_⟩, ?_⟩
          · exact ld_27 rfl (zc.kn.ev rfl) (bkeeps zc.below _ _ ((hA2.cell 0).trans rfl)) (bkeeps zc.below _ _ ((hA2.cell 1).trans rfl)) ⟨_, rfl, Below.refl _ _, optDef zβ rfl⟩
          refine ⟨⟨true, .none rfl, fun h w => optUndef h, fun zβ za zw zc => ?_⟩, ?_⟩
          · exact row_25_2 rfl ((show za.eval (.tmp 42) = za.tmps.getD 42 undef from rfl).trans (optVal (zc.dep 0 42 (by kernel_rfl)) rfl rfl)) ((show za.eval (.tmp 43) = za.tmps.getD 43 undef from rfl).trans (optVal (zc.dep 1 43 (by kernel_rfl)) rfl rfl)) ⟨_, rfl, balloc _ _, optDef zβ (ts2 (IsT.below zc.below hta) (IsT.below zc.below htb))⟩
          refine ⟨⟨true, .none rfl, fun h w => optUndef h, fun zβ za zw zc => ?_⟩, ?_⟩
          · exact wp_call (by kernel_rfl) rfl (hv1 (show za.eval (.tmp 44) = za.tmps.getD 44 undef from rfl)) (great_ts (optMem (zc.dep 2 44 (by kernel_rfl)) rfl rfl)) (fun v w' h => ⟨v, rfl, h.2, optDef zβ h.1⟩)
          refine ⟨⟨true, .none rfl, fun h w => optUndef h, fun zβ za zw zc => ?_⟩, ?_⟩
          · exact wp_move rfl ((show za.eval (.tmp 45) = za.tmps.getD 45 undef from rfl).trans (optVal (zc.dep 3 45 (by kernel_rfl)) rfl rfl)) ⟨_, rfl, Below.refl _ _, optDef zβ rfl⟩
          refine ⟨⟨(true && !(greatB [s.put l, t.put l])), .no (c := (greatB [s.put l, t.put l])) (d := true) rfl (fun v w h => h), fun h w => optUndef h, fun zβ za zw zc => ?_⟩, ?_⟩
          · exact ld_35 rfl (zc.kn.ev rfl) (bkeeps zc.below _ _ ((hB52.cell 0).trans rfl)) ⟨_, rfl, Below.refl _ _, optDef zβ rfl⟩
          refine ⟨⟨(true && !(greatB [s.put l, t.put l])), .no (c := (greatB [s.put l, t.put l])) (d := true) rfl (fun v w h => h), fun h w => optUndef h, fun zβ za zw zc => ?_⟩, ?_⟩
          · exact ld_24 rfl (zc.kn.ev rfl) (bkeeps zc.below _ _ ((hB54.cell 0).trans rfl)) (bkeeps zc.below _ _ ((hB54.cell 1).trans rfl)) (bkeeps zc.below _ _ ((hB54.cell 2).trans rfl)) (bkeeps zc.below _ _ ((hB54.cell 3).trans rfl)) ⟨_, rfl, Below.refl _ _, optDef zβ rfl⟩
          refine ⟨⟨(true && !(greatB [s.put l, t.put l])), .no (c := (greatB [s.put l, t.put l])) (d := true) rfl (fun v w h => h), fun h w => optUndef h, fun zβ za zw zc => ?_⟩, ?_⟩
          · exact ld_27 rfl (zc.kn.ev rfl) (bkeeps zc.below _ _ ((hA1.cell 0).trans rfl)) (bkeeps zc.below _ _ ((hA1.cell 1).trans rfl)) ⟨_, rfl, Below.refl _ _, optDef zβ rfl⟩
          refine ⟨⟨(true && !(greatB [s.put l, t.put l])), .no (c := (greatB [s.put l, t.put l])) (d := true) rfl (fun v w h => h), fun h w => optUndef h, fun zβ za zw zc => ?_⟩, ?_⟩
          · exact ld_27 rfl (zc.kn.ev rfl) (bkeeps zc.below _ _ ((hA2.cell 0).trans rfl)) (bkeeps zc.below _ _ ((hA2.cell 1).trans rfl)) ⟨_, rfl, Below.refl _ _, optDef zβ rfl⟩
          refine ⟨⟨(true && !(greatB [s.put l, t.put l])), .no (c := (greatB [s.put l, t.put l])) (d := true) rfl (fun v w h => h), fun h w => optUndef h, fun zβ za zw zc => ?_⟩, ?_⟩
          · exact row_25_2 rfl ((show za.eval (.tmp 49) = za.tmps.getD 49 undef from rfl).trans (optVal (zc.dep 7 49 (by kernel_rfl)) rfl zβ)) ((show za.eval (.tmp 50) = za.tmps.getD 50 undef from rfl).trans (optVal (zc.dep 8 50 (by kernel_rfl)) rfl zβ)) ⟨_, rfl, balloc _ _, optDef zβ (ts2 (IsT.below zc.below hta) (IsT.below zc.below htb))⟩
          refine ⟨⟨(true && !(greatB [s.put l, t.put l])), .no (c := (greatB [s.put l, t.put l])) (d := true) rfl (fun v w h => h), fun h w => optUndef h, fun zβ za zw zc => ?_⟩, ?_⟩
          · exact wp_call (by kernel_rfl) rfl (hv3 ((show za.eval (.tmp 47) = za.tmps.getD 47 undef from rfl).trans (optVal (zc.dep 5 47 (by kernel_rfl)) rfl zβ)) ((show za.eval (.tmp 48) = za.tmps.getD 48 undef from rfl).trans (optVal (zc.dep 6 48 (by kernel_rfl)) rfl zβ)) (show za.eval (.tmp 51) = za.tmps.getD 51 undef from rfl)) (fits_ts (by intro x hx; simp only [List.mem_cons, List.not_mem_nil, or_false] at hx; rcases hx with rfl | rfl; exact za2.1; exact za2.2) (IsSig.below (bstep hb55 zc.below) hst) (hot.below (bstep hb55 zc.below)) (optMem (zc.dep 9 51 (by kernel_rfl)) rfl zβ)) (fun v w' h => ⟨v, rfl, h.2, optDef zβ h.1⟩)
          refine ⟨⟨(true && !(greatB [s.put l, t.put l])), .no (c := (greatB [s.put l, t.put l])) (d := true) rfl (fun v w h => h), fun h w => optUndef h, fun zβ za zw zc => ?_⟩, ?_⟩
          · exact wp_not rfl ((show za.eval (.tmp 52) = za.tmps.getD 52 undef from rfl).trans (optVal (zc.dep 10 52 (by kernel_rfl)) rfl zβ)) ⟨_, rfl, Below.refl _ _, optDef zβ rfl⟩
          refine ⟨⟨true, .none rfl, fun h w => optUndef h, fun zβ za zw zc => ?_⟩, ?_⟩
          · exact wp_or rfl ((show za.eval (.tmp 46) = za.tmps.getD 46 undef from rfl).trans (optVal (zc.dep 4 46 (by kernel_rfl)) rfl rfl)) (fun hp => ((show za.eval (.tmp 53) = za.tmps.getD 53 undef from rfl).trans (optVal (zc.dep 11 53 (by kernel_rfl)) rfl (bMkN zβ hp)))) ⟨_, rfl, Below.refl _ _, optDef zβ rfl⟩
          refine ⟨⟨true, .none rfl, fun h w => optUndef h, fun zβ za zw zc => ?_⟩, ?_⟩
          · exact wp_move rfl ((show za.eval (.tmp 54) = za.tmps.getD 54 undef from rfl).trans (optVal (zc.dep 12 54 (by kernel_rfl)) rfl rfl)) ⟨_, rfl, Below.refl _ _, optDef zβ rfl⟩
          refine ⟨⟨(true && !((greatB [s.put l, t.put l]) || (!(fitsB sg o [s.put l, t.put l])))), .no (c := ((greatB [s.put l, t.put l]) || (!(fitsB sg o [s.put l, t.put l])))) (d := true) rfl (fun v w h => h), fun h w => optUndef h, fun zβ za zw zc => ?_⟩, ?_⟩
          · exact ld_24 rfl (zc.kn.ev rfl) (bkeeps zc.below _ _ ((hB54.cell 0).trans rfl)) (bkeeps zc.below _ _ ((hB54.cell 1).trans rfl)) (bkeeps zc.below _ _ ((hB54.cell 2).trans rfl)) (bkeeps zc.below _ _ ((hB54.cell 3).trans rfl)) ⟨_, rfl, Below.refl _ _, optDef zβ rfl⟩
          refine ⟨⟨(true && !((greatB [s.put l, t.put l]) || (!(fitsB sg o [s.put l, t.put l])))), .no (c := ((greatB [s.put l, t.put l]) || (!(fitsB sg o [s.put l, t.put l])))) (d := true) rfl (fun v w h => h), fun h w => optUndef h, fun zβ za zw zc => ?_⟩, ?_⟩
          · exact ld_27 rfl (zc.kn.ev rfl) (bkeeps zc.below _ _ ((hB56.cell 0).trans rfl)) (bkeeps zc.below _ _ ((hB56.cell 1).trans rfl)) ⟨_, rfl, Below.refl _ _, optDef zβ rfl⟩
          refine ⟨⟨(true && !((greatB [s.put l, t.put l]) || (!(fitsB sg o [s.put l, t.put l])))), .no (c := ((greatB [s.put l, t.put l]) || (!(fitsB sg o [s.put l, t.put l])))) (d := true) rfl (fun v w h => h), fun h w => optUndef h, fun zβ za zw zc => ?_⟩, ?_⟩
          · exact ld_27 rfl (zc.kn.ev rfl) (bkeeps zc.below _ _ ((hB57.cell 0).trans rfl)) (bkeeps zc.below _ _ ((hB57.cell 1).trans rfl)) ⟨_, rfl, Below.refl _ _, optDef zβ rfl⟩
          refine ⟨⟨(true && !((greatB [s.put l, t.put l]) || (!(fitsB sg o [s.put l, t.put l])))), .no (c := ((greatB [s.put l, t.put l]) || (!(fitsB sg o [s.put l, t.put l])))) (d := true) rfl (fun v w h => h), fun h w => optUndef h, fun zβ za zw zc => ?_⟩, ?_⟩
          · exact wp_call (by kernel_rfl) rfl (hv3 ((show za.eval (.tmp 56) = za.tmps.getD 56 undef from rfl).trans (optVal (zc.dep 14 56 (by kernel_rfl)) rfl zβ)) ((show za.eval (.tmp 57) = za.tmps.getD 57 undef from rfl).trans (optVal (zc.dep 15 57 (by kernel_rfl)) rfl zβ)) ((show za.eval (.tmp 58) = za.tmps.getD 58 undef from rfl).trans (optVal (zc.dep 16 58 (by kernel_rfl)) rfl zβ))) (lpoAbove_any o s t _ _ _ _ zs zt (hot.below (bstep hb55 zc.below)) (IsT.below (bstep hb55 zc.below) hs) (IsT.below (bstep hb55 zc.below) ht)) (fun v w' h => ⟨v, rfl, h.2, optDef zβ h.1⟩)
          refine ⟨⟨(true && !((greatB [s.put l, t.put l]) || (!(fitsB sg o [s.put l, t.put l])))), .no (c := ((greatB [s.put l, t.put l]) || (!(fitsB sg o [s.put l, t.put l])))) (d := true) rfl (fun v w h => h), fun h w => optUndef h, fun zβ za zw zc => ?_⟩, ?_⟩
          · exact wp_not rfl ((show za.eval (.tmp 59) = za.tmps.getD 59 undef from rfl).trans (optVal (zc.dep 17 59 (by kernel_rfl)) rfl zβ)) ⟨_, rfl, Below.refl _ _, optDef zβ rfl⟩
          refine ⟨⟨true, .none rfl, fun h w => optUndef h, fun zβ za zw zc => ?_⟩, ?_⟩
          · exact wp_or rfl ((show za.eval (.tmp 55) = za.tmps.getD 55 undef from rfl).trans (optVal (zc.dep 13 55 (by kernel_rfl)) rfl rfl)) (fun hp => ((show za.eval (.tmp 60) = za.tmps.getD 60 undef from rfl).trans (optVal (zc.dep 18 60 (by kernel_rfl)) rfl (bMkN zβ hp)))) ⟨_, rfl, Below.refl _ _, optDef zβ rfl⟩
          exact trivial
        · intro za w58 zh hb59 zu
          have zh := zh.cons (d := 61) (v := .bool ((((greatB [s.put l, t.put l]) || (!(fitsB sg o [s.put l, t.put l]))) || (!(o.lcmp s t == 3))))) (optVal (zu 19 61 (by kernel_rfl)) rfl rfl)
          clear zu
          refine (show WE _ [(0, .agg #[.slice a sg.length c]), (1, .agg #[.bool o.lpo, .slice p1 o.prec.length k1, .slice p2 o.weights.length k2, .int .i64 o.var]), (2, .agg #[.int .i64 s.f, .slice es s.args.length ds]), (3, .agg #[.int .i64 t.f, .slice et t.args.length dt]), (4, .slice al l.length cl), (5, .pointer (some ⟨g2, 0, none⟩)), (6, .pointer (some ⟨g9, 0, none⟩)), (7, .pointer (some ⟨g17, 0, none⟩)), (8, .pointer (some ⟨g27, 0, none⟩)), (10, .bool false), (11, .pointer (some ⟨ga, 0, none⟩)), (12, .pointer (some ⟨gb, 0, none⟩)), (34, .bool (((((greatB [s, t]) || (decide ((8 : Int) < (((l.length : Nat) : Int) : Int)))) || (greatB l)) || (!(fitsB sg o [s, t]))))), (61, .bool ((((greatB [s.put l, t.put l]) || (!(fitsB sg o [s.put l, t.put l]))) || (!(o.lcmp s t == 3)))))] w58 _ .normal from ?_) za (zh.sub ⟨rfl, rfl, rfl, rfl, rfl, rfl, rfl, rfl, rfl, rfl, rfl, rfl, rfl, rfl, trivial⟩)
          refine WE.next ?_
          refine WC.cond rfl (fun h60 => ?_) (fun h60 => ?_)
          · have h60 : (((greatB [s.put l, t.put l]) = true) ∨ (¬ ((fitsB sg o [s.put l, t.put l]) = true))) ∨ (¬ ((o.lcmp s t == 3) = true)) := by simpa using h60
            refine WC.seq ?_
            refine WC.region ?_
            refine WL.call rfl rfl rfl (fun za zh zC => wp_call (by kernel_rfl) rfl (hv0)) (wakes_any _) ?_
            rintro _ w61 ⟨rfl, hbw⟩
            refine WL.val (.bool true) rfl rfl rfl (fun za zC zh zk => wp_assign rfl (zh.ev rfl) zk) ?_
            refine WL.nil (WE.sub (K' := [(0, .agg #[.slice a sg.length c]), (1, .agg #[.bool o.lpo, .slice p1 o.prec.length k1, .slice p2 o.weights.length k2, .int .i64 o.var]), (2, .agg #[.int .i64 s.f, .slice es s.args.length ds]), (3, .agg #[.int .i64 t.f, .slice et t.args.length dt]), (4, .slice al l.length cl), (5, .pointer (some ⟨g2, 0, none⟩)), (6, .pointer (some ⟨g9, 0, none⟩)), (7, .pointer (some ⟨g17, 0, none⟩)), (8, .pointer (some ⟨g27, 0, none⟩)), (10, .bool true), (11, .pointer (some ⟨ga, 0, none⟩)), (12, .pointer (some ⟨gb, 0, none⟩)), (34, .bool (((((greatB [s, t]) || (decide ((8 : Int) < (((l.length : Nat) : Int) : Int)))) || (greatB l)) || (!(fitsB sg o [s, t]))))), (61, .bool ((((greatB [s.put l, t.put l]) || (!(fitsB sg o [s.put l, t.put l]))) || (!(o.lcmp s t == 3)))))]) ⟨rfl, rfl, rfl, rfl, rfl, rfl, rfl, rfl, rfl, rfl, rfl, rfl, rfl, rfl, trivial⟩ ?_)
            refine WE.next ?_
            refine WC.ret ?_
            refine WE.thenRet ?_
            refine WE.ret1 rfl rfl ?_
            have hb62 : Below w.heap.size w w61 := (bstep (bstep hb55 hb59) hbw)
            exact ⟨_, rfl, congrArg Value.bool (rfl), hb62⟩
          · have h60 : ¬ ((((greatB [s.put l, t.put l]) = true) ∨ (¬ ((fitsB sg o [s.put l, t.put l]) = true))) ∨ (¬ ((o.lcmp s t == 3) = true))) := by simpa using h60
            have hz : fitsB sg o [s.put l, t.put l] = true ∧ (o.lcmp s t == 3) = true := by have z := h60; simp at z; simpa using And.intro z.1.2 z.2
            have hF2 := fitsB_of hz.1
            have ks := Od.lknown hF.2.1 (hF.2.2 s (by simp))
            have kt := Od.lknown hF.2.1 (hF.2.2 t (by simp))
            have ks2 := Od.lknown hF2.2.1 (hF2.2.2 (s.put l) (by simp))
            have kt2 := Od.lknown hF2.2.1 (hF2.2.2 (t.put l) (by simp))
            have hab : o.lcmp (s.put l) (t.put l) = 3 := by
              have z1 := hz.2
              rw [Od.lcmp_above ks kt] at z1
              have z2 := Od.lcmp_above ks2 kt2
              rw [Od.lg_put (g := l) _ s t (Nat.le_refl _) ks kt ks2 kt2 z1] at z2
              simpa using z2
            refine WC.skip ?_
            refine WE.next ?_
            refine WC.seq ?_
            have hB63 := hB54.below hb59
            have hB64 := hA1.below hb59
            have hB65 := hA2.below hb59
            have hb66 : Below w.heap.size w w58 := (bstep hb55 hb59)
            refine WC.opt [(true, .val (.agg #[.bool o.lpo, .slice p1 o.prec.length k1, .slice p2 o.weights.length k2, .int .i64 o.var])), (true, .val (.agg #[.int .i64 ((s.put l).f), .slice ea ((s.put l).args.length) da])), (true, .val (.agg #[.int .i64 ((t.put l).f), .slice eb ((t.put l).args.length) db])), (true, .val (.bool ((o.lcmp (s.put l) (t.put l) == 3)))), (true, .val (.bool ((o.lcmp (s.put l) (t.put l) == 3)))), ((true && (o.lcmp (s.put l) (t.put l) == 3)), .val (.bool true)), (true, .val (.bool (((o.lcmp (s.put l) (t.put l) == 3) && true)))), (true, .val (.bool (((o.lcmp (s.put l) (t.put l) == 3) && true))))] [(0, .agg #[.slice a sg.length c]), (1, .agg #[.bool o.lpo, .slice p1 o.prec.length k1, .slice p2 o.weights.length k2, .int .i64 o.var]), (2, .agg #[.int .i64 s.f, .slice es s.args.length ds]), (3, .agg #[.int .i64 t.f, .slice et t.args.length dt]), (4, .slice al l.length cl), (5, .pointer (some ⟨g2, 0, none⟩)), (6, .pointer (some ⟨g9, 0, none⟩)), (7, .pointer (some ⟨g17, 0, none⟩)), (8, .pointer (some ⟨g27, 0, none⟩)), (11, .pointer (some ⟨ga, 0, none⟩)), (12, .pointer (some ⟨gb, 0, none⟩)), (34, .bool (((((greatB [s, t]) || (decide ((8 : Int) < (((l.length : Nat) : Int) : Int)))) || (greatB l)) || (!(fitsB sg o [s, t]))))), (61, .bool ((((greatB [s.put l, t.put l]) || (!(fitsB sg o [s.put l, t.put l]))) || (!(o.lcmp s t == 3)))))] ⟨rfl, rfl, rfl, rfl, rfl, rfl, rfl, rfl, rfl, rfl, rfl, rfl, rfl, trivial⟩ (by kernel_rfl) (by kernel_rfl) (by kernel_rfl) ?_ ?_
            · refine ⟨⟨true, .none rfl, fun h w => optUndef h, fun zβ za zw zc => ?_⟩, ?_⟩
              · exact ld_24 rfl (zc.kn.ev rfl) (bkeeps zc.below _ _ ((hB63.cell 0).trans rfl)) (bkeeps zc.below _ _ ((hB63.cell 1).trans rfl)) (bkeeps zc.below _ _ ((hB63.cell 2).trans rfl)) (bkeeps zc.below _ _ ((hB63.cell 3).trans rfl)) ⟨_, rfl, Below.refl _ _, optDef zβ rfl⟩
              refine ⟨⟨true, .none rfl, fun h w => optUndef h, fun zβ za zw zc => ?_⟩, ?_⟩
              · exact ld_27 rfl (zc.kn.ev rfl) (bkeeps zc.below _ _ ((hB64.cell 0).trans rfl)) (bkeeps zc.below _ _ ((hB64.cell 1).trans rfl)) ⟨_, rfl, Below.refl _ _, optDef zβ rfl⟩
              refine ⟨⟨true, .none rfl, fun h w => optUndef h, fun zβ za zw zc => ?_⟩, ?_⟩
              · exact ld_27 rfl (zc.kn.ev rfl) (bkeeps zc.below _ _ ((hB65.cell 0).trans rfl)) (bkeeps zc.below _ _ ((hB65.cell 1).trans rfl)) ⟨_, rfl, Below.refl _ _, optDef zβ rfl⟩
              refine ⟨⟨true, .none rfl, fun h w => optUndef h, fun zβ za zw zc => ?_⟩, ?_⟩
              · exact wp_call (by kernel_rfl) rfl (hv3 ((show za.eval (.tmp 63) = za.tmps.getD 63 undef from rfl).trans (optVal (zc.dep 0 63 (by kernel_rfl)) rfl rfl)) ((show za.eval (.tmp 64) = za.tmps.getD 64 undef from rfl).trans (optVal (zc.dep 1 64 (by kernel_rfl)) rfl rfl)) ((show za.eval (.tmp 65) = za.tmps.getD 65 undef from rfl).trans (optVal (zc.dep 2 65 (by kernel_rfl)) rfl rfl))) (lpoAbove_any o (s.put l) (t.put l) _ _ _ _ za2.1 za2.2 (hot.below (bstep hb66 zc.below)) (IsT.below (bstep hb59 zc.below) hta) (IsT.below (bstep hb59 zc.below) htb)) (fun v w' h => ⟨v, rfl, h.2, optDef zβ h.1⟩)
              refine ⟨⟨true, .none rfl, fun h w => optUndef h, fun zβ za zw zc => ?_⟩, ?_⟩
              · exact wp_move rfl ((show za.eval (.tmp 66) = za.tmps.getD 66 undef from rfl).trans (optVal (zc.dep 3 66 (by kernel_rfl)) rfl rfl)) ⟨_, rfl, Below.refl _ _, optDef zβ rfl⟩
              refine ⟨⟨(true && (o.lcmp (s.put l) (t.put l) == 3)), .yes (c := (o.lcmp (s.put l) (t.put l) == 3)) (d := true) rfl (fun v w h => h), fun h w => optUndef h, fun zβ za zw zc => ?_⟩, ?_⟩
              · exact wp_call (by kernel_rfl) rfl (hv0) (wakes_any _) (fun v w' h => ⟨v, rfl, h.2, optDef zβ h.1⟩)
              refine ⟨⟨true, .none rfl, fun h w => optUndef h, fun zβ za zw zc => ?_⟩, ?_⟩
              · exact wp_and rfl ((show za.eval (.tmp 67) = za.tmps.getD 67 undef from rfl).trans (optVal (zc.dep 4 67 (by kernel_rfl)) rfl rfl)) (fun hp => ((show za.eval (.tmp 68) = za.tmps.getD 68 undef from rfl).trans (optVal (zc.dep 5 68 (by kernel_rfl)) rfl (bMk zβ hp)))) ⟨_, rfl, Below.refl _ _, optDef zβ rfl⟩
              refine ⟨⟨true, .none rfl, fun h w => optUndef h, fun zβ za zw zc => ?_⟩, ?_⟩
              · exact wp_assign rfl ((show za.eval (.tmp 69) = za.tmps.getD 69 undef from rfl).trans (optVal (zc.dep 6 69 (by kernel_rfl)) rfl rfl)) ⟨_, rfl, Below.refl _ _, optDef zβ rfl⟩
              exact trivial
            · intro za w67 zh hb68 zu
              have zh := zh.cons (d := 10) (v := .bool (((o.lcmp (s.put l) (t.put l) == 3) && true))) (optVal (zu 7 10 (by kernel_rfl)) rfl rfl)
              clear zu
              refine (show WE _ [(0, .agg #[.slice a sg.length c]), (1, .agg #[.bool o.lpo, .slice p1 o.prec.length k1, .slice p2 o.weights.length k2, .int .i64 o.var]), (2, .agg #[.int .i64 s.f, .slice es s.args.length ds]), (3, .agg #[.int .i64 t.f, .slice et t.args.length dt]), (4, .slice al l.length cl), (5, .pointer (some ⟨g2, 0, none⟩)), (6, .pointer (some ⟨g9, 0, none⟩)), (7, .pointer (some ⟨g17, 0, none⟩)), (8, .pointer (some ⟨g27, 0, none⟩)), (10, .bool (((o.lcmp (s.put l) (t.put l) == 3) && true))), (11, .pointer (some ⟨ga, 0, none⟩)), (12, .pointer (some ⟨gb, 0, none⟩)), (34, .bool (((((greatB [s, t]) || (decide ((8 : Int) < (((l.length : Nat) : Int) : Int)))) || (greatB l)) || (!(fitsB sg o [s, t]))))), (61, .bool ((((greatB [s.put l, t.put l]) || (!(fitsB sg o [s.put l, t.put l]))) || (!(o.lcmp s t == 3)))))] w67 _ .normal from ?_) za (zh.sub ⟨rfl, rfl, rfl, rfl, rfl, rfl, rfl, rfl, rfl, rfl, rfl, rfl, rfl, rfl, trivial⟩)
              refine WE.next ?_
              refine WC.ret ?_
              refine WE.ret1 rfl rfl ?_
              have hb69 : Below w.heap.size w w67 := (bstep hb66 hb68)
              exact ⟨_, rfl, congrArg Value.bool (by simp [hab]), hb69⟩

end Go.Proofs.Ytlkiabgpnboicaa

namespace Go.Proofs.Ytlkiabgpnboicaa
open Go.RowKit Go.ChangeShapes Go.WideShapes Go.ChangeAt

set_option maxRecDepth 100000 in
theorem lpoStable_contract (H : Type) (enc : TypeId × Value → H) (W : World) (base : Nat) (args : Array Value) (ds gs : List (DataW H)) (before : List MemPlace)
    (hval : ∀ (j : Nat) t v, Try.f6.params[j]? = some t → args[j]? = some v → Value.okWide Try.prog W .any base t v)
    (hW : DataW.Whole enc Try.prog Try.f6.params.toList Rows.lpoStableSpec.vars false W args.toList ds gs before) (hk : Rows.uptoSmall H (ds ++ gs) = true) :
    Calls Try.prog 6 args W fun e W' => ∃ v, e = .returned v ∧ Rows.lpoStableSpec.post enc Try.prog Try.f6 false true false false W args v W' := by
  have hW' := hW
  obtain ⟨p, q, hA0, hV, rfl, hfz, hnd⟩ := hW
  have hA : DataW.TrodAll enc Try.prog W 0 (fun _ => true) true Try.f6.params.toList args.toList ds p := hA0
  rw [Try.params6] at hA hval
  obtain ⟨v0, vs0, d0, ds0, p0, q0, hargs, rfl, rfl, h0, r0⟩ := trodAll_cons hA
  obtain ⟨v1, vs1, d1, ds1, p1, q1, rfl, rfl, rfl, h1, r1⟩ := trodAll_cons r0
  obtain ⟨v2, vs2, d2, ds2, p2, q2, rfl, rfl, rfl, h2, r2⟩ := trodAll_cons r1
  obtain ⟨v3, vs3, d3, ds3, p3, q3, rfl, rfl, rfl, h3, r3⟩ := trodAll_cons r2
  obtain ⟨v4, vs4, d4, ds4, p4, q4, rfl, rfl, rfl, h4, r4⟩ := trodAll_cons r3
  obtain ⟨rfl, rfl, rfl⟩ := trodAll_nil r4
  obtain rfl : args = #[v0, v1, v2, v3, v4] := by cases args; simp_all
  obtain ⟨x0, y0⟩ := arg_Sig (hval 0 35 v0 rfl rfl) h0
  have b0 := bulk_mem hk (d := d0) (by simp)
  obtain ⟨x1, y1⟩ := arg_Od (hval 1 24 v1 rfl rfl) h1
  have b1 := bulk_mem hk (d := d1) (by simp)
  obtain ⟨x2, y2, z2⟩ := arg_T (hval 2 27 v2 rfl rfl) h2
  have b2 := bulk_mem hk (d := d2) (by simp)
  obtain ⟨x3, y3, z3⟩ := arg_T (hval 3 27 v3 rfl rfl) h3
  have b3 := bulk_mem hk (d := d3) (by simp)
  obtain ⟨x4, a4, c4, rfl, k4, m4, y4, z4⟩ := arg_Ts (hval 4 25 v4 rfl rfl) h4
  have b4 := bulk_mem hk (d := d4) (by simp)
  refine (stable_any x0 x1 x2 x3 x4 W v0 v1 v2 v3 a4 c4 (by omega) (by omega) (by omega) y0 y1 y2 y3 k4 m4 y4).mono fun e W' ⟨v, he, hv, hg⟩ => ?_
  subst he hv
  exact ⟨_, rfl, law_post (by kernel_rfl) (readable_all (by kernel_rfl)) Try.underlying4 rfl rfl rfl hW' hg⟩

set_option maxRecDepth 100000 in
theorem lpoStable_lifted (os : Os) (started : os.Started) (H : Type) (enc : TypeId × Value → H) (F : Stop.Interp) :
    ReturnsInHanded {} Try.checked os 6 .any ((Rows.OpenSpec.upto Rows.lpoStableSpec).pre6 enc Try.prog Try.f6 Rows.lpoStableUptoRow.domain false) (((Rows.OpenSpec.upto Rows.lpoStableSpec).at F).post enc Try.prog Try.f6 false true false false) := by
  refine returnsInHanded_of_cond (C := Try.checked) (s := Rows.OpenSpec.upto Rows.lpoStableSpec) (k := Rows.uptoSmall) rfl own started (by kernel_rfl) Try.func6
    (OpenSpec.witness (enc := enc) (C := Try.checked) (s := Rows.OpenSpec.upto Rows.lpoStableSpec) (k := Rows.uptoSmall) rfl false ⟨#[], #[.agg #[.slice none 0 0], .agg #[.bool false, .slice none 0 0, .slice none 0 0, .int .i64 0], .agg #[.int .i64 0, .slice none 0 0], .agg #[.int .i64 0, .slice none 0 0], .slice none 0 0], []⟩ 8 (by kernel_rfl) (by kernel_rfl) (by kernel_rfl)
      (x := ([.agg [.nil], .agg [.lit (.bool false), .nil, .nil, .lit (.int .i64 0)], .agg [.lit (.int .i64 0), .nil], .agg [.lit (.int .i64 0), .nil], .nil], [], [])) (by kernel_rfl) rfl (by kernel_rfl)) ?_
  intro W base args ds gs before hval hW _ hk _
  exact lpoStable_contract H enc W base args ds gs before hval hW hk

theorem lpoStable_proved : Rows.LpoStableUptoSaid :=
  OpenClaim.holds_of_cond 6 Try.f6 rfl rfl rfl rfl rfl rfl rfl ⟨rfl, rfl, rfl, rfl, rfl⟩ rfl rfl rfl rfl rfl (by kernel_rfl) Try.func6 (by kernel_rfl)
    (of_decide_eq_true (by kernel_rfl)) (by unfold Func.isWrapper; first | (rw [if_pos (by decide +kernel)]; kernel_rfl) | (rw [if_neg (by decide +kernel)]; exact ⟨rfl, rfl⟩))
    (fun os started H enc _ F => lpoStable_lifted os started H enc F)

end Go.Proofs.Ytlkiabgpnboicaa
