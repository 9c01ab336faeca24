/- Rows of places, how they lie in memory while they are made. -/
import Derived.Test.YtjkpecjlpgcalaaGrow
import Derived.Test.YtjkpecjlpgcalaaPlacesPlain
namespace Go.Proofs.Ytjkpecjlpgcalaa
open Go.RowKit Go

def natV (n : Nat) : Value := .int .i64 (n : Int)

def PIn (S : Nat → Prop) (w : World) (p : List Nat) (v : Value) : Prop := ∃ (a : Option Addr) (c : Nat), v = .slice a p.length c ∧ p.length ≤ c ∧ c ≤ maxLen ∧
  ∀ j (h : j < p.length), ∃ b o, a = some ⟨b, o, none⟩ ∧ S b ∧ w.cell? ⟨b, o + j, none⟩ = some (natV p[j])
theorem PIn.keep {S : Nat → Prop} {w w' : World} {p : List Nat} {v : Value} (hb : ∀ (p : Addr) (x : Value), S p.block → w.cell? p = some x → w'.cell? p = some x) (h : PIn S w p v) : PIn S w' p v := by
  obtain ⟨a, c, h1, h2, h3, h4⟩ := h
  refine ⟨a, c, h1, h2, h3, fun j hj => ?_⟩
  obtain ⟨b, o, e, hs, hc⟩ := h4 j hj
  exact ⟨b, o, e, hs, hb _ _ hs hc⟩
theorem PIn.mono {S S' : Nat → Prop} {w : World} {p : List Nat} {v : Value} (hb : ∀ b, S b → b < w.heap.size → S' b) (h : PIn S w p v) : PIn S' w p v := by
  obtain ⟨a, c, h1, h2, h3, h4⟩ := h
  refine ⟨a, c, h1, h2, h3, fun j hj => ?_⟩
  obtain ⟨b, o, e, hs, hc⟩ := h4 j hj
  exact ⟨b, o, e, hb _ hs (World.block_lt_of_cell? _ _ hc), hc⟩
theorem PIn.slice {S : Nat → Prop} {w : World} {p : List Nat} {v : Value} (h : PIn S w p v) : ∃ a c, v = .slice a p.length c := by
  obtain ⟨a, c, h1, _⟩ := h; exact ⟨a, c, h1⟩

abbrev Pl1 := List Nat × T
def InPls (S : Nat → Prop) (w : World) (l : List Pl1) (a : Option Addr) : Prop := ∀ k (h : k < l.length), ∃ b o pv u v, a = some ⟨b, o, none⟩ ∧ S b ∧ w.cell? ⟨b, o + k * 3, none⟩ = some pv ∧ w.cell? ⟨b, o + k * 3 + 1, none⟩ = some u ∧ w.cell? ⟨b, o + k * 3 + 2, none⟩ = some v ∧ PIn S w l[k].1 pv ∧ InT S w l[k].2 (.agg #[u, v])
theorem InPls.keep {S : Nat → Prop} {w w' : World} {l : List Pl1} {a : Option Addr} (hb : ∀ (p : Addr) (x : Value), S p.block → w.cell? p = some x → w'.cell? p = some x) (h : InPls S w l a) : InPls S w' l a := fun k hk => by
  obtain ⟨b, o, pv, u, v, e, hs, c0, c1, c2, h1, h2⟩ := h k hk
  exact ⟨b, o, pv, u, v, e, hs, hb ⟨b, _, none⟩ _ hs c0, hb ⟨b, _, none⟩ _ hs c1, hb ⟨b, _, none⟩ _ hs c2, h1.keep hb, h2.keep hb⟩
theorem InPls.mono {S S' : Nat → Prop} {w : World} {l : List Pl1} {a : Option Addr} (hb : ∀ b, S b → b < w.heap.size → S' b) (h : InPls S w l a) : InPls S' w l a := fun k hk => by
  obtain ⟨b, o, pv, u, v, e, hs, c0, c1, c2, h1, h2⟩ := h k hk
  exact ⟨b, o, pv, u, v, e, hb _ hs (World.block_lt_of_cell? _ _ c0), c0, c1, c2, h1.mono hb, h2.mono hb⟩
theorem InPls.below {S : Nat → Prop} {w w' : World} {l : List Pl1} {a : Option Addr} (hb : Below w.heap.size w w') (h : InPls S w l a) : InPls S w' l a := h.keep fun p x _ hx => bkeeps hb p x hx

def ElemsP (S : Nat → Prop) (w : World) : List Pl1 → List Value → Prop
  | [], [] => True
  | t :: r, p :: u :: v :: xs => (PIn S w t.1 p ∧ InT S w t.2 (.agg #[u, v])) ∧ ElemsP S w r xs
  | _, _ => False
theorem ElemsP.map {S S' : Nat → Prop} {w w' : World} (hp : ∀ p v, PIn S w p v → PIn S' w' p v) (ht : ∀ t v, InT S w t v → InT S' w' t v) : ∀ {l : List Pl1} {xs : List Value}, ElemsP S w l xs → ElemsP S' w' l xs
  | [], [], _ => trivial
  | _ :: _, _ :: _ :: _ :: _, h => ⟨⟨hp _ _ h.1.1, ht _ _ h.1.2⟩, ElemsP.map hp ht h.2⟩
  | [], _ :: _, h => h.elim
  | _ :: _, [], h => h.elim
  | _ :: _, [_], h => h.elim
  | _ :: _, [_, _], h => h.elim
theorem ElemsP.keep {S : Nat → Prop} {w w' : World} (hb : ∀ (p : Addr) (x : Value), S p.block → w.cell? p = some x → w'.cell? p = some x) {l : List Pl1} {xs : List Value} (h : ElemsP S w l xs) : ElemsP S w' l xs := h.map (fun _ _ h => h.keep hb) (fun _ _ h => h.keep hb)
theorem ElemsP.mono {S S' : Nat → Prop} {w : World} (hb : ∀ b, S b → b < w.heap.size → S' b) {l : List Pl1} {xs : List Value} (h : ElemsP S w l xs) : ElemsP S' w l xs := h.map (fun _ _ h => h.mono hb) (fun _ _ h => h.mono hb)
theorem ElemsP.snoc {S : Nat → Prop} {w : World} {t : Pl1} {p u v : Value} (h1 : PIn S w t.1 p) (h2 : InT S w t.2 (.agg #[u, v])) : ∀ {l : List Pl1} {xs : List Value}, ElemsP S w l xs → ElemsP S w (l ++ [t]) (xs ++ [p, u, v])
  | [], [], _ => ⟨⟨h1, h2⟩, trivial⟩
  | _ :: _, _ :: _ :: _ :: _, h => ⟨h.1, ElemsP.snoc h1 h2 h.2⟩
  | [], _ :: _, h => h.elim
  | _ :: _, [], h => h.elim
  | _ :: _, [_], h => h.elim
  | _ :: _, [_, _], h => h.elim
theorem ElemsP.at_ {S : Nat → Prop} {w : World} : ∀ {l : List Pl1} {xs : List Value}, ElemsP S w l xs → ∀ k (hk : k < l.length), ∃ p u v, xs[k * 3]? = some p ∧ xs[k * 3 + 1]? = some u ∧ xs[k * 3 + 2]? = some v ∧ PIn S w l[k].1 p ∧ InT S w l[k].2 (.agg #[u, v])
  | t :: r, p :: u :: v :: xs, h, 0, _ => ⟨p, u, v, rfl, rfl, rfl, h.1.1, h.1.2⟩
  | t :: r, p :: u :: v :: xs, h, k + 1, hk => by
    obtain ⟨p', u', v', h1, h2, h3, h4, h5⟩ := ElemsP.at_ h.2 k (by simpa using hk)
    refine ⟨p', u', v', ?_, ?_, ?_, by simpa using h4, by simpa using h5⟩
    · rw [show (k + 1) * 3 = k * 3 + 1 + 1 + 1 by omega]; simpa using h1
    · rw [show (k + 1) * 3 + 1 = k * 3 + 1 + 1 + 1 + 1 by omega]; simpa using h2
    · rw [show (k + 1) * 3 + 2 = k * 3 + 2 + 1 + 1 + 1 by omega]; simpa using h3
  | [], _, _, k, hk => by simp at hk
  | _ :: _, [], h, _, _ => h.elim
  | _ :: _, [_], h, _, _ => h.elim
  | _ :: _, [_, _], h, _, _ => h.elim

/-- Where elements may lie: not in the two rows that are being made. -/
def Fp (B N : Nat) (rv pv : Value) (b : Nat) : Prop := New B N b ∧ rv.ownBlock ≠ some b ∧ pv.ownBlock ≠ some b

structure Pl (B : Nat) (w0 : World) (y0 y1 : Value) (L Q : List Pl1) (path : List Nat) (w : World) (rv iv pv : Value) : Prop where
  le : B ≤ w0.heap.size
  below : Below w0.heap.size w0 w
  arg : Blk w w0.heap.size 27 #[y0, y1]
  rows : ∃ xs, w.ownsRow (w0.heap.size + 1) 45 3 rv L.length xs ∧ ElemsP (Fp B (w0.heap.size + 1) rv pv) w L xs
  ins : ∃ a c, iv = .slice a Q.length c ∧ Q.length ≤ c ∧ c ≤ maxLen ∧ InPls (Fp B (w0.heap.size + 1) rv pv) w Q a
  p : w.ownsRow (w0.heap.size + 1) 3 1 pv path.length (path.map natV)
  apart : ∀ g, rv.ownBlock = some g → pv.ownBlock ≠ some g

theorem oR_below {w w' : World} {base : Nat} {e : TypeId} {size : Nat} {v : Value} {n : Nat} {xs : List Value} (h : w.ownsRow base e size v n xs) (hb : Below w.heap.size w w') : w'.ownsRow base e size v n xs := by
  refine ⟨h.1, h.2.imp id ?_⟩
  rintro ⟨g, cap, cur, e1, e2, e3, e4, e5, e6, e7⟩
  exact ⟨g, cap, cur, e1, e2, (hb.block g (lt_of_block e3)).trans e3, e4, e5, e6, e7⟩

section
variable {B : Nat} {w0 w w' : World} {y0 y1 : Value} {L Q : List Pl1} {path : List Nat} {rv iv pv : Value}

theorem Pl.below_ (h : Pl B w0 y0 y1 L Q path w rv iv pv) (hb : Below w.heap.size w w') : Pl B w0 y0 y1 L Q path w' rv iv pv := by
  obtain ⟨xs, h1, h2⟩ := h.rows
  obtain ⟨a, c, e, h3, h4, h5⟩ := h.ins
  exact ⟨h.le, bstep h.below hb, h.arg.below hb, ⟨xs, oR_below h1 hb, h2.keep fun p x _ hx => bkeeps hb p x hx⟩, ⟨a, c, e, h3, h4, h5.below hb⟩, oR_below h.p hb, h.apart⟩

theorem Pl.fresh (h : Pl B w0 y0 y1 L Q path w rv iv pv) {b : Nat} (hb : New B w.heap.size b) : Fp B (w0.heap.size + 1) rv pv b := by
  obtain ⟨xs, h1, _⟩ := h.rows
  have hlt := h.arg.lt
  have hle := h.le
  refine ⟨hb.imp id (fun h => by omega), fun e => ?_, fun e => ?_⟩
  · have := h1.lt _ e; rcases hb with hb | hb <;> omega
  · have := h.p.lt _ e; rcases hb with hb | hb <;> omega

/-- The first place. -/
theorem Pl.start {g : Nat} {u v : Value} {t : T} (hle : B ≤ w0.heap.size) (hb : Below w0.heap.size w0 w) (ha : Blk w w0.heap.size 27 #[y0, y1]) (hg : w0.heap.size + 1 ≤ g) (hB : Blk w g 45 #[.slice none 0 0, u, v]) (hv : InT (fun b => New B (w0.heap.size + 1) b ∧ b ≠ g) w t (.agg #[u, v])) :
    Pl B w0 y0 y1 [([], t)] [] [] w (.slice (some ⟨g, 0, none⟩) 1 1) (.slice none 0 0) (.slice none 0 0) := by
  refine ⟨hle, hb, ha, ⟨[.slice none 0 0, u, v], ⟨rfl, .inr ⟨g, 1, _, rfl, hg, hB, by simp, by unfold maxLen; omega, rfl, rfl⟩⟩, ⟨⟨⟨none, 0, rfl, Nat.le_refl _, Nat.zero_le _, fun j hj => by simp at hj⟩, hv.mono fun b hb _ => ⟨hb.1, ?_, by simp [Value.ownBlock]⟩⟩, trivial⟩⟩, ⟨none, 0, rfl, by simp, by unfold maxLen; omega, fun k hk => by simp at hk⟩, ⟨rfl, .inl ⟨rfl, rfl⟩⟩, fun g _ => by simp [Value.ownBlock]⟩
  simp only [Value.ownBlock, ne_eq, Option.some.injEq]
  exact fun e => hb.2 e.symm

/-- A row of an argument's places. -/
theorem Pl.call {Q' : List Pl1} {a : Option Addr} {c : Nat} (h : Pl B w0 y0 y1 L Q [] w rv iv (.slice none 0 0)) (hb : Below w.heap.size w w') (h1 : Q'.length ≤ c) (h2 : c ≤ maxLen) (h3 : InPls (New B w.heap.size) w' Q' a) :
    Pl B w0 y0 y1 L Q' [] w' rv (.slice a Q'.length c) (.slice none 0 0) := by
  have h' := h.below_ hb
  exact ⟨h'.le, h'.below, h'.arg, h'.rows, ⟨a, c, rfl, h1, h2, h3.mono fun b hb _ => h.fresh hb⟩, h'.p, h'.apart⟩

/-- A path begun. -/
theorem Pl.begin {i : Nat} (h : Pl B w0 y0 y1 L Q [] w rv iv (.slice none 0 0)) : Pl B w0 y0 y1 L Q [i] (w.alloc (.cells #[natV i] 3)) rv iv (.slice (some ⟨w.heap.size, 0, none⟩) 1 1) := by
  have hb := balloc w (.cells #[natV i] 3)
  have hlt := h.arg.lt
  have h' := h.below_ hb
  obtain ⟨xs, h1, h2⟩ := h.rows
  obtain ⟨a, c, e, h3, h4, h5⟩ := h.ins
  have go : ∀ b, Fp B (w0.heap.size + 1) rv (.slice none 0 0) b → b < w.heap.size → Fp B (w0.heap.size + 1) rv (.slice (some ⟨w.heap.size, 0, none⟩) 1 1) b := fun b hb hlt => ⟨hb.1, hb.2.1, by simp only [Value.ownBlock, ne_eq, Option.some.injEq]; omega⟩
  refine ⟨h'.le, h'.below, h'.arg, ⟨xs, oR_below h1 hb, (h2.mono go).keep fun p x _ hx => bkeeps hb p x hx⟩, ⟨a, c, e, h3, h4, (h5.mono go).below hb⟩, ⟨rfl, .inr ⟨w.heap.size, 1, _, rfl, by omega, heap_alloc_new _ _, by simp, by unfold maxLen; omega, rfl, rfl⟩⟩, fun g hg => ?_⟩
  simp only [Value.ownBlock, ne_eq, Option.some.injEq]
  have := (h1.lt g hg).2
  omega

/-- The path grown by one. -/
theorem Pl.step {x g1 c1 : Nat} (h : Pl B w0 y0 y1 L Q path w rv iv pv)
    (hown : w'.ownsRow (w0.heap.size + 1) 3 1 (.slice (some ⟨g1, 0, none⟩) (path.length + 1) c1) (path.length + 1) (path.map natV ++ [natV x])) (hgrow : w.grownBy w' pv.ownBlock) (hat : pv.ownBlock = some g1 ∨ g1 = w.heap.size) :
    Pl B w0 y0 y1 L Q (path ++ [x]) w' rv iv (.slice (some ⟨g1, 0, none⟩) (path.length + 1) c1) := by
  obtain ⟨xs, h1, h2⟩ := h.rows
  obtain ⟨a, c, e, h3, h4, h5⟩ := h.ins
  have hlt := h.arg.lt
  have hplt := h.p.lt
  have hfresh : ∀ b, b < w.heap.size → pv.ownBlock ≠ some b → g1 ≠ b := by
    intro b hb hne e
    subst e
    rcases hat with e | e
    · exact hne e
    · omega
  have go : ∀ b, Fp B (w0.heap.size + 1) rv pv b → b < w.heap.size → Fp B (w0.heap.size + 1) rv (.slice (some ⟨g1, 0, none⟩) (path.length + 1) c1) b ∧ pv.ownBlock ≠ some b := fun b hb hlt => ⟨⟨hb.1, hb.2.1, by simp only [Value.ownBlock, ne_eq, Option.some.injEq]; exact hfresh b hlt hb.2.2⟩, hb.2.2⟩
  have kk : ∀ (p : Addr) (y : Value), (Fp B (w0.heap.size + 1) rv (.slice (some ⟨g1, 0, none⟩) (path.length + 1) c1) p.block ∧ pv.ownBlock ≠ some p.block) → w.cell? p = some y → w'.cell? p = some y := fun p y hp hy => hgrow.cell hy (Ne.symm hp.2)
  have far : ∀ b, b < w0.heap.size + 1 → some b ≠ pv.ownBlock := fun b hb e => by have := (hplt b e.symm).1; omega
  refine ⟨h.le, h.below.grown hgrow (by omega) (fun b hb => by have := (hplt b hb).1; omega), h.arg.grown hgrow (far _ (by omega)), ⟨xs, h1.kept hgrow ?_, ((h2.mono go).keep kk).mono fun b hb _ => hb.1⟩, ⟨a, c, e, h3, h4, ((h5.mono go).keep kk).mono fun b hb _ => hb.1⟩, by simpa using hown, fun g hg => ?_⟩
  · cases hr : rv.ownBlock with
    | none => exact .inl rfl
    | some b => exact .inr fun e => h.apart b hr e.symm
  · simp only [Value.ownBlock, ne_eq, Option.some.injEq]
    exact hfresh g (h1.lt g hg).2 (h.apart g hg)

/-- A place more. -/
theorem Pl.snoc {t : T} {u v : Value} {g1 c1 : Nat} {xs : List Value} (h : Pl B w0 y0 y1 L Q path w rv iv pv) (hxs : ElemsP (Fp B (w0.heap.size + 1) rv pv) w L xs) (ht : InT (Fp B (w0.heap.size + 1) rv pv) w t (.agg #[u, v])) (hpath : 0 < path.length)
    (hown : w'.ownsRow (w0.heap.size + 1) 45 3 (.slice (some ⟨g1, 0, none⟩) (L.length + 1) c1) (L.length + 1) (xs ++ [pv, u, v])) (hgrow : w.grownBy w' rv.ownBlock) (hat : rv.ownBlock = some g1 ∨ g1 = w.heap.size) :
    Pl B w0 y0 y1 (L ++ [(path, t)]) Q [] w' (.slice (some ⟨g1, 0, none⟩) (L.length + 1) c1) iv (.slice none 0 0) := by
  obtain ⟨xs', h1, _⟩ := h.rows
  obtain ⟨a, c, e, h3, h4, h5⟩ := h.ins
  have hlt := h.arg.lt
  have hrlt := h1.lt
  have hfresh : ∀ b, b < w.heap.size → rv.ownBlock ≠ some b → g1 ≠ b := by
    intro b hb hne e
    subst e
    rcases hat with e | e
    · exact hne e
    · omega
  have go : ∀ b, New B (w0.heap.size + 1) b ∧ rv.ownBlock ≠ some b → b < w.heap.size → Fp B (w0.heap.size + 1) (.slice (some ⟨g1, 0, none⟩) (L.length + 1) c1) (.slice none 0 0) b ∧ rv.ownBlock ≠ some b := fun b hb hlt => ⟨⟨hb.1, by simp only [Value.ownBlock, ne_eq, Option.some.injEq]; exact hfresh b hlt hb.2, by simp [Value.ownBlock]⟩, hb.2⟩
  have kk : ∀ (p : Addr) (y : Value), (Fp B (w0.heap.size + 1) (.slice (some ⟨g1, 0, none⟩) (L.length + 1) c1) (.slice none 0 0) p.block ∧ rv.ownBlock ≠ some p.block) → w.cell? p = some y → w'.cell? p = some y := fun p y hp hy => hgrow.cell hy (Ne.symm hp.2)
  have far : ∀ b, b < w0.heap.size + 1 → some b ≠ rv.ownBlock := fun b hb e => by have := (hrlt b e.symm).1; omega
  have pin : PIn (fun b => New B (w0.heap.size + 1) b ∧ rv.ownBlock ≠ some b) w path pv := by
    rcases h.p.2 with ⟨_, h0⟩ | ⟨g, cap, cur, hv, hg, hB, hc, hm, _, _⟩
    · omega
    · subst hv
      refine ⟨_, cap, rfl, hc, hm, fun j hj => ⟨g, 0, rfl, ⟨.inr hg, fun e => h.apart g e rfl⟩, ?_⟩⟩
      have := h.p.cells (g := g) rfl j (natV path[j]) (by simp [hj])
      have e : (⟨g, 0, none⟩ : Addr).add j = ⟨g, j, none⟩ := by unfold Addr.add; split <;> simp_all
      rw [e] at this
      simpa using this
  have sub : ∀ b, Fp B (w0.heap.size + 1) rv pv b → b < w.heap.size → New B (w0.heap.size + 1) b ∧ rv.ownBlock ≠ some b := fun b hb _ => ⟨hb.1, hb.2.1⟩
  have sub2 : ∀ b, Fp B (w0.heap.size + 1) rv pv b → b < w.heap.size → Fp B (w0.heap.size + 1) (.slice (some ⟨g1, 0, none⟩) (L.length + 1) c1) (.slice none 0 0) b ∧ rv.ownBlock ≠ some b := fun b hb hlt => go b (sub b hb hlt) hlt
  refine ⟨h.le, h.below.grown hgrow (by omega) (fun b hb => by have := (hrlt b hb).1; omega), h.arg.grown hgrow (far _ (by omega)), ⟨xs ++ [pv, u, v], by simpa using hown, ElemsP.snoc (((pin.mono go).keep kk).mono fun b hb _ => hb.1) (((ht.mono sub2).keep kk).mono fun b hb _ => hb.1) (((hxs.mono sub2).keep kk).mono fun b hb _ => hb.1)⟩, ⟨a, c, e, h3, h4, ((h5.mono sub2).keep kk).mono fun b hb _ => hb.1⟩, ⟨rfl, .inl ⟨rfl, rfl⟩⟩, fun g _ => by simp [Value.ownBlock]⟩

theorem Pl.drop (h : Pl B w0 y0 y1 L Q path w rv iv pv) : Pl B w0 y0 y1 L [] path w rv (.slice none 0 0) pv :=
  ⟨h.le, h.below, h.arg, h.rows, ⟨none, 0, rfl, by simp, by unfold maxLen; omega, fun k hk => by simp at hk⟩, h.p, h.apart⟩

theorem Pl.at_ {a : Option Addr} {c : Nat} (h : Pl B w0 y0 y1 L Q path w rv (.slice a Q.length c) pv) (k : Nat) (hk : k < Q.length) :
    ∃ b o q u v, a = some ⟨b, o, none⟩ ∧ w.cell? ⟨b, o + k * 3, none⟩ = some q ∧ w.cell? ⟨b, o + k * 3 + 1, none⟩ = some u ∧ w.cell? ⟨b, o + k * 3 + 2, none⟩ = some v ∧ PIn (Fp B (w0.heap.size + 1) rv pv) w Q[k].1 q ∧ InT (Fp B (w0.heap.size + 1) rv pv) w Q[k].2 (.agg #[u, v]) := by
  obtain ⟨a', c', e, _, _, h5⟩ := h.ins
  simp only [Value.slice.injEq, true_and] at e
  obtain ⟨rfl, rfl⟩ := e
  obtain ⟨b, o, q, u, v, e, _, c0, c1, c2, h1, h2⟩ := h5 k hk
  exact ⟨b, o, q, u, v, e, c0, c1, c2, h1, h2⟩

/-- The whole row. -/
theorem Pl.value (h : Pl B w0 y0 y1 L Q path w rv iv pv) (hL : 0 < L.length) : ∃ a c, rv = .slice a L.length c ∧ L.length ≤ c ∧ c ≤ maxLen ∧ InPls (New B w0.heap.size) w L a := by
  obtain ⟨xs, h1, h2⟩ := h.rows
  rcases h1.2 with ⟨_, h0⟩ | ⟨g, cap, cur, hv, hg, hB, hc, hm, _, _⟩
  · omega
  · subst hv
    refine ⟨_, cap, rfl, hc, hm, fun k hk => ?_⟩
    obtain ⟨p, u, v, e1, e2, e3, e4, e5⟩ := h2.at_ k hk
    have cell : ∀ j y, xs[j]? = some y → w.cell? ⟨g, 0 + j, none⟩ = some y := fun j y hj => by
      have := h1.cells (g := g) rfl j y hj
      have e : (⟨g, 0, none⟩ : Addr).add j = ⟨g, j, none⟩ := by unfold Addr.add; split <;> simp_all
      rw [e] at this
      simpa using this
    have sub : ∀ b, Fp B (w0.heap.size + 1) (.slice (some ⟨g, 0, none⟩) L.length cap) pv b → b < w.heap.size → New B w0.heap.size b := fun b hb _ => hb.1.imp id (fun h => by omega)
    exact ⟨g, 0, p, u, v, rfl, .inr (by omega), cell _ _ e1, by simpa [Nat.add_assoc] using cell _ _ e2, by simpa [Nat.add_assoc] using cell _ _ e3, e4.mono sub, e5.mono sub⟩
end
end Go.Proofs.Ytjkpecjlpgcalaa
