/- Regions in whatever order: two calls that make things, two new boxes, what is made is stored into them. -/
import Derived.Test.YtjhkoiggeepajaaTail
namespace Go.Proofs.Ytjhkoiggeepajaa
open Go.RowKit Go

def vcells : Value → Array Value
  | .agg cs => cs
  | v => #[v]
def PKeep (P : (Nat → Prop) → World → Value → Prop) : Prop := ∀ (S : Nat → Prop) (w w' : World) (v : Value), (∀ (p : Addr) (x : Value), S p.block → w.cell? p = some x → w'.cell? p = some x) → P S w v → P S w' v
def PMono (P : (Nat → Prop) → World → Value → Prop) : Prop := ∀ (S S' : Nat → Prop) (w : World) (v : Value), (∀ b, S b → b < w.heap.size → S' b) → P S w v → P S' w v

section
variable {w0 w w' : World} {t1 t2 g : Nat} {z1 z2 : Array Value} {x1 x2 va vb vp vq : Option Value} {P1 P2 : (Nat → Prop) → World → Value → Prop}
/-- A box: new, apart from what was made; empty, or what was made lies in it. -/
def BoxS (w0 : World) (S1 S2 : Nat → Prop) (t : Nat) (z : Array Value) (x va vp : Option Value) (w : World) : Prop :=
  ∀ v, va = some v → ∃ g cs, v = .pointer (some ⟨g, 0, none⟩) ∧ w0.heap.size ≤ g ∧ ¬ S1 g ∧ ¬ S2 g ∧ Blk w g t cs ∧ (vp = none → cs = z) ∧ (∀ u, vp = some u → ∃ y, x = some y ∧ cs = vcells y)
structure BxS (w0 : World) (P1 P2 : (Nat → Prop) → World → Value → Prop) (t1 : Nat) (z1 : Array Value) (t2 : Nat) (z2 : Array Value) (x1 x2 va vb vp vq : Option Value) (w : World) : Prop where
  below : Below w0.heap.size w0 w
  wit : ∃ S1 S2 : Nat → Prop, (∀ b, S1 b → w0.heap.size ≤ b ∧ b < w.heap.size) ∧ (∀ b, S2 b → w0.heap.size ≤ b ∧ b < w.heap.size) ∧ (∀ v, x1 = some v → P1 S1 w v) ∧ (∀ v, x2 = some v → P2 S2 w v) ∧
    BoxS w0 S1 S2 t1 z1 x1 va vp w ∧ BoxS w0 S1 S2 t2 z2 x2 vb vq w
  ne : ∀ v u, va = some v → vb = some u → v ≠ u
  pa : va = none → vp = none
  qb : vb = none → vq = none
def BxG (w0 : World) (P1 P2 : (Nat → Prop) → World → Value → Prop) (t1 : Nat) (z1 : Array Value) (t2 : Nat) (z2 : Array Value) : List (Option Value) → World → Prop
  | [x1, x2, va, vb, vp, vq], w => BxS w0 P1 P2 t1 z1 t2 z2 x1 x2 va vb vp vq w
  | _, _ => False
theorem BoxS.step {S1 S2 : Nat → Prop} (h : BoxS w0 S1 S2 t1 z1 x1 va vp w) (hb : Below w.heap.size w w') : BoxS w0 S1 S2 t1 z1 x1 va vp w' := fun v hv => by
  obtain ⟨g, cs, h1, h2, h3, h4, h5, h6⟩ := h v hv
  exact ⟨g, cs, h1, h2, h3, h4, h5.below hb, h6⟩
theorem BxS.step (k1 : PKeep P1) (k2 : PKeep P2) (h : BxS w0 P1 P2 t1 z1 t2 z2 x1 x2 va vb vp vq w) (hb : Below w.heap.size w w') : BxS w0 P1 P2 t1 z1 t2 z2 x1 x2 va vb vp vq w' := by
  obtain ⟨S1, S2, h1, h2, h3, h4, h5, h6⟩ := h.wit
  have hs := hb.size
  exact ⟨bstep h.below hb, ⟨S1, S2, fun b q => ⟨(h1 b q).1, by have := (h1 b q).2; omega⟩, fun b q => ⟨(h2 b q).1, by have := (h2 b q).2; omega⟩, fun v q => k1 _ _ _ _ (fun p x _ hx => bkeeps hb p x hx) (h3 v q), fun v q => k2 _ _ _ _ (fun p x _ hx => bkeeps hb p x hx) (h4 v q), h5.step hb, h6.step hb⟩, h.ne, h.pa, h.qb⟩
theorem BoxS.lt {S1 S2 : Nat → Prop} {S1' S2' : Nat → Prop} (h : BoxS w0 S1 S2 t1 z1 x1 va vp w) (h1 : ∀ b, b < w.heap.size → S1' b → S1 b) (h2 : ∀ b, b < w.heap.size → S2' b → S2 b) : BoxS w0 S1' S2' t1 z1 x1 va vp w := fun v hv => by
  obtain ⟨g, cs, e, h3, h4, h5, h6, h7⟩ := h v hv
  exact ⟨g, cs, e, h3, fun q => h4 (h1 g h6.lt q), fun q => h5 (h2 g h6.lt q), h6, h7⟩
theorem BxS.callA (k1 : PKeep P1) (k2 : PKeep P2) (m1 : PMono P1) {v : Value} (h : BxS w0 P1 P2 t1 z1 t2 z2 none x2 va vb vp vq w) (hb : Below w.heap.size w w') (hv : P1 (fun b => w.heap.size ≤ b) w' v) : BxS w0 P1 P2 t1 z1 t2 z2 (some v) x2 va vb vp vq w' := by
  obtain ⟨S1, S2, h1, h2, h3, h4, h5, h6⟩ := h.wit
  have hs := hb.size
  have h0 := h.below.size
  have far : ∀ b, b < w.heap.size → (w.heap.size ≤ b ∧ b < w'.heap.size) → S1 b := fun b q r => by omega
  refine ⟨bstep h.below hb, ⟨fun b => w.heap.size ≤ b ∧ b < w'.heap.size, S2, fun b q => ⟨by omega, q.2⟩, fun b q => ⟨(h2 b q).1, by have := (h2 b q).2; omega⟩, fun u q => ?_, fun v q => k2 _ _ _ _ (fun p x _ hx => bkeeps hb p x hx) (h4 v q), ?_, (h6.lt far (fun _ _ q => q)).step hb⟩, h.ne, h.pa, h.qb⟩
  · obtain rfl := Option.some.inj q
    exact m1 _ _ _ _ (fun b q r => ⟨q, r⟩) hv
  · refine BoxS.step (w := w) (fun v hv => ?_) hb
    obtain ⟨g, cs, e, q3, q4, q5, q6, q7, q8⟩ := h5 v hv
    refine ⟨g, cs, e, q3, fun q => q4 (far g q6.lt q), q5, q6, q7, fun u hu => ?_⟩
    obtain ⟨y, hy, _⟩ := q8 u hu
    cases hy
theorem BxS.callB (k1 : PKeep P1) (k2 : PKeep P2) (m2 : PMono P2) {v : Value} (h : BxS w0 P1 P2 t1 z1 t2 z2 x1 none va vb vp vq w) (hb : Below w.heap.size w w') (hv : P2 (fun b => w.heap.size ≤ b) w' v) : BxS w0 P1 P2 t1 z1 t2 z2 x1 (some v) va vb vp vq w' := by
  obtain ⟨S1, S2, h1, h2, h3, h4, h5, h6⟩ := h.wit
  have hs := hb.size
  have h0 := h.below.size
  have far : ∀ b, b < w.heap.size → (w.heap.size ≤ b ∧ b < w'.heap.size) → S2 b := fun b q r => by omega
  refine ⟨bstep h.below hb, ⟨S1, fun b => w.heap.size ≤ b ∧ b < w'.heap.size, fun b q => ⟨(h1 b q).1, by have := (h1 b q).2; omega⟩, fun b q => ⟨by omega, q.2⟩, fun v q => k1 _ _ _ _ (fun p x _ hx => bkeeps hb p x hx) (h3 v q), fun u q => ?_, (h5.lt (fun _ _ q => q) far).step hb, ?_⟩, h.ne, h.pa, h.qb⟩
  · obtain rfl := Option.some.inj q
    exact m2 _ _ _ _ (fun b q r => ⟨q, r⟩) hv
  · refine BoxS.step (w := w) (fun v hv => ?_) hb
    obtain ⟨g, cs, e, q3, q4, q5, q6, q7, q8⟩ := h6 v hv
    refine ⟨g, cs, e, q3, q4, fun q => q5 (far g q6.lt q), q6, q7, fun u hu => ?_⟩
    obtain ⟨y, hy, _⟩ := q8 u hu
    cases hy
theorem BxS.allocA (k1 : PKeep P1) (k2 : PKeep P2) (h : BxS w0 P1 P2 t1 z1 t2 z2 x1 x2 none vb vp vq w) : BxS w0 P1 P2 t1 z1 t2 z2 x1 x2 (some (.pointer (some ⟨w.heap.size, 0, none⟩))) vb vp vq (w.alloc (.cells z1 t1)) := by
  have hp := h.pa rfl
  subst hp
  have h0 := h.below.size
  have hst := h.step k1 k2 (balloc w (.cells z1 t1))
  obtain ⟨S1, S2, h1, h2, h3, h4, h5, h6⟩ := h.wit
  have hs := (balloc w (.cells z1 t1)).size
  refine ⟨hst.below, ⟨S1, S2, fun b q => ⟨(h1 b q).1, by have := (h1 b q).2; omega⟩, fun b q => ⟨(h2 b q).1, by have := (h2 b q).2; omega⟩, fun v q => k1 _ _ _ _ (fun p x _ hx => bkeeps (balloc _ _) p x hx) (h3 v q), fun v q => k2 _ _ _ _ (fun p x _ hx => bkeeps (balloc _ _) p x hx) (h4 v q), fun v hv => ?_, h6.step (balloc _ _)⟩, fun v u hv hu => ?_, fun e => (by cases e), h.qb⟩
  · exact ⟨_, _, (Option.some.inj hv).symm, h0, fun q => by have := (h1 _ q).2; omega, fun q => by have := (h2 _ q).2; omega, Blk.new' rfl, fun _ => rfl, fun u hu => (by cases hu)⟩
  · obtain ⟨g, cs, rfl, _, _, _, q6, _⟩ := h6 u hu
    obtain rfl := Option.some.inj hv
    have := q6.lt
    simp only [ne_eq, Value.pointer.injEq, Option.some.injEq, Addr.mk.injEq, and_true]
    omega
theorem BxS.allocB (k1 : PKeep P1) (k2 : PKeep P2) (h : BxS w0 P1 P2 t1 z1 t2 z2 x1 x2 va none vp vq w) : BxS w0 P1 P2 t1 z1 t2 z2 x1 x2 va (some (.pointer (some ⟨w.heap.size, 0, none⟩))) vp vq (w.alloc (.cells z2 t2)) := by
  have hp := h.qb rfl
  subst hp
  have h0 := h.below.size
  have hst := h.step k1 k2 (balloc w (.cells z2 t2))
  obtain ⟨S1, S2, h1, h2, h3, h4, h5, h6⟩ := h.wit
  have hs := (balloc w (.cells z2 t2)).size
  refine ⟨hst.below, ⟨S1, S2, fun b q => ⟨(h1 b q).1, by have := (h1 b q).2; omega⟩, fun b q => ⟨(h2 b q).1, by have := (h2 b q).2; omega⟩, fun v q => k1 _ _ _ _ (fun p x _ hx => bkeeps (balloc _ _) p x hx) (h3 v q), fun v q => k2 _ _ _ _ (fun p x _ hx => bkeeps (balloc _ _) p x hx) (h4 v q), h5.step (balloc _ _), fun v hv => ?_⟩, fun v u hv hu => ?_, h.pa, fun e => (by cases e)⟩
  · exact ⟨_, _, (Option.some.inj hv).symm, h0, fun q => by have := (h1 _ q).2; omega, fun q => by have := (h2 _ q).2; omega, Blk.new' rfl, fun _ => rfl, fun u hu => (by cases hu)⟩
  · obtain ⟨g, cs, rfl, _, _, _, q6, _⟩ := h5 v hv
    obtain rfl := Option.some.inj hu
    have := q6.lt
    simp only [ne_eq, Value.pointer.injEq, Option.some.injEq, Addr.mk.injEq, and_true]
    omega
theorem upd_keep {S : Nat → Prop} (hu : Upd g w w') (hS : ¬ S g) (p : Addr) (x : Value) (hp : S p.block) (hx : w.cell? p = some x) : w'.cell? p = some x := by
  unfold World.cell? at hx ⊢
  rw [hu.block p.block (fun e => hS (e ▸ hp))]; exact hx
theorem BxS.storeA (k1 : PKeep P1) (k2 : PKeep P2) {q y : Value} (h : BxS w0 P1 P2 t1 z1 t2 z2 (some y) x2 (some (.pointer (some ⟨g, 0, none⟩))) vb none vq w) (hu : Upd g w w') (hB : Blk w' g t1 (vcells y)) : BxS w0 P1 P2 t1 z1 t2 z2 (some y) x2 (some (.pointer (some ⟨g, 0, none⟩))) vb (some q) vq w' := by
  obtain ⟨S1, S2, h1, h2, h3, h4, h5, h6⟩ := h.wit
  obtain ⟨g', cs, e, q1, q2, q3, q4, _⟩ := h5 _ rfl
  simp only [Value.pointer.injEq, Option.some.injEq, Addr.mk.injEq, and_true] at e
  subst e
  have hs := hu.size
  refine ⟨upd_below h.below hu q1, ⟨S1, S2, fun b q => ⟨(h1 b q).1, by have := (h1 b q).2; omega⟩, fun b q => ⟨(h2 b q).1, by have := (h2 b q).2; omega⟩, fun v q => k1 _ _ _ _ (upd_keep hu q2) (h3 v q), fun v q => k2 _ _ _ _ (upd_keep hu q3) (h4 v q), fun v hv => ?_, fun v hv => ?_⟩, h.ne, fun e => (by cases e), h.qb⟩
  · exact ⟨g, _, (Option.some.inj hv).symm, q1, q2, q3, hB, fun e => (by cases e), fun u _ => ⟨y, rfl, rfl⟩⟩
  · obtain ⟨g2, cs2, rfl, r1, r2, r3, r4, r5⟩ := h6 v hv
    have := h.ne _ _ rfl hv
    simp only [ne_eq, Value.pointer.injEq, Option.some.injEq, Addr.mk.injEq, and_true] at this
    exact ⟨g2, cs2, rfl, r1, r2, r3, upd_blk r4 hu (fun e => this e.symm), r5⟩
theorem BxS.storeB (k1 : PKeep P1) (k2 : PKeep P2) {q y : Value} (h : BxS w0 P1 P2 t1 z1 t2 z2 x1 (some y) va (some (.pointer (some ⟨g, 0, none⟩))) vp none w) (hu : Upd g w w') (hB : Blk w' g t2 (vcells y)) : BxS w0 P1 P2 t1 z1 t2 z2 x1 (some y) va (some (.pointer (some ⟨g, 0, none⟩))) vp (some q) w' := by
  obtain ⟨S1, S2, h1, h2, h3, h4, h5, h6⟩ := h.wit
  obtain ⟨g', cs, e, q1, q2, q3, q4, _⟩ := h6 _ rfl
  simp only [Value.pointer.injEq, Option.some.injEq, Addr.mk.injEq, and_true] at e
  subst e
  have hs := hu.size
  refine ⟨upd_below h.below hu q1, ⟨S1, S2, fun b q => ⟨(h1 b q).1, by have := (h1 b q).2; omega⟩, fun b q => ⟨(h2 b q).1, by have := (h2 b q).2; omega⟩, fun v q => k1 _ _ _ _ (upd_keep hu q2) (h3 v q), fun v q => k2 _ _ _ _ (upd_keep hu q3) (h4 v q), fun v hv => ?_, fun v hv => ?_⟩, h.ne, h.pa, fun e => (by cases e)⟩
  · obtain ⟨g2, cs2, rfl, r1, r2, r3, r4, r5⟩ := h5 v hv
    have := h.ne _ _ hv rfl
    simp only [ne_eq, Value.pointer.injEq, Option.some.injEq, Addr.mk.injEq, and_true] at this
    exact ⟨g2, cs2, rfl, r1, r2, r3, upd_blk r4 hu this, r5⟩
  · exact ⟨g, _, (Option.some.inj hv).symm, q1, q2, q3, hB, fun e => (by cases e), fun u _ => ⟨y, rfl, rfl⟩⟩
end

section
variable {P : Program} {ops : Array Oper} {P1 P2 : (Nat → Prop) → World → Value → Prop}
def valR2 (l : List (Bool × Value)) (i : Nat) (v : Value) : Prop := (l.getD i (true, undef)).1 = true → v = (l.getD i (true, undef)).2
theorem valVal2 {l : List (Bool × Value)} {i : Nat} {v x : Value} {β : Bool} (h : valR2 l i v) (e : l.getD i (true, undef) = (β, x)) (hβ : β = true) : v = x := by
  have := h (by rw [e]; exact hβ)
  rw [e] at this; exact this
structure CtxX (ops : Array Oper) (l : List (Bool × Value)) (chain : List Nat) (n : Fr) (K : Known) (w0 : World) (o : Oper) (a : Act) (w : World) : Prop where
  below : Below w0.heap.size w0 w
  kn : Kn n K a
  dep : ∀ j d, depB ops o j d = true → chain.contains j = false → valR2 l j (a.tmps.getD d undef)
def SoundX (P : Program) (ops : Array Oper) (Q : Exit → Act → World → Prop) (l : List (Bool × Value)) (n : Fr) (K : Known) (w0 : World) (P1 P2 : (Nat → Prop) → World → Value → Prop) (t1 : Nat) (z1 : Array Value) (t2 : Nat) (z2 : Array Value) (ic id ia ib ip iq : Nat) : Nat → List Oper → Prop
  | _, [] => True
  | i, o :: r => (([ic, id, ia, ib, ip, iq].contains i = false ∧ o.guard = none ∧
        (∀ a w, CtxX ops l [ic, id, ia, ib, ip, iq] n K w0 o a w → o.wp P a w (fun a' w' => ∃ v, a' = Act.put a o.dst v ∧ w' = w ∧ valR2 l i v) Q)) ∨
      (i = ic ∧ o.guard = none ∧ ∀ a w, CtxX ops l [ic, id, ia, ib, ip, iq] n K w0 o a w → o.wp P a w (fun a' w' => ∃ v, a' = Act.put a o.dst v ∧ Below w.heap.size w w' ∧ P1 (fun b => w.heap.size ≤ b) w' v) Q) ∨
      (i = id ∧ o.guard = none ∧ ∀ a w, CtxX ops l [ic, id, ia, ib, ip, iq] n K w0 o a w → o.wp P a w (fun a' w' => ∃ v, a' = Act.put a o.dst v ∧ Below w.heap.size w w' ∧ P2 (fun b => w.heap.size ≤ b) w' v) Q) ∨
      (i = ia ∧ o.guard = none ∧ ∀ a w, CtxX ops l [ic, id, ia, ib, ip, iq] n K w0 o a w → o.wp P a w (fun a' w' => a' = Act.put a o.dst (.pointer (some ⟨w.heap.size, 0, none⟩)) ∧ w' = w.alloc (.cells z1 t1)) Q) ∨
      (i = ib ∧ o.guard = none ∧ ∀ a w, CtxX ops l [ic, id, ia, ib, ip, iq] n K w0 o a w → o.wp P a w (fun a' w' => a' = Act.put a o.dst (.pointer (some ⟨w.heap.size, 0, none⟩)) ∧ w' = w.alloc (.cells z2 t2)) Q) ∨
      (i = ip ∧ o.guard = none ∧ ∃ dp dx, depB ops o ia dp = true ∧ depB ops o ic dx = true ∧ ∀ a w g S, CtxX ops l [ic, id, ia, ib, ip, iq] n K w0 o a w → a.tmps.getD dp undef = .pointer (some ⟨g, 0, none⟩) → Blk w g t1 z1 → P1 S w (a.tmps.getD dx undef) → o.wp P a w (fun a' w' => ∃ v, a' = Act.put a o.dst v ∧ Upd g w w' ∧ Blk w' g t1 (vcells (a.tmps.getD dx undef))) Q) ∨
      (i = iq ∧ o.guard = none ∧ ∃ dp dx, depB ops o ib dp = true ∧ depB ops o id dx = true ∧ ∀ a w g S, CtxX ops l [ic, id, ia, ib, ip, iq] n K w0 o a w → a.tmps.getD dp undef = .pointer (some ⟨g, 0, none⟩) → Blk w g t2 z2 → P2 S w (a.tmps.getD dx undef) → o.wp P a w (fun a' w' => ∃ v, a' = Act.put a o.dst v ∧ Upd g w w' ∧ Blk w' g t2 (vcells (a.tmps.getD dx undef))) Q)) ∧ SoundX P ops Q l n K w0 P1 P2 t1 z1 t2 z2 ic id ia ib ip iq (i + 1) r
theorem SoundX.gen (k1 : PKeep P1) (k2 : PKeep P2) (m1 : PMono P1) (m2 : PMono P2) {Q : Exit → Act → World → Prop} {l : List (Bool × Value)} {n : Fr} {K : Known} {w0 : World} {t1 : Nat} {z1 : Array Value} {t2 : Nat} {z2 : Array Value} {ic id ia ib ip iq : Nat} : ∀ {lo : List Oper} {i : Nat}, SoundX P ops Q l n K w0 P1 P2 t1 z1 t2 z2 ic id ia ib ip iq i lo →
    SoundFromG P ops Q [ic, id, ia, ib, ip, iq] (fun i v _ => valR2 l i v) (fun _ _ => True) (BxG w0 P1 P2 t1 z1 t2 z2) n K i lo
  | [], _, _ => trivial
  | o :: r, i, ⟨h, hr⟩ => by
    refine ⟨?_, hr.gen k1 k2 m1 m2⟩
    have mk : ∀ {a : Act} {w : World} {vs : List (Option Value)} (_ : CtxG ops [ic, id, ia, ib, ip, iq] (fun i v _ => valR2 l i v) (BxG w0 P1 P2 t1 z1 t2 z2) n K i o a w vs), CtxX ops l [ic, id, ia, ib, ip, iq] n K w0 o a w := by
      intro a w vs C
      match vs, C.len, C.now with
      | [x1, x2, va, vb, vp, vq], _, hG => exact ⟨BxS.below hG, C.kn, C.dep⟩
    rcases h with ⟨h1, h2, h3⟩ | ⟨rfl, h1, h2⟩ | ⟨rfl, h1, h2⟩ | ⟨rfl, h1, h2⟩ | ⟨rfl, h1, h2⟩ | ⟨rfl, h1, dp, dx, h2, hx, h3⟩ | ⟨rfl, h1, dp, dx, h2, hx, h3⟩
    · refine .inl ⟨h1, true, .none h2, fun g b hb => by (rw [h2] at hb; cases hb), fun e => (by cases e), fun _ a w vs C => ?_⟩
      refine Oper.wpIn_mono ?_ (wpIn_of (h3 a w (mk C)) (by rintro a' w' ⟨v, rfl, _⟩; exact put_defers _ _ _))
      rintro a' w' ⟨v, rfl, rfl, hv⟩
      exact ⟨v, rfl, trivial, C.now, hv⟩
    · refine .inr ⟨0, rfl, h1, fun a w vs C hn => ?_⟩
      refine Oper.wpIn_mono ?_ (wpIn_of (h2 a w (mk C)) (by rintro a' w' ⟨v, rfl, _⟩; exact put_defers _ _ _))
      rintro a' w' ⟨v, rfl, hb, hv⟩
      match vs, C.len, hn, C.now with
      | [x1, x2, va, vb, vp, vq], _, hn, hG =>
        simp only [List.getElem?_cons_zero, Option.some.injEq] at hn
        subst hn
        exact ⟨_, rfl, trivial, BxS.callA k1 k2 m1 hG hb hv⟩
    · refine .inr ⟨1, rfl, h1, fun a w vs C hn => ?_⟩
      refine Oper.wpIn_mono ?_ (wpIn_of (h2 a w (mk C)) (by rintro a' w' ⟨v, rfl, _⟩; exact put_defers _ _ _))
      rintro a' w' ⟨v, rfl, hb, hv⟩
      match vs, C.len, hn, C.now with
      | [x1, x2, va, vb, vp, vq], _, hn, hG =>
        simp only [List.getElem?_cons_zero, List.getElem?_cons_succ, Option.some.injEq] at hn
        subst hn
        exact ⟨_, rfl, trivial, BxS.callB k1 k2 m2 hG hb hv⟩
    · refine .inr ⟨2, rfl, h1, fun a w vs C hn => ?_⟩
      refine Oper.wpIn_mono ?_ (wpIn_of (h2 a w (mk C)) (by rintro a' w' ⟨rfl, _⟩; exact put_defers _ _ _))
      rintro a' w' ⟨rfl, rfl⟩
      match vs, C.len, hn, C.now with
      | [x1, x2, va, vb, vp, vq], _, hn, hG =>
        simp only [List.getElem?_cons_zero, List.getElem?_cons_succ, Option.some.injEq] at hn
        subst hn
        exact ⟨_, rfl, trivial, BxS.allocA k1 k2 hG⟩
    · refine .inr ⟨3, rfl, h1, fun a w vs C hn => ?_⟩
      refine Oper.wpIn_mono ?_ (wpIn_of (h2 a w (mk C)) (by rintro a' w' ⟨rfl, _⟩; exact put_defers _ _ _))
      rintro a' w' ⟨rfl, rfl⟩
      match vs, C.len, hn, C.now with
      | [x1, x2, va, vb, vp, vq], _, hn, hG =>
        simp only [List.getElem?_cons_zero, List.getElem?_cons_succ, Option.some.injEq] at hn
        subst hn
        exact ⟨_, rfl, trivial, BxS.allocB k1 k2 hG⟩
    · refine .inr ⟨4, rfl, h1, fun a w vs C hn => ?_⟩
      have e0 := C.link 2 ia dp rfl h2
      have e1 := C.link 0 ic dx rfl hx
      match vs, C.len, hn, e0, e1, C.now, C with
      | [x1, x2, va, vb, vp, vq], _, hn, e0, e1, hG, C =>
        simp only [List.getElem?_cons_zero, List.getElem?_cons_succ, Option.some.injEq] at hn e0 e1
        subst hn e0 e1
        have hG' : BxS w0 P1 P2 t1 z1 t2 z2 (some (a.tmps.getD dx undef)) x2 (some (a.tmps.getD dp undef)) vb none vq w := hG
        obtain ⟨S1, S2, _, _, p1, _, b1, _⟩ := hG'.wit
        obtain ⟨g, cs, h5, _, _, _, h6, h7, _⟩ := b1 _ rfl
        obtain rfl := h7 rfl
        refine Oper.wpIn_mono ?_ (wpIn_of (h3 a w g S1 (mk C) h5 h6 (p1 _ rfl)) (by rintro a' w' ⟨v, rfl, _⟩; exact put_defers _ _ _))
        rintro a' w' ⟨v, rfl, h7, h8⟩
        refine ⟨v, rfl, trivial, ?_⟩
        show BxS w0 P1 P2 t1 cs t2 z2 (some (a.tmps.getD dx undef)) x2 (some (a.tmps.getD dp undef)) vb (some v) vq w'
        rw [h5] at hG' ⊢
        exact BxS.storeA k1 k2 hG' h7 h8
    · refine .inr ⟨5, rfl, h1, fun a w vs C hn => ?_⟩
      have e0 := C.link 3 ib dp rfl h2
      have e1 := C.link 1 id dx rfl hx
      match vs, C.len, hn, e0, e1, C.now, C with
      | [x1, x2, va, vb, vp, vq], _, hn, e0, e1, hG, C =>
        simp only [List.getElem?_cons_zero, List.getElem?_cons_succ, Option.some.injEq] at hn e0 e1
        subst hn e0 e1
        have hG' : BxS w0 P1 P2 t1 z1 t2 z2 x1 (some (a.tmps.getD dx undef)) va (some (a.tmps.getD dp undef)) vp none w := hG
        obtain ⟨S1, S2, _, _, _, p2, _, b2⟩ := hG'.wit
        obtain ⟨g, cs, h5, _, _, _, h6, h7, _⟩ := b2 _ rfl
        obtain rfl := h7 rfl
        refine Oper.wpIn_mono ?_ (wpIn_of (h3 a w g S2 (mk C) h5 h6 (p2 _ rfl)) (by rintro a' w' ⟨v, rfl, _⟩; exact put_defers _ _ _))
        rintro a' w' ⟨v, rfl, h7, h8⟩
        refine ⟨v, rfl, trivial, ?_⟩
        show BxS w0 P1 P2 t1 z1 t2 cs x1 (some (a.tmps.getD dx undef)) va (some (a.tmps.getD dp undef)) vp (some v) w'
        rw [h5] at hG' ⊢
        exact BxS.storeB k1 k2 hG' h7 h8
theorem WC.box2 {rid : Nat} {dr : Bool} {Q : Exit → Act → World → Prop} {n : Fr} {K : Known} {w : World} (P1 P2 : (Nat → Prop) → World → Value → Prop) (k1 : PKeep P1) (k2 : PKeep P2) (m1 : PMono P1) (m2 : PMono P2) (l : List (Bool × Value)) (K0 : Known) {t1 : Nat} {z1 : Array Value} {t2 : Nat} {z2 : Array Value} (ic id ia ib ip iq da db : Nat)
    (hd : ([ic, id, ia, ib, ip, iq]).Nodup) (hin : (([ic, id, ia, ib, ip, iq]).all fun c => Nat.blt c ops.size) = true) (hda : (ops[ia]?).bind (·.dst) = some da) (hdb : (ops[ib]?).bind (·.dst) = some db)
    (hs : subK K0 K) (hclear : clearB ops K0 = true) (hm : P.follows .mixedOrders = true) (hB : opsB ops n.n = true)
    (h : SoundX P ops Q l n K0 w P1 P2 t1 z1 t2 z2 ic id ia ib ip iq 0 ops.toList)
    (hQ : ∀ (a : Act) (w' : World) (g1 g2 : Nat) (v1 v2 : Value) (S1 S2 : Nat → Prop), Kn n K0 a → Below w.heap.size w w' → w.heap.size ≤ g1 → w.heap.size ≤ g2 → g1 ≠ g2 → Blk w' g1 t1 (vcells v1) → Blk w' g2 t2 (vcells v2) → P1 S1 w' v1 → P2 S2 w' v2 → (∀ b, S1 b → w.heap.size ≤ b ∧ b ≠ g1 ∧ b ≠ g2) → (∀ b, S2 b → w.heap.size ≤ b ∧ b ≠ g1 ∧ b ≠ g2) → a.tmps.getD da undef = .pointer (some ⟨g1, 0, none⟩) → a.tmps.getD db undef = .pointer (some ⟨g2, 0, none⟩) → (∀ i d, (ops[i]?).bind (·.dst) = some d → ([ic, id, ia, ib, ip, iq]).contains i = false → valR2 l i (a.tmps.getD d undef)) → Q .normal a w') :
    WC P n K w (.region rid ops dr) Q := by
  refine WC.gen [ic, id, ia, ib, ip, iq] (fun i v _ => valR2 l i v) (fun _ _ => True) (BxG w P1 P2 t1 z1 t2 z2) K0 hs hclear hm hB hd hin (fun _ _ _ _ h _ => h) ?_ (h.gen k1 k2 m1 m2) (fun a w' vs hk hlen hall hG hu hl => ?_)
  · have st : ∀ w' : World, Below w.heap.size w w' → BxS w P1 P2 t1 z1 t2 z2 none none none none none none w' := fun w' hb => ⟨hb, ⟨fun _ => False, fun _ => False, fun _ h => h.elim, fun _ h => h.elim, fun v hv => (by cases hv), fun v hv => (by cases hv), fun v hv => (by cases hv), fun v hv => (by cases hv)⟩, fun v u hv => (by cases hv), fun _ => rfl, fun _ => rfl⟩
    cases dr with
    | true => exact st _ (Below.refl _ _).drew
    | false => exact st _ (Below.refl _ _)
  · obtain ⟨v0, hv0⟩ := hall 0 (by simp)
    obtain ⟨v1, hv1⟩ := hall 1 (by simp)
    obtain ⟨v2, hv2⟩ := hall 2 (by simp)
    obtain ⟨v3, hv3⟩ := hall 3 (by simp)
    obtain ⟨v4, hv4⟩ := hall 4 (by simp)
    obtain ⟨v5, hv5⟩ := hall 5 (by simp)
    have ha := hl 2 ia da rfl hda
    have hb := hl 3 ib db rfl hdb
    match vs, hlen, hv0, hv1, hv2, hv3, hv4, hv5, hG, ha, hb with
    | [x1, x2, va, vb, vp, vq], _, hv0, hv1, hv2, hv3, hv4, hv5, hG, ha, hb =>
      simp only [List.getElem?_cons_zero, List.getElem?_cons_succ, Option.some.injEq] at hv0 hv1 hv2 hv3 hv4 hv5 ha hb
      subst hv0 hv1 hv4 hv5 ha hb
      have hG' : BxS w P1 P2 t1 z1 t2 z2 (some v0) (some v1) _ _ (some v4) (some v5) w' := hG
      obtain ⟨S1, S2, s1, s2, p1, p2, b1, b2⟩ := hG'.wit
      obtain ⟨g1, cs1, e1, h1, h2, h3, h4, _, h5⟩ := b1 _ rfl
      obtain ⟨g2, cs2, e2, r1, r2, r3, r4, _, r5⟩ := b2 _ rfl
      obtain ⟨y1, f1, rfl⟩ := h5 _ rfl
      obtain ⟨y2, f2, rfl⟩ := r5 _ rfl
      obtain rfl := Option.some.inj f1
      obtain rfl := Option.some.inj f2
      have hne := BxS.ne hG' _ _ rfl rfl
      rw [e1, e2] at hne
      simp only [ne_eq, Value.pointer.injEq, Option.some.injEq, Addr.mk.injEq, and_true] at hne
      exact hQ a w' g1 g2 v0 v1 S1 S2 hk (BxS.below hG') h1 r1 hne h4 r4 (p1 _ rfl) (p2 _ rfl) (fun b q => ⟨(s1 b q).1, fun e => h2 (e ▸ q), fun e => r2 (e ▸ q)⟩) (fun b q => ⟨(s2 b q).1, fun e => h3 (e ▸ q), fun e => r3 (e ▸ q)⟩) e1 e2 hu
end

end Go.Proofs.Ytjhkoiggeepajaa
