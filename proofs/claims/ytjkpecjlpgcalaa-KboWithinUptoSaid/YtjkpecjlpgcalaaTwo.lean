/- Two terms that calls make, each put into a box of its own: 'a, b := F(..), G(..)' where both are boxed. The calls, the boxes, the stores, in whatever order. -/
import Derived.Test.YtjkpecjlpgcalaaMem
import Derived.Test.YtjkpecjlpgcalaaGrow
namespace Go.Proofs.Ytjkpecjlpgcalaa
open Go.RowKit Go

/-- Blocks that a call may leave, but for the two boxes. -/
def Fr (B N : Nat) (g1 g2 : Option Nat) (b : Nat) : Prop := New B N b ∧ g1 ≠ some b ∧ g2 ≠ some b
def ptr (g : Nat) : Value := .pointer (some ⟨g, 0, none⟩)

structure StG (B : Nat) (w0 : World) (a b : T) (c1 c2 a1 a2 s1 s2 : Option Value) (g1 g2 : Option Nat) (w : World) : Prop where
  le : B ≤ w0.heap.size
  below : Below w0.heap.size w0 w
  p1 : a1 = g1.map ptr
  p2 : a2 = g2.map ptr
  lo : ∀ g, g1 = some g ∨ g2 = some g → w0.heap.size ≤ g
  ne : ∀ g, g1 = some g → g2 ≠ some g
  b1 : ∀ g, g1 = some g → ∃ x y, Blk w g 27 #[x, y] ∧ (s1 ≠ none → c1 = some (.agg #[x, y]))
  b2 : ∀ g, g2 = some g → ∃ x y, Blk w g 27 #[x, y] ∧ (s2 ≠ none → c2 = some (.agg #[x, y]))
  v1 : ∀ v, c1 = some v → InT (Fr B w0.heap.size g1 g2) w a v
  v2 : ∀ v, c2 = some v → InT (Fr B w0.heap.size g1 g2) w b v

def TwoG (B : Nat) (w0 : World) (a b : T) : List (Option Value) → World → Prop
  | [c1, c2, a1, a2, s1, s2], w => ∃ g1 g2, StG B w0 a b c1 c2 a1 a2 s1 s2 g1 g2 w
  | _, _ => False

section
variable {B : Nat} {w0 w : World} {a b : T} {c1 c2 a1 a2 s1 s2 : Option Value} {g1 g2 : Option Nat}

theorem StG.lt (h : StG B w0 a b c1 c2 a1 a2 s1 s2 g1 g2 w) : ∀ g, g1 = some g ∨ g2 = some g → g < w.heap.size := by
  rintro g (e | e)
  · obtain ⟨_, _, hb, _⟩ := h.b1 g e; exact hb.lt
  · obtain ⟨_, _, hb, _⟩ := h.b2 g e; exact hb.lt

theorem StG.start (hle : B ≤ w0.heap.size) (hb : Below w0.heap.size w0 w) : StG B w0 a b none none none none none none none none w :=
  ⟨hle, hb, rfl, rfl, fun _ h => by simp at h, fun _ h => by simp at h, fun _ h => by simp at h, fun _ h => by simp at h, fun _ h => by simp at h, fun _ h => by simp at h⟩

theorem StG.fresh (h : StG B w0 a b c1 c2 a1 a2 s1 s2 g1 g2 w) {w' : World} {t : T} {v : Value} (hv : InT (New B w.heap.size) w' t v) : InT (Fr B w0.heap.size g1 g2) w' t v := by
  have hlt := h.lt
  have hlo := h.lo
  have hle := h.le
  have hsz := h.below.size
  refine hv.mono fun b hb _ => ⟨hb.imp id (fun h => by omega), fun e => ?_, fun e => ?_⟩
  · have := hlt b (.inl e); have := hlo b (.inl e); rcases hb with hb | hb <;> omega
  · have := hlt b (.inr e); have := hlo b (.inr e); rcases hb with hb | hb <;> omega

theorem StG.call1 {w' : World} {v : Value} (h : StG B w0 a b none c2 a1 a2 none s2 g1 g2 w) (hv : InT (New B w.heap.size) w' a v) (hb : Below w.heap.size w w') : StG B w0 a b (some v) c2 a1 a2 none s2 g1 g2 w' := by
  refine ⟨h.le, bstep h.below hb, h.p1, h.p2, h.lo, h.ne, fun g hg => ?_, fun g hg => ?_, fun v' hv' => ?_, fun v' hv' => (h.v2 v' hv').below hb⟩
  · obtain ⟨x, y, h1, _⟩ := h.b1 g hg; exact ⟨x, y, h1.below hb, fun e => absurd rfl e⟩
  · obtain ⟨x, y, h1, h2⟩ := h.b2 g hg; exact ⟨x, y, h1.below hb, h2⟩
  · simp only [Option.some.injEq] at hv'; subst hv'; exact h.fresh hv
theorem StG.call2 {w' : World} {v : Value} (h : StG B w0 a b c1 none a1 a2 s1 none g1 g2 w) (hv : InT (New B w.heap.size) w' b v) (hb : Below w.heap.size w w') : StG B w0 a b c1 (some v) a1 a2 s1 none g1 g2 w' := by
  refine ⟨h.le, bstep h.below hb, h.p1, h.p2, h.lo, h.ne, fun g hg => ?_, fun g hg => ?_, fun v' hv' => (h.v1 v' hv').below hb, fun v' hv' => ?_⟩
  · obtain ⟨x, y, h1, h2⟩ := h.b1 g hg; exact ⟨x, y, h1.below hb, h2⟩
  · obtain ⟨x, y, h1, _⟩ := h.b2 g hg; exact ⟨x, y, h1.below hb, fun e => absurd rfl e⟩
  · simp only [Option.some.injEq] at hv'; subst hv'; exact h.fresh hv

theorem StG.keepN (h : StG B w0 a b c1 c2 a1 a2 s1 s2 g1 g2 w) {o : Obj} {t : T} {v : Value} (hv : InT (Fr B w0.heap.size g1 g2) w t v) : InT (fun b => New B w0.heap.size b ∧ b < w.heap.size ∧ g1 ≠ some b ∧ g2 ≠ some b) (w.alloc o) t v :=
  (hv.mono fun b hb hlt => ⟨hb.1, hlt, hb.2⟩).below (balloc w o)

theorem StG.alloc1 {x y : Value} (h : StG B w0 a b c1 c2 none a2 none s2 g1 g2 w) : StG B w0 a b c1 c2 (some (ptr w.heap.size)) a2 none s2 (some w.heap.size) g2 (w.alloc (.cells #[x, y] 27)) := by
  have hb := balloc w (.cells #[x, y] 27)
  have hlt := h.lt
  have hsz := h.below.size
  refine ⟨h.le, bstep h.below hb, rfl, h.p2, ?_, ?_, fun g hg => ?_, fun g hg => ?_, fun v' hv' => ?_, fun v' hv' => ?_⟩
  · rintro g (e | e)
    · simp only [Option.some.injEq] at e; omega
    · exact h.lo g (.inr e)
  · intro g e e2; simp only [Option.some.injEq] at e; have := hlt g (.inr e2); omega
  · simp only [Option.some.injEq] at hg; subst hg; exact ⟨x, y, Blk.new' rfl, fun e => absurd rfl e⟩
  · obtain ⟨x', y', h1, h2⟩ := h.b2 g hg; exact ⟨x', y', h1.below hb, h2⟩
  · exact (h.keepN (h.v1 v' hv')).mono fun b hb _ => ⟨hb.1, fun e => by simp only [Option.some.injEq] at e; omega, hb.2.2.2⟩
  · exact (h.keepN (h.v2 v' hv')).mono fun b hb _ => ⟨hb.1, fun e => by simp only [Option.some.injEq] at e; omega, hb.2.2.2⟩
theorem StG.alloc2 {x y : Value} (h : StG B w0 a b c1 c2 a1 none s1 none g1 g2 w) : StG B w0 a b c1 c2 a1 (some (ptr w.heap.size)) s1 none g1 (some w.heap.size) (w.alloc (.cells #[x, y] 27)) := by
  have hb := balloc w (.cells #[x, y] 27)
  have hlt := h.lt
  have hsz := h.below.size
  refine ⟨h.le, bstep h.below hb, h.p1, rfl, ?_, ?_, fun g hg => ?_, fun g hg => ?_, fun v' hv' => ?_, fun v' hv' => ?_⟩
  · rintro g (e | e)
    · exact h.lo g (.inl e)
    · simp only [Option.some.injEq] at e; omega
  · intro g e e2; simp only [Option.some.injEq] at e2; have := hlt g (.inl e); omega
  · obtain ⟨x', y', h1, h2⟩ := h.b1 g hg; exact ⟨x', y', h1.below hb, h2⟩
  · simp only [Option.some.injEq] at hg; subst hg; exact ⟨x, y, Blk.new' rfl, fun e => absurd rfl e⟩
  · exact (h.keepN (h.v1 v' hv')).mono fun b hb _ => ⟨hb.1, hb.2.2.1, fun e => by simp only [Option.some.injEq] at e; omega⟩
  · exact (h.keepN (h.v2 v' hv')).mono fun b hb _ => ⟨hb.1, hb.2.2.1, fun e => by simp only [Option.some.injEq] at e; omega⟩

theorem InT.far2 {S : Nat → Prop} {g : Nat} {x y v : Value} {t : T} (hg : ¬ S g) (h : InT S w t v) : InT S ((w.setCell ⟨g, 0, none⟩ x).setCell ⟨g, 1, none⟩ y) t v := New.far hg rfl (New.far hg rfl h)

theorem StG.store1 {g : Nat} {x y q : Value} (h : StG B w0 a b (some (.agg #[x, y])) c2 a1 a2 none s2 (some g) g2 w) : StG B w0 a b (some (.agg #[x, y])) c2 a1 a2 (some q) s2 (some g) g2 ((w.setCell ⟨g, 0, none⟩ x).setCell ⟨g, 1, none⟩ y) := by
  have hlo := h.lo g (.inl rfl)
  obtain ⟨x', y', hB, _⟩ := h.b1 g rfl
  refine ⟨h.le, (h.below.setCell (p := ⟨g, 0, none⟩) hlo _).setCell (p := ⟨g, 1, none⟩) hlo _, h.p1, h.p2, h.lo, h.ne, fun g' hg => ?_, fun g' hg => ?_, fun v' hv' => (h.v1 v' hv').far2 (fun e => e.2.1 rfl), fun v' hv' => (h.v2 v' hv').far2 (fun e => e.2.1 rfl)⟩
  · simp only [Option.some.injEq] at hg; subst hg
    exact ⟨x, y, by simpa using (hB.set_ 0 x).set_ 1 y, fun _ => rfl⟩
  · obtain ⟨u, v, h1, h2⟩ := h.b2 g' hg
    have hne : g' ≠ g := fun e => h.ne g rfl (by rw [← e]; exact hg)
    exact ⟨u, v, (h1.far (p := ⟨g, 0, none⟩) (by simpa using hne) _).far (p := ⟨g, 1, none⟩) (by simpa using hne) _, h2⟩
theorem StG.store2 {g : Nat} {x y q : Value} (h : StG B w0 a b c1 (some (.agg #[x, y])) a1 a2 s1 none g1 (some g) w) : StG B w0 a b c1 (some (.agg #[x, y])) a1 a2 s1 (some q) g1 (some g) ((w.setCell ⟨g, 0, none⟩ x).setCell ⟨g, 1, none⟩ y) := by
  have hlo := h.lo g (.inr rfl)
  obtain ⟨x', y', hB, _⟩ := h.b2 g rfl
  refine ⟨h.le, (h.below.setCell (p := ⟨g, 0, none⟩) hlo _).setCell (p := ⟨g, 1, none⟩) hlo _, h.p1, h.p2, h.lo, h.ne, fun g' hg => ?_, fun g' hg => ?_, fun v' hv' => (h.v1 v' hv').far2 (fun e => e.2.2 rfl), fun v' hv' => (h.v2 v' hv').far2 (fun e => e.2.2 rfl)⟩
  · obtain ⟨u, v, h1, h2⟩ := h.b1 g' hg
    have hne : g' ≠ g := fun e => h.ne g' hg (by rw [e])
    exact ⟨u, v, (h1.far (p := ⟨g, 0, none⟩) (by simpa using hne) _).far (p := ⟨g, 1, none⟩) (by simpa using hne) _, h2⟩
  · simp only [Option.some.injEq] at hg; subst hg
    exact ⟨x, y, by simpa using (hB.set_ 0 x).set_ 1 y, fun _ => rfl⟩

theorem six {vs : List (Option Value)} (h : vs.length = 6) : ∃ a b c d e f, vs = [a, b, c, d, e, f] := by
  match vs, h with
  | [a, b, c, d, e, f], _ => exact ⟨a, b, c, d, e, f, rfl⟩

theorem TwoG.out {vs : List (Option Value)} (h : TwoG B w0 a b vs w) : ∃ c1 c2 a1 a2 s1 s2 g1 g2, vs = [c1, c2, a1, a2, s1, s2] ∧ StG B w0 a b c1 c2 a1 a2 s1 s2 g1 g2 w := by
  unfold TwoG at h
  split at h
  · obtain ⟨g1, g2, h⟩ := h
    exact ⟨_, _, _, _, _, _, g1, g2, rfl, h⟩
  · exact h.elim

theorem TwoG.below {vs : List (Option Value)} (h : TwoG B w0 a b vs w) : Below w0.heap.size w0 w := by
  obtain ⟨_, _, _, _, _, _, _, _, _, h⟩ := h.out
  exact h.below
theorem TwoG.le {vs : List (Option Value)} (h : TwoG B w0 a b vs w) : B ≤ w.heap.size := by
  obtain ⟨_, _, _, _, _, _, _, _, _, h⟩ := h.out
  have := h.le
  have := h.below.size
  omega

variable {av : Act} {K : Act → World → Prop} {Q : Exit → Act → World → Prop} {o : Oper}
theorem wp_allocT (ho : o.op = .alloc 27) (hK : K (av.put o.dst (.pointer (some ⟨w.heap.size, 0, none⟩))) (w.alloc (.cells #[.int .i64 0, .slice none 0 0] 27))) : o.wp Try.prog av w K Q := by
  unfold Oper.wp execOp
  simp only [ho]
  go_simp
  exact hK
theorem wp_storeTerm {x y : Operand} {g : Nat} {f : Int} {ra : Option Addr} {rn rc : Nat} {q0 q1 : Value} (ho : o.op = .store 27 x y) (hx : av.eval x = .pointer (some ⟨g, 0, none⟩)) (hy : av.eval y = .agg #[.int .i64 f, .slice ra rn rc]) (hB : Blk w g 27 #[q0, q1])
    (hK : ∀ v, K (av.put o.dst v) ((w.setCell ⟨g, 0, none⟩ (.int .i64 f)).setCell ⟨g, 1, none⟩ (.slice ra rn rc))) : o.wp Try.prog av w K Q := by
  have h0 := hB.cell 0
  have h1 := hB.cell 1
  have f0 := hB.frozen 0
  have f1 := hB.frozen 1
  simp only [List.getElem?_toArray, List.getElem?_cons_zero, List.getElem?_cons_succ] at h0 h1
  unfold Oper.wp execOp
  simp only [ho, hx, hy]
  go_simp
  exact hK _

theorem StG.store1_op {x y : Operand} {p v : Value} (h : StG B w0 a b c1 c2 a1 a2 none s2 g1 g2 w) (ho : o.op = .store 27 x y) (hc : c1 = some v) (ha : a1 = some p) (hx : av.eval x = p) (hy : av.eval y = v)
    (hK : ∀ q w', (∃ g1 g2, StG B w0 a b c1 c2 a1 a2 (some q) s2 g1 g2 w') → K (av.put o.dst q) w') : o.wp Try.prog av w K Q := by
  subst hc ha
  have hp := h.p1
  cases g1 with
  | none => cases hp
  | some g =>
    simp only [Option.map_some, Option.some.injEq] at hp
    subst hp
    obtain ⟨_, ra, rc, hv, _⟩ := (h.v1 v rfl).form
    subst hv
    obtain ⟨x0, y0, hB, _⟩ := h.b1 g rfl
    exact wp_storeTerm ho hx hy hB (fun q => hK q _ ⟨_, _, h.store1⟩)
theorem StG.store2_op {x y : Operand} {p v : Value} (h : StG B w0 a b c1 c2 a1 a2 s1 none g1 g2 w) (ho : o.op = .store 27 x y) (hc : c2 = some v) (ha : a2 = some p) (hx : av.eval x = p) (hy : av.eval y = v)
    (hK : ∀ q w', (∃ g1 g2, StG B w0 a b c1 c2 a1 a2 s1 (some q) g1 g2 w') → K (av.put o.dst q) w') : o.wp Try.prog av w K Q := by
  subst hc ha
  have hp := h.p2
  cases g2 with
  | none => cases hp
  | some g =>
    simp only [Option.map_some, Option.some.injEq] at hp
    subst hp
    obtain ⟨_, ra, rc, hv, _⟩ := (h.v2 v rfl).form
    subst hv
    obtain ⟨x0, y0, hB, _⟩ := h.b2 g rfl
    exact wp_storeTerm ho hx hy hB (fun q => hK q _ ⟨_, _, h.store2⟩)

/-- All is done. -/
theorem StG.end_ {q1 q2 p1 p2 u1 u2 : Value} (h : StG B w0 a b (some u1) (some u2) (some p1) (some p2) (some q1) (some q2) g1 g2 w) :
    ∃ g h' x y z r, p1 = .pointer (some ⟨g, 0, none⟩) ∧ p2 = .pointer (some ⟨h', 0, none⟩) ∧ Box w g [x, y] ∧ Box w h' [z, r] ∧ IsT w a (.agg #[x, y]) ∧ IsT w b (.agg #[z, r]) := by
  have e1 := h.p1
  have e2 := h.p2
  cases g1 with
  | none => cases e1
  | some g =>
    cases g2 with
    | none => cases e2
    | some h' =>
      simp only [Option.map_some, Option.some.injEq] at e1 e2
      obtain ⟨x, y, hB, hv⟩ := h.b1 g rfl
      obtain ⟨z, r, hB', hv'⟩ := h.b2 h' rfl
      have hv := hv (by simp)
      have hv' := hv' (by simp)
      simp only [Option.some.injEq] at hv hv'
      subst hv hv'
      exact ⟨g, h', x, y, z, r, e1, e2, fun i v hi => by rw [hB.cell]; simpa using hi, fun i v hi => by rw [hB'.cell]; simpa using hi, (h.v1 _ rfl).isT, (h.v2 _ rfl).isT⟩
end
end Go.Proofs.Ytjkpecjlpgcalaa
