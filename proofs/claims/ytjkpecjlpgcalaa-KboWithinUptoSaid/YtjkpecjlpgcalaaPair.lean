/- 'x, ok := F(..)' where x is boxed: the call, its parts, the box, the store, in whatever order. -/
import Derived.Test.YtjkpecjlpgcalaaTwo
import Derived.Test.YtjkpecjlpgcalaaOps
namespace Go.Proofs.Ytjkpecjlpgcalaa
open Go.RowKit Go

structure RpG (B : Nat) (w0 : World) (x : T) (c m e0 e1 al st as_ : Option Value) (g : Option Nat) (w : World) : Prop where
  le : B ≤ w0.heap.size
  below : Below w0.heap.size w0 w
  pc : ∀ v, c = some v → ∃ v', v = .tuple #[v', .bool true] ∧ InT (fun b => New B w0.heap.size b ∧ g ≠ some b) w x v'
  pm : ∀ v, m = some v → c = some v
  p0 : ∀ v, e0 = some v → c = some (.tuple #[v, .bool true])
  p1 : ∀ v, e1 = some v → v = .bool true
  ps : ∀ v, as_ = some v → v = .bool true
  pa : al = g.map ptr
  lo : ∀ g', g = some g' → w0.heap.size ≤ g'
  pb : ∀ g', g = some g' → ∃ y z, Blk w g' 27 #[y, z] ∧ (st ≠ none → e0 = some (.agg #[y, z]))

def PairG (B : Nat) (w0 : World) (x : T) : List (Option Value) → World → Prop
  | [c, m, e0, e1, al, st, as_], w => ∃ g, RpG B w0 x c m e0 e1 al st as_ g w
  | _, _ => False

section
variable {B : Nat} {w0 w w' : World} {x : T} {c m e0 e1 al st as_ : Option Value} {g : Option Nat}

theorem RpG.start (hle : B ≤ w0.heap.size) (hb : Below w0.heap.size w0 w) : RpG B w0 x none none none none none none none none w :=
  ⟨hle, hb, fun _ h => by simp at h, fun _ h => by simp at h, fun _ h => by simp at h, fun _ h => by simp at h, fun _ h => by simp at h, rfl, fun _ h => by simp at h, fun _ h => by simp at h⟩

theorem RpG.lt (h : RpG B w0 x c m e0 e1 al st as_ g w) : ∀ g', g = some g' → g' < w.heap.size := fun g' e => by
  obtain ⟨_, _, hb, _⟩ := h.pb g' e; exact hb.lt

theorem RpG.call {v' : Value} (h : RpG B w0 x none m e0 e1 al none as_ g w) (hv : InT (New B w.heap.size) w' x v') (hb : Below w.heap.size w w') : RpG B w0 x (some (.tuple #[v', .bool true])) m e0 e1 al none as_ g w' := by
  have hsz := h.below.size
  have hle := h.le
  refine ⟨h.le, bstep h.below hb, fun v e => ?_, fun v e => ?_, fun v e => ?_, h.p1, h.ps, h.pa, h.lo, fun g' e => ?_⟩
  · simp only [Option.some.injEq] at e; subst e
    refine ⟨v', rfl, hv.mono fun b hb _ => ⟨hb.imp id (fun h => by omega), fun e => ?_⟩⟩
    have := h.lt b e; have := h.lo b e; rcases hb with hb | hb <;> omega
  · have := h.pm v e; cases this
  · have := h.p0 v e; cases this
  · obtain ⟨y, z, h1, _⟩ := h.pb g' e; exact ⟨y, z, h1.below hb, fun e => absurd rfl e⟩

theorem RpG.move {v : Value} (h : RpG B w0 x (some v) none e0 e1 al st as_ g w) : RpG B w0 x (some v) (some v) e0 e1 al st as_ g w := ⟨h.le, h.below, h.pc, fun _ e => e, h.p0, h.p1, h.ps, h.pa, h.lo, h.pb⟩
theorem RpG.first {v' : Value} (h : RpG B w0 x (some (.tuple #[v', .bool true])) m none e1 al none as_ g w) : RpG B w0 x (some (.tuple #[v', .bool true])) m (some v') e1 al none as_ g w :=
  ⟨h.le, h.below, h.pc, h.pm, fun v e => by simp only [Option.some.injEq] at e; rw [e], h.p1, h.ps, h.pa, h.lo, fun g' e => by obtain ⟨y, z, h1, _⟩ := h.pb g' e; exact ⟨y, z, h1, fun e => absurd rfl e⟩⟩
theorem RpG.first_ {t v' : Value} (h : RpG B w0 x (some t) m none e1 al none as_ g w) (e : t = .tuple #[v', .bool true]) : RpG B w0 x (some t) m (some v') e1 al none as_ g w := by subst e; exact h.first
theorem tuple_of {P : Program} {F : FuncId} {vs : Array Value} {R : Value → World → Prop} (h : Calls P F vs w fun e w' => ∃ v', e = .returned (.tuple #[v', .bool true]) ∧ R v' w') : Calls P F vs w fun e w' => ∃ v, e = .returned v ∧ (∃ v', v = .tuple #[v', .bool true] ∧ R v' w') :=
  h.mono (by rintro e w' ⟨v', rfl, h⟩; exact ⟨_, rfl, v', rfl, h⟩)
theorem RpG.second (h : RpG B w0 x c m e0 none al st as_ g w) : RpG B w0 x c m e0 (some (.bool true)) al st as_ g w :=
  ⟨h.le, h.below, h.pc, h.pm, h.p0, fun v e => by simp only [Option.some.injEq] at e; exact e.symm, h.ps, h.pa, h.lo, h.pb⟩
theorem RpG.assign (h : RpG B w0 x c m e0 e1 al st none g w) : RpG B w0 x c m e0 e1 al st (some (.bool true)) g w :=
  ⟨h.le, h.below, h.pc, h.pm, h.p0, h.p1, fun v e => by simp only [Option.some.injEq] at e; exact e.symm, h.pa, h.lo, h.pb⟩
theorem RpG.alloc {y z : Value} (h : RpG B w0 x c m e0 e1 none none as_ g w) : RpG B w0 x c m e0 e1 (some (ptr w.heap.size)) none as_ (some w.heap.size) (w.alloc (.cells #[y, z] 27)) := by
  have hb := balloc w (.cells #[y, z] 27)
  have hsz := h.below.size
  refine ⟨h.le, bstep h.below hb, fun v e => ?_, h.pm, h.p0, h.p1, h.ps, rfl, fun g' e => by simp only [Option.some.injEq] at e; omega, fun g' e => ?_⟩
  · obtain ⟨v', e', hv⟩ := h.pc v e
    refine ⟨v', e', (hv.mono (S' := fun b => New B w0.heap.size b ∧ b < w.heap.size) fun b hb hlt => ⟨hb.1, hlt⟩).below hb |>.mono fun b hb _ => ⟨hb.1, fun e => ?_⟩⟩
    simp only [Option.some.injEq] at e
    omega
  · simp only [Option.some.injEq] at e; subst e; exact ⟨y, z, Blk.new' rfl, fun e => absurd rfl e⟩
theorem RpG.store {g' : Nat} {y z q : Value} (h : RpG B w0 x c m (some (.agg #[y, z])) e1 al none as_ (some g') w) : RpG B w0 x c m (some (.agg #[y, z])) e1 al (some q) as_ (some g') ((w.setCell ⟨g', 0, none⟩ y).setCell ⟨g', 1, none⟩ z) := by
  have hlo := h.lo g' rfl
  obtain ⟨y', z', hB, _⟩ := h.pb g' rfl
  refine ⟨h.le, (h.below.setCell (p := ⟨g', 0, none⟩) hlo _).setCell (p := ⟨g', 1, none⟩) hlo _, fun v e => ?_, h.pm, h.p0, h.p1, h.ps, h.pa, h.lo, fun g2 e => ?_⟩
  · obtain ⟨v', e', hv⟩ := h.pc v e
    exact ⟨v', e', hv.far2 (fun e => e.2 rfl)⟩
  · simp only [Option.some.injEq] at e; subst e
    exact ⟨y, z, by simpa using (hB.set_ 0 y).set_ 1 z, fun _ => rfl⟩

theorem seven {vs : List (Option Value)} (h : vs.length = 7) : ∃ a b c d e f g, vs = [a, b, c, d, e, f, g] := by
  match vs, h with
  | [a, b, c, d, e, f, g], _ => exact ⟨a, b, c, d, e, f, g, rfl⟩
theorem PairG.out {vs : List (Option Value)} (h : PairG B w0 x vs w) : ∃ c m e0 e1 al st as_ g, vs = [c, m, e0, e1, al, st, as_] ∧ RpG B w0 x c m e0 e1 al st as_ g w := by
  unfold PairG at h
  split at h
  · obtain ⟨g, h⟩ := h
    exact ⟨_, _, _, _, _, _, _, g, rfl, h⟩
  · exact h.elim
theorem PairG.below {vs : List (Option Value)} (h : PairG B w0 x vs w) : Below w0.heap.size w0 w := by
  obtain ⟨_, _, _, _, _, _, _, _, _, h⟩ := h.out; exact h.below
theorem PairG.le {vs : List (Option Value)} (h : PairG B w0 x vs w) : B ≤ w.heap.size := by
  obtain ⟨_, _, _, _, _, _, _, _, _, h⟩ := h.out
  have := h.le; have := h.below.size; omega

variable {av : Act} {K : Act → World → Prop} {Q : Exit → Act → World → Prop} {o : Oper}
theorem wp_extract0 {y : Operand} {u v : Value} (ho : o.op = .extract y 0) (hy : av.eval y = .tuple #[u, v]) (hK : K (av.put o.dst u) w) : o.wp Try.prog av w K Q := by
  unfold Oper.wp execOp
  simp only [ho, hy]
  go_simp
  exact hK
theorem wp_extract1 {y : Operand} {u v : Value} (ho : o.op = .extract y 1) (hy : av.eval y = .tuple #[u, v]) (hK : K (av.put o.dst v) w) : o.wp Try.prog av w K Q := by
  unfold Oper.wp execOp
  simp only [ho, hy]
  go_simp
  exact hK
theorem wp_slice1 {y : Operand} {b p n c : Nat} (ho : o.op = .slice 43 y (some (.const (.int .i64 1))) none none) (hy : av.eval y = .slice (some ⟨b, p, none⟩) (n + 1) c) (hc : n + 1 ≤ c) (_ : c ≤ 9223372036854775807) (hK : K (av.put o.dst (.slice (if c = 1 then some ⟨b, p, none⟩ else some ⟨b, p + 1, none⟩) n (c - 1))) w) : o.wp Try.prog av w K Q := by
  have h1 : (1 : Int) ≤ ((n : Int) + 1) := by omega
  have h2 : ((n : Int) + 1) ≤ (c : Int) := by omega
  have h3 : 1 ≤ n + 1 := by omega
  unfold Oper.wp execOp
  simp only [ho, hy]
  go_simp
  exact hK

theorem RpG.store_op {y z : Operand} {p v : Value} (h : RpG B w0 x c m e0 e1 al none as_ g w) (ho : o.op = .store 27 y z) (hc : e0 = some v) (ha : al = some p) (hx : av.eval y = p) (hy : av.eval z = v)
    (hK : ∀ q w', (∃ g, RpG B w0 x c m e0 e1 al (some q) as_ g w') → K (av.put o.dst q) w') : o.wp Try.prog av w K Q := by
  subst hc ha
  have hp := h.pa
  cases g with
  | none => cases hp
  | some g =>
    simp only [Option.map_some, Option.some.injEq] at hp
    subst hp
    obtain ⟨v', e', hv⟩ := h.pc _ (h.p0 v rfl)
    simp only [Value.tuple.injEq, Array.mk.injEq, List.cons.injEq, and_true] at e'
    obtain ⟨_, ra, rc, hv2, _⟩ := hv.form
    rw [← e'] at hv2
    subst hv2
    obtain ⟨x0, y0, hB, _⟩ := h.pb g rfl
    exact wp_storeTerm ho hx hy hB (fun q => hK q _ ⟨_, h.store⟩)

/-- All is done. -/
theorem RpG.end_ {q1 q2 q3 q4 q5 q6 q7 : Value} (h : RpG B w0 x (some q1) (some q2) (some q3) (some q4) (some q5) (some q6) (some q7) g w) :
    ∃ h' y z, q5 = .pointer (some ⟨h', 0, none⟩) ∧ w0.heap.size ≤ h' ∧ Blk w h' 27 #[y, z] ∧ q7 = .bool true ∧ InT (fun b => New B w0.heap.size b ∧ b ≠ h') w x (.agg #[y, z]) := by
  have e1 := h.pa
  cases g with
  | none => cases e1
  | some h' =>
    simp only [Option.map_some, Option.some.injEq] at e1
    obtain ⟨y, z, hB, hv⟩ := h.pb h' rfl
    have hv := hv (by simp)
    simp only [Option.some.injEq] at hv
    subst hv
    obtain ⟨v', e', hI⟩ := h.pc _ (h.p0 _ rfl)
    simp only [Value.tuple.injEq, Array.mk.injEq, List.cons.injEq, and_true] at e'
    rw [← e'] at hI
    exact ⟨h', y, z, e1, h.lo h' rfl, hB, h.ps _ rfl, hI.mono fun b hb _ => ⟨hb.1, fun e => hb.2 (by rw [e])⟩⟩
end
end Go.Proofs.Ytjkpecjlpgcalaa
