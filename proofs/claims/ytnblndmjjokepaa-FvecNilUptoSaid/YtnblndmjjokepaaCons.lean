/- Terms, literals, clauses that are built in a region: what is known of each. -/
import Derived.Test.YtnblndmjjokepaaLit
namespace Go.Proofs.Ytnblndmjjokepaa
open Go.RowKit Go
set_option linter.unusedVariables false
set_option linter.unusedSimpArgs false

/-- The value is a row of terms. -/
def RowT (l : List T) (v : Value) (w : World) : Prop := ∃ (a : Option Addr) (c : Nat), v = .slice a l.length c ∧ l.length ≤ c ∧ c ≤ maxLen ∧ IsTs w l a 0
theorem RowT.below {l : List T} {v : Value} {w w' : World} (hb : Below w.heap.size w w') (h : RowT l v w) : RowT l v w' := by
  obtain ⟨a, c, e, h1, h2, h3⟩ := h
  exact ⟨a, c, e, h1, h2, h3.below hb⟩
theorem RowT.nil {w : World} : RowT [] (.slice none 0 0) w := ⟨none, 0, rfl, Nat.le_refl _, Nat.zero_le _, trivial⟩
/-- The value is a clause. -/
def RowC (l : List Li) (v : Value) (w : World) : Prop := ∃ (a : Option Addr) (c : Nat), v = .slice a l.length c ∧ IsCl w l a c
theorem RowC.below {l : List Li} {v : Value} {w w' : World} (hb : Below w.heap.size w w') (h : RowC l v w) : RowC l v w' := by
  obtain ⟨a, c, e, h1⟩ := h
  exact ⟨a, c, e, h1.below hb⟩
theorem isT_mk {w : World} {f : Int} {l : List T} {a : Option Addr} {n c : Nat} (hf : I64 f) (h : RowT l (.slice a n c) w) : IsT w (.mk f l) (.agg #[.int .i64 f, .slice a n c]) := by
  obtain ⟨a', c', e, h1, h2, h3⟩ := h
  simp only [Value.slice.injEq] at e
  obtain ⟨rfl, rfl, rfl⟩ := e
  exact ⟨hf, _, _, rfl, h1, h2, h3⟩
theorem isT_lf {w : World} {f : Int} (hf : -9223372036854775808 ≤ f ∧ f ≤ 9223372036854775807) : IsT w (.mk f []) (.agg #[.int .i64 f, .slice none 0 0]) := isT_mk hf RowT.nil
theorem isT_keep {t : T} (v : Value) (w w' : World) (hb : Below w.heap.size w w') (h : IsT w t v) : IsT w' t v := h.below hb
theorem isLi_keep {x : Li} (v : Value) (w w' : World) (hb : Below w.heap.size w w') (h : IsLi w x v) : IsLi w' x v := h.below hb
theorem isLi_of {w : World} {x : Li} {u1 u2 u3 u4 : Value} (h1 : IsT w x.l (.agg #[u1, u2])) (h2 : IsT w x.r (.agg #[u3, u4])) : IsLi w x (.agg #[.bool x.neg, u1, u2, u3, u4]) := ⟨_, _, _, _, rfl, h1, h2⟩
theorem isLi_two {w : World} {x : Li} {v0 u1 u2 u3 u4 : Value} (h : IsLi w x (.agg #[v0, u1, u2, u3, u4])) : v0 = .bool x.neg ∧ IsT w x.l (.agg #[u1, u2]) ∧ IsT w x.r (.agg #[u3, u4]) := by
  obtain ⟨_, _, _, _, e, h1, h2⟩ := h
  simp only [Value.agg.injEq, Array.mk.injEq, List.cons.injEq, and_true] at e
  obtain ⟨rfl, rfl, rfl, rfl, rfl⟩ := e
  exact ⟨rfl, h1, h2⟩
theorem IsT.inAny {w : World} {t : T} {v : Value} (h : IsT w t v) : InT (fun _ => True) w t v := h.inT.mono (fun _ _ _ => trivial)
/-- A row of literals, out of its block. -/
theorem isCl_blk {w : World} {g t : Nat} {l : List Li} {cs : List (List Value)} (hB : Blk w g t cs.flatten.toArray) (hl : cs.length = l.length) (h5 : ∀ c ∈ cs, c.length = 5)
    (h : ∀ i (hi : i < l.length) (hc : i < cs.length), IsLi w l[i] (.agg cs[i].toArray)) (hn : l.length ≤ 1000) (hz : ∀ x ∈ l, x.l.size ≤ 4294967296 ∧ x.r.size ≤ 4294967296) : IsCl w l (some ⟨g, 0, none⟩) l.length := by
  refine ⟨fun i hi => ?_, Nat.le_refl _, by unfold maxLen; omega, by omega, fun b hb => (hz b hb).1, fun b hb => (hz b hb).2⟩
  have hc : i < cs.length := by omega
  obtain ⟨u1, u2, u3, u4, e, h1, h2⟩ := h i hi hc
  simp only [Value.agg.injEq] at e
  have e' : cs[i] = [.bool l[i].neg, u1, u2, u3, u4] := by
    have := congrArg Array.toList e
    simpa using this
  refine ⟨g, 0, cs[i], rfl, trivial, ⟨u1, u2, u3, u4, e', h1.inAny, h2.inAny⟩, fun j hj => ?_⟩
  rw [hB.cell]
  have hj5 : j < 5 := hj
  have key : ∀ (cs : List (List Value)) (i : Nat) (hc : i < cs.length), (∀ c ∈ cs, c.length = 5) → ∀ j, j < 5 → cs.flatten[i * 5 + j]? = cs[i][j]? := by
    intro cs
    induction cs with
    | nil => intro i hc; simp at hc
    | cons c r ih =>
      intro i hc hl j hj
      have hc5 := hl c (by simp)
      cases i with
      | zero => rw [List.flatten_cons, List.getElem?_append_left (by omega)]; simp
      | succ i =>
        rw [List.flatten_cons, List.getElem?_append_right (by omega), show (i + 1) * 5 + j - c.length = i * 5 + j by omega]
        exact ih i (by simpa using hc) (fun c hcm => hl c (by simp [hcm])) j hj
  have := key cs i hc h5 j hj5
  rw [Nat.zero_add, List.getElem?_toArray]
  exact this
theorem isCl_nil {w : World} {a : Option Addr} {c : Nat} (hc : c ≤ maxLen) : IsCl w [] a c := ⟨InRow.nil, Nat.zero_le _, hc, Nat.zero_le _, fun _ h => by simp at h, fun _ h => by simp at h⟩
end Go.Proofs.Ytnblndmjjokepaa
