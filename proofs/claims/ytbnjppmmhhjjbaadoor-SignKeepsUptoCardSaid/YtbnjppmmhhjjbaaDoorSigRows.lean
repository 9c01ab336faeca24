/- Rows of symbols, opened whole. -/
import Derived.Test.YtbnjppmmhhjjbaaDoorEng
import Derived.Test.YtbnjppmmhhjjbaaDoorSig
namespace Go.Proofs.YtbnjppmmhhjjbaaDoor
open Go.RowKit Go

def sget (l : List Sy) (k : Nat) : Sy := l.getD k default
theorem sget_lt {l : List Sy} {k : Nat} (h : k < l.length) : sget l k = l[k] := by simp [sget, h]
theorem sget_mem {l : List Sy} {k : Nat} (h : k < l.length) : sget l k ∈ l := by rw [sget_lt h]; exact List.getElem_mem h

theorem IsSys.open {w : World} {l : List Sy} {a : Option Addr} (h : IsSys w l a) : ∃ (b o : Nat), (∀ k, k < l.length → a = some ⟨b, o, none⟩) ∧
    ∀ k, k < l.length → w.cell? ⟨b, o + k * 3, none⟩ = some (.string (sget l k).name) ∧ w.cell? ⟨b, o + k * 3 + 1, none⟩ = some (.int .i64 (sget l k).ar) ∧ w.cell? ⟨b, o + k * 3 + 2, none⟩ = some (.bool (sget l k).pred) := by
  rcases Nat.eq_zero_or_pos l.length with h0 | h0
  · exact ⟨0, 0, fun k hk => by omega, fun k hk => by omega⟩
  · obtain ⟨b, o, ha, _⟩ := h.at_ (Below.refl _ _) 0 h0
    refine ⟨b, o, fun _ _ => ha, fun k hk => ?_⟩
    obtain ⟨b', o', ha', h1, h2, h3, _⟩ := h.at_ (Below.refl _ _) k hk
    rw [ha] at ha'
    simp only [Option.some.injEq, Addr.mk.injEq, and_true] at ha'
    obtain ⟨rfl, rfl⟩ := ha'
    rw [sget_lt hk]; exact ⟨h1, h2, h3⟩
theorem IsSys.wf {w : World} {l : List Sy} {a : Option Addr} (h : IsSys w l a) {k : Nat} (hk : k < l.length) : I64 (sget l k).ar ∧ (sget l k).name.size ≤ maxLen := by
  obtain ⟨_, _, _, _, _, _, h4, h5⟩ := h.at_ (Below.refl _ _) k hk
  rw [sget_lt hk]; exact ⟨h4, h5⟩

theorem IsRow.drop {α : Type} {w : World} {sz c k : Nat} {R : World → α → List Value → Prop} {l : List α} {a : Option Addr} (h : IsRow w sz R l a) (hc : l.length ≤ c) : IsRow w sz R (l.drop k) (slA a k sz c) := by
  intro i hi
  simp only [List.length_drop] at hi
  obtain ⟨b, o, cs, rfl, h2, h3, h4⟩ := h (k + i) (by omega)
  refine ⟨b, o + k * sz, cs, slA_some (by omega), h2, fun j hj => ?_, by simpa using h4⟩
  have := h3 j hj
  rwa [Nat.add_mul, ← Nat.add_assoc] at this

def syCells (l : List Sy) : List Value := l.flatMap fun x => [.string x.name, .int .i64 x.ar, .bool x.pred]
theorem syCells_len (l : List Sy) : (syCells l).length = l.length * 3 := by
  induction l with
  | nil => rfl
  | cons x r ih => simp only [syCells, List.flatMap_cons, List.length_append, List.length_cons, List.length_nil] at *; omega
theorem syCells_append (l r : List Sy) : syCells (l ++ r) = syCells l ++ syCells r := by simp [syCells]
theorem syCells_one (x : Sy) : syCells [x] = [.string x.name, .int .i64 x.ar, .bool x.pred] := rfl
theorem syCells_oneCell (l : List Sy) : ∀ u ∈ syCells l, u.oneCell' = true := by
  intro u hu
  simp only [syCells, List.mem_flatMap] at hu
  obtain ⟨x, _, h⟩ := hu
  simp only [List.mem_cons, List.not_mem_nil, or_false] at h
  rcases h with rfl | rfl | rfl <;> rfl
theorem syCells_at (l : List Sy) : ∀ k, k < l.length → (syCells l)[k * 3]? = some (.string (sget l k).name) ∧ (syCells l)[k * 3 + 1]? = some (.int .i64 (sget l k).ar) ∧ (syCells l)[k * 3 + 2]? = some (.bool (sget l k).pred) := by
  induction l with
  | nil => intro k hk; simp at hk
  | cons x r ih =>
    intro k hk
    cases k with
    | zero => simp [syCells, sget]
    | succ k =>
      have := ih k (by simpa using hk)
      have e : syCells (x :: r) = [.string x.name, .int .i64 x.ar, .bool x.pred] ++ syCells r := rfl
      have s1 : sget (x :: r) (k + 1) = sget r k := rfl
      rw [e, s1, show (k + 1) * 3 = k * 3 + 3 by omega]
      rw [List.getElem?_append_right (by simp), List.getElem?_append_right (by simp <;> omega), List.getElem?_append_right (by simp <;> omega)]
      simpa using this

theorem SrcIs.ofSys {w : World} {l : List Sy} {a : Option Addr} {c : Nat} (h : IsSys w l a) : SrcIs w (.slice a l.length c) l.length (syCells l) := by
  cases l with
  | nil =>
    cases a with
    | none => exact .inr ⟨c, rfl, rfl, rfl⟩
    | some ad => exact .inl ⟨ad, c, rfl, fun j u hj => by simp [syCells] at hj⟩
  | cons x r =>
    obtain ⟨b, o, ha, hc⟩ := h.open
    obtain rfl := ha 0 (by simp)
    refine .inl ⟨_, _, rfl, fun j u hj => ?_⟩
    have hj' : j < (syCells (x :: r)).length := (List.getElem?_eq_some_iff.1 hj).1
    rw [syCells_len] at hj'
    have hk : j / 3 < (x :: r).length := by omega
    obtain ⟨h0, h1, h2⟩ := hc (j / 3) hk
    obtain ⟨e0, e1, e2⟩ := syCells_at (x :: r) (j / 3) hk
    rw [add_plain2]
    rcases (show j = j / 3 * 3 ∨ j = j / 3 * 3 + 1 ∨ j = j / 3 * 3 + 2 by omega) with e | e | e
    · rw [e, e0] at hj; rw [e]; rw [← Option.some.inj hj]; exact h0
    · rw [e, e1] at hj; rw [e, ← Nat.add_assoc]; rw [← Option.some.inj hj]; exact h1
    · rw [e, e2] at hj; rw [e, ← Nat.add_assoc]; rw [← Option.some.inj hj]; exact h2

theorem sys_of_own {w : World} {base : Nat} {l : List Sy} {ra : Option Addr} {n rc : Nat} (h : w.ownsRow base 26 3 (.slice ra n rc) n (syCells l)) (hl : ∀ x ∈ l, I64 x.ar ∧ x.name.size ≤ maxLen) : n = l.length ∧ n ≤ rc ∧ rc ≤ maxLen ∧ IsSys w l ra := by
  have hn : n = l.length := by have := h.1; rw [syCells_len] at this; omega
  subst hn
  rcases h.2 with ⟨e, h0⟩ | ⟨g, cap, cur, e, _, hB, hc, hm, _, _⟩
  · simp only [Value.slice.injEq] at e
    refine ⟨rfl, by omega, by rw [e.2.2]; unfold maxLen; omega, fun k hk => by omega⟩
  · simp only [Value.slice.injEq, true_and] at e
    obtain ⟨rfl, rfl⟩ := e
    refine ⟨rfl, hc, hm, fun k hk => ⟨g, 0, [.string (sget l k).name, .int .i64 (sget l k).ar, .bool (sget l k).pred], rfl, rfl, fun j hj => ?_, ?_⟩⟩
    · obtain ⟨e0, e1, e2⟩ := syCells_at l k hk
      have hcell := fun i u hi => h.cells (g := g) rfl i u hi
      simp only [add_plain2] at hcell
      rcases (show j = 0 ∨ j = 1 ∨ j = 2 by omega) with rfl | rfl | rfl
      · have := hcell _ _ e0; simpa [Nat.add_assoc] using this
      · have := hcell _ _ e1; simpa [Nat.add_assoc] using this
      · have := hcell _ _ e2; simpa [Nat.add_assoc] using this
    · have := hl _ (sget_mem hk)
      rw [sget_lt hk]
      rw [sget_lt hk] at this
      exact ⟨rfl, this.1, this.2⟩
theorem IsSys.wfs {w : World} {l : List Sy} {a : Option Addr} (h : IsSys w l a) : ∀ x ∈ l, I64 x.ar ∧ x.name.size ≤ maxLen := by
  intro x hx
  obtain ⟨k, hk, rfl⟩ := List.getElem_of_mem hx
  have := h.wf hk
  rwa [sget_lt hk] at this

end Go.Proofs.YtbnjppmmhhjjbaaDoor
