/- The places of a term and what stands there, plainly. -/
import Derived.Test.YtjkpecjlpgcalaaKboMath2
namespace Go.Proofs.Ytjkpecjlpgcalaa

namespace T
mutual
def places : T → List (List Nat × T)
  | .mk f l => ([], .mk f l) :: placesL 0 l
def placesL : Nat → List T → List (List Nat × T)
  | _, [] => []
  | i, a :: r => (places a).map (fun x => (i :: x.1, x.2)) ++ placesL (i + 1) r
end

theorem placesL_append : ∀ (l : List T) (i : Nat) (q : List T), placesL i (l ++ q) = placesL i l ++ placesL (i + l.length) q
  | [], i, q => by simp [placesL]
  | a :: r, i, q => by
    rw [List.cons_append, placesL, placesL, placesL_append r (i + 1) q, List.append_assoc, List.length_cons, show i + 1 + r.length = i + (r.length + 1) by omega]

mutual
theorem places_size : ∀ t : T, (places t).length = size t
  | .mk f l => by rw [places, List.length_cons, placesL_size l 0, size]; omega
theorem placesL_size : ∀ (l : List T) (i : Nat), (placesL i l).length = sizeL l
  | [], i => rfl
  | a :: r, i => by rw [placesL, List.length_append, List.length_map, places_size a, placesL_size r (i + 1), sizeL]
end

mutual
theorem places_part : ∀ (t : T), ∀ x ∈ places t, x.2 = t ∨ Part x.2 t
  | .mk f l, x, hx => by
    rw [places] at hx
    rcases List.mem_cons.1 hx with rfl | hx
    · exact .inl rfl
    · exact .inr (placesL_part l 0 f l (fun a h => h) x hx)
theorem placesL_part : ∀ (l : List T) (i : Nat) (f : Int) (q : List T), (∀ a ∈ l, a ∈ q) → ∀ x ∈ placesL i l, Part x.2 (.mk f q)
  | [], i, f, q, _, x, hx => by simp [placesL] at hx
  | a :: r, i, f, q, hq, x, hx => by
    rw [placesL] at hx
    rcases List.mem_append.1 hx with hx | hx
    · obtain ⟨y, hy, rfl⟩ := List.mem_map.1 hx
      rcases places_part a y hy with h | h
      · simp only [h]; exact .arg (hq a (by simp))
      · exact .deep (hq a (by simp)) h
    · exact placesL_part r (i + 1) f q (fun b hb => hq b (by simp [hb])) x hx
end

mutual
theorem places_within : ∀ (t : T), ∀ x ∈ places t, Od.Within t x.1
  | .mk f l, x, hx => by
    rw [places] at hx
    rcases List.mem_cons.1 hx with rfl | hx
    · exact trivial
    · obtain ⟨i, p, e, h1, h2⟩ := placesL_within l 0 x hx
      rw [e]
      exact ⟨by omega, by have h3 := h2 (by omega); simpa using h3⟩
theorem placesL_within : ∀ (l : List T) (i : Nat), ∀ x ∈ placesL i l, ∃ (k : Nat) (p : List Nat), x.1 = k :: p ∧ (i ≤ k ∧ k - i < l.length) ∧ ∀ (h : k - i < l.length), Od.Within l[k - i] p
  | [], i, x, hx => by simp [placesL] at hx
  | a :: r, i, x, hx => by
    rw [placesL] at hx
    rcases List.mem_append.1 hx with hx | hx
    · obtain ⟨y, hy, rfl⟩ := List.mem_map.1 hx
      exact ⟨i, y.1, rfl, ⟨by omega, by simp⟩, fun h => by simpa using places_within a y hy⟩
    · obtain ⟨k, p, e, ⟨h1, h2⟩, h3⟩ := placesL_within r (i + 1) x hx
      refine ⟨k, p, e, ⟨by omega, by simp; omega⟩, fun h => ?_⟩
      have h4 := h3 h2
      have e2 : k - i = (k - (i + 1)) + 1 := by omega
      simp only [e2, List.getElem_cons_succ]
      exact h4
end

/-- No path is longer than the term is large. -/
theorem places_len : ∀ t : T, ∀ x ∈ places t, x.1.length ≤ size t := by
  intro t
  induction t using T.ind with
  | h f l ih =>
    intro x hx
    rw [places] at hx
    rcases List.mem_cons.1 hx with rfl | hx
    · simp
    · have : ∀ (l : List T), (∀ a ∈ l, ∀ x ∈ places a, x.1.length ≤ size a) → ∀ (i : Nat), ∀ x ∈ placesL i l, x.1.length ≤ sizeL l + 1 := by
        intro l
        induction l with
        | nil => intro _ i x hx; simp [placesL] at hx
        | cons a r ih =>
          intro h i x hx
          rw [placesL] at hx
          rcases List.mem_append.1 hx with hx | hx
          · obtain ⟨y, hy, rfl⟩ := List.mem_map.1 hx
            have := h a (by simp) y hy
            simp only [List.length_cons, sizeL]; omega
          · have := ih (fun b hb => h b (by simp [hb])) (i + 1) x hx
            simp only [sizeL]; omega
      have := this l ih 0 x hx
      rw [size]; omega
end T

end Go.Proofs.Ytjkpecjlpgcalaa
