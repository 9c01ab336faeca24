/- A row of terms whose blocks are told, opened once. -/
import Derived.Test.YtnblndmjjokepaaInT
import Derived.Test.YtnblndmjjokepaaTermR
import Derived.Test.YtnblndmjjokepaaRngK
namespace Go.Proofs.Ytnblndmjjokepaa
open Go.RowKit Go
set_option linter.unusedVariables false
set_option linter.unusedSimpArgs false
theorem InTs.open {S : Nat → Prop} {w : World} {l : List T} {a : Option Addr} (h : InTs S w l a 0) : ∃ (b o : Nat) (A : Nat → Option Addr) (C : Nat → Nat), (∀ k, k < l.length → a = some ⟨b, o, none⟩) ∧
    ∀ k, k < l.length → w.cell? ⟨b, o + k * 2, none⟩ = some (.int .i64 (tget l k).f) ∧ w.cell? ⟨b, o + k * 2 + 1, none⟩ = some (.slice (A k) (tget l k).args.length (C k)) ∧ InT S w (tget l k) (.agg #[.int .i64 (tget l k).f, .slice (A k) (tget l k).args.length (C k)]) := by
  have key : ∀ k, k < l.length → ∃ (b o : Nat) (A : Option Addr) (C : Nat), a = some ⟨b, o, none⟩ ∧ w.cell? ⟨b, o + k * 2, none⟩ = some (.int .i64 (tget l k).f) ∧ w.cell? ⟨b, o + k * 2 + 1, none⟩ = some (.slice A (tget l k).args.length C) ∧ InT S w (tget l k) (.agg #[.int .i64 (tget l k).f, .slice A (tget l k).args.length C]) := by
    intro k hk
    obtain ⟨b, o, u, v, e, _, h1, h2, h3⟩ := h.at0 k hk
    rw [tget_lt hk]
    obtain ⟨_, A, C, e2, _⟩ := h3.form
    simp only [Value.agg.injEq, Array.mk.injEq, List.cons.injEq, and_true] at e2
    obtain ⟨rfl, rfl⟩ := e2
    rw [Nat.zero_add] at h1 h2
    exact ⟨b, o, A, C, e, h1, h2, h3⟩
  rcases Nat.eq_zero_or_pos l.length with h0 | h0
  · exact ⟨0, 0, fun _ => none, fun _ => 0, fun k hk => by omega, fun k hk => by omega⟩
  · obtain ⟨b, o, _, _, e, _⟩ := key 0 h0
    have key2 : ∀ k, ∃ (A : Option Addr) (C : Nat), k < l.length → w.cell? ⟨b, o + k * 2, none⟩ = some (.int .i64 (tget l k).f) ∧ w.cell? ⟨b, o + k * 2 + 1, none⟩ = some (.slice A (tget l k).args.length C) ∧ InT S w (tget l k) (.agg #[.int .i64 (tget l k).f, .slice A (tget l k).args.length C]) := by
      intro k
      by_cases hk : k < l.length
      · obtain ⟨b', o', A, C, e', h1, h2, h3⟩ := key k hk
        rw [e] at e'
        simp only [Option.some.injEq, Addr.mk.injEq, and_true] at e'
        obtain ⟨rfl, rfl⟩ := e'
        exact ⟨A, C, fun _ => ⟨h1, h2, h3⟩⟩
      · exact ⟨none, 0, fun h => absurd h hk⟩
    refine ⟨b, o, fun k => Classical.choose (key2 k), fun k => Classical.choose (Classical.choose_spec (key2 k)), fun _ _ => e, fun k hk => Classical.choose_spec (Classical.choose_spec (key2 k)) hk⟩
theorem InT.kpt {S0 S : Nat → Prop} {B : Nat} {w w' : World} {t : T} {v : Value} (h : InT S0 w t v) (k : Kpt S B w w') (hS : ∀ b, S0 b → ¬ S b) : InT S0 w' t v := h.keep fun p x hp hx => k.cell (hS _ hp) hx
end Go.Proofs.Ytnblndmjjokepaa
