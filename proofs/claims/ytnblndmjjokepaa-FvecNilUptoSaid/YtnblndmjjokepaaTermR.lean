/- Rows of terms, opened whole. -/
import Derived.Test.YtnblndmjjokepaaEng
import Derived.Test.YtnblndmjjokepaaTerm
namespace Go.Proofs.Ytnblndmjjokepaa
open Go.RowKit Go

def tget (l : List T) (k : Nat) : T := l.getD k (.mk 0 [])
theorem tget_lt {l : List T} {k : Nat} (h : k < l.length) : tget l k = l[k] := by simp [tget, h]
theorem tget_mem {l : List T} {k : Nat} (h : k < l.length) : tget l k ∈ l := by rw [tget_lt h]; exact List.getElem_mem h

theorem isT_row {w : World} {t : T} {f : Value} {a : Option Addr} {n c : Nat} (h : IsT w t (.agg #[f, .slice a n c])) : n = t.args.length ∧ n ≤ c ∧ c ≤ maxLen ∧ IsTs w t.args a 0 := by
  obtain ⟨_, a', c', e, h1, h2, h3⟩ := h.form
  simp only [Value.agg.injEq, Array.mk.injEq, List.cons.injEq, and_true, Value.slice.injEq] at e
  obtain ⟨_, rfl, rfl, rfl⟩ := e
  exact ⟨rfl, h1, h2, h3⟩

theorem IsTs.open {w : World} {l : List T} {a : Option Addr} (h : IsTs w l a 0) : ∃ (b o : Nat) (A : Nat → Option Addr) (C : Nat → Nat), (∀ k, k < l.length → a = some ⟨b, o, none⟩) ∧
    ∀ k, k < l.length → w.cell? ⟨b, o + k * 2, none⟩ = some (.int .i64 (tget l k).f) ∧ w.cell? ⟨b, o + k * 2 + 1, none⟩ = some (.slice (A k) (tget l k).args.length (C k)) ∧ IsT w (tget l k) (.agg #[.int .i64 (tget l k).f, .slice (A k) (tget l k).args.length (C k)]) := by
  rcases Nat.eq_zero_or_pos l.length with h0 | h0
  · exact ⟨0, 0, fun _ => none, fun _ => 0, fun k hk => by omega, fun k hk => by omega⟩
  · obtain ⟨b, o, _, _, ha, _⟩ := h.at_ (Below.refl _ _) 0 h0
    have key : ∀ k, k < l.length → ∃ p : Option Addr × Nat, w.cell? ⟨b, o + k * 2, none⟩ = some (.int .i64 (tget l k).f) ∧ w.cell? ⟨b, o + k * 2 + 1, none⟩ = some (.slice p.1 (tget l k).args.length p.2) ∧ IsT w (tget l k) (.agg #[.int .i64 (tget l k).f, .slice p.1 (tget l k).args.length p.2]) := by
      intro k hk
      obtain ⟨b', o', a', c', ha', h1, h2, h3⟩ := h.at_ (Below.refl _ _) k hk
      rw [ha] at ha'
      simp only [Option.some.injEq, Addr.mk.injEq, and_true] at ha'
      obtain ⟨rfl, rfl⟩ := ha'
      rw [tget_lt hk]
      exact ⟨(a', c'), h1, h2, h3⟩
    have : Inhabited (Option Addr × Nat) := ⟨(none, 0)⟩
    obtain ⟨F, hF⟩ := Go.Deep.choose_lt key
    exact ⟨b, o, fun k => (F k).1, fun k => (F k).2, fun _ _ => ha, hF⟩


end Go.Proofs.Ytnblndmjjokepaa
