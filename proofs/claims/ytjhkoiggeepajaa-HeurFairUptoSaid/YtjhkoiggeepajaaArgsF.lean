/- Arguments of a law, opened: rows of clauses, rows of truth values. -/
import Derived.Test.YtjhkoiggeepajaaArgsR0
import Derived.Test.YtjhkoiggeepajaaFairM
namespace Go.Proofs.Ytjhkoiggeepajaa
open Go.ChangeShapes Go.WideShapes Go.ChangeAt Go.RowKit Go
set_option linter.unusedVariables false
set_option linter.unusedSimpArgs false

section
variable {H : Type} {enc : TypeId × Value → H} {w : World} {base : Nat} {spare : Nat → Bool} {held : Bool}
def IsBoC (w : World) (x : Bool) (cs : List Value) : Prop := cs = [.bool x]
set_option maxRecDepth 100000 in
theorem arg_Bs {r : Reach} {b : Nat} {v : Value} {d : DataW H} {p : List MemPlace} (h : Value.okWide Try.prog w r b 32 v) (ht : DataW.Trod enc Try.prog w base spare held 32 v d p) (hk : Rows.uptoBulk d ≤ 1048576) :
    ∃ (l : List Bool) (a : Option Addr) (c : Nat), v = .slice a l.length c ∧ IsBs w l a ∧ l.length ≤ 1048576 := by
  obtain ⟨a, n, c, rfl⟩ := okWide_slice Try.underlying32 h
  obtain ⟨fuel, hf⟩ := ht
  obtain ⟨l, a', c', ds, sp, e, h1, h2, h3, h4, h5, h6⟩ := open_row Try.underlying32 (k := 1) (by kernel_rfl) (by omega) hf (R := IsBoC) (S := fun _ _ => True) (fun n cs x hx => by
    obtain ⟨b, e0, _⟩ := DataW.trod_bool Try.underlying4 hx
    exact ⟨b, e0, trivial⟩)
  have e' : Value.slice a n c = .slice a' l.length c' := by simpa [Value.cells] using e
  have hlen : l.length ≤ 1048576 := by
    rcases h5 with ⟨_, rfl, _⟩ | e
    · simp
    · have := len_le_bulk ds
      have e2 : d = .slice ds sp := e
      rw [e2] at hk; simp only [Rows.uptoBulk] at hk; omega
  refine ⟨l, a', c', e', ?_, hlen⟩
  obtain ⟨b, o, C, k1, k2⟩ := h3.open
  refine ⟨b, o, k1, fun i hi => ?_⟩
  obtain ⟨m1, _, m3⟩ := k2 i hi
  have m0 := m1 0 (by omega)
  unfold IsBoC at m3
  rw [m3] at m0
  have e3 : bget2 l i = l[i] := by simp [bget2, hi]
  rw [e3]
  simpa using m0
def IsClC (w : World) (l : List Li) (cs : List Value) : Prop := ∃ a c, cs = [.slice a l.length c] ∧ ClC w l a c
set_option maxRecDepth 100000 in
theorem arg_Cls {r : Reach} {b : Nat} {v : Value} {d : DataW H} {p : List MemPlace} (h : Value.okWide Try.prog w r b 31 v) (ht : DataW.Trod enc Try.prog w base spare held 31 v d p) (hk : Rows.uptoBulk d ≤ 1048576) :
    ∃ (l : List (List Li)) (a : Option Addr) (c : Nat), v = .slice a l.length c ∧ IsCls w l a ∧ l.length ≤ 1048576 := by
  obtain ⟨a, n, c, rfl⟩ := okWide_slice Try.underlying31 h
  obtain ⟨fuel, hf⟩ := ht
  obtain ⟨l, a', c', ds, sp, e, h1, h2, h3, h4, h5, h6⟩ := open_row Try.underlying31 (k := 1) (by kernel_rfl) (by omega) hf (R := IsClC) (S := fun y d => y.length ≤ Rows.uptoBulk d ∧ ∀ z ∈ y, z.size ≤ Rows.uptoBulk d) (fun n cs x hx => by
    obtain ⟨l, a, c, e2, h1, h2, h3⟩ := open_Cl _ _ _ hx
    exact ⟨l, ⟨a, c, e2, h1⟩, h2, h3⟩)
  have e' : Value.slice a n c = .slice a' l.length c' := by simpa [Value.cells] using e
  have hlen : l.length ≤ 1048576 := by
    rcases h5 with ⟨_, rfl, _⟩ | e
    · simp
    · have := len_le_bulk ds
      have e2 : d = .slice ds sp := e
      rw [e2] at hk; simp only [Rows.uptoBulk] at hk; omega
  have hsz : ∀ i (hi : i < l.length), ∃ m, m ≤ 1048576 ∧ l[i].length ≤ m ∧ ∀ z ∈ l[i], z.size ≤ m := fun i hi => by
    have hs := h6 i hi (by omega)
    rcases h5 with ⟨_, rfl, _⟩ | e
    · simp at hi
    · have := bulk_at (List.getElem_mem (show i < ds.length by omega))
      have e2 : d = .slice ds sp := e
      rw [e2] at hk; simp only [Rows.uptoBulk] at hk
      exact ⟨_, by omega, hs.1, hs.2⟩
  refine ⟨l, a', c', e', ?_, hlen⟩
  obtain ⟨b, o, C, k1, k2⟩ := h3.open
  have hget : ∀ {i : Nat} (hi : i < l.length), cget l i = l[i] := fun hi => by simp [cget, hi]
  have hch : ∀ i, ∃ p : Option Addr × Nat, i < l.length → C i = [.slice p.1 (cget l i).length p.2] ∧ ClC w (cget l i) p.1 p.2 := fun i => by
    by_cases hi : i < l.length
    · obtain ⟨_, _, a9, c9, m3, m4⟩ := k2 i hi
      exact ⟨(a9, c9), fun _ => by rw [hget hi]; exact ⟨m3, m4⟩⟩
    · exact ⟨(none, 0), fun q => absurd q hi⟩
  refine ⟨b, o, fun i => (Classical.choose (hch i)).1, fun i => (Classical.choose (hch i)).2, k1, fun i hi => ?_⟩
  obtain ⟨m1, _, _⟩ := k2 i hi
  obtain ⟨q1, q2⟩ := Classical.choose_spec (hch i) hi
  have m0 := m1 0 (by omega)
  rw [q1] at m0
  obtain ⟨m, hm, h7, h8⟩ := hsz i hi
  rw [← hget hi] at h7 h8
  exact ⟨by simpa using m0, q2.isCl h7 h8 hm, by omega⟩
end
end Go.Proofs.Ytjhkoiggeepajaa
