/- Arguments of a law, opened: rows of queues, clauses in rows. -/
import Derived.Test.YtjhkoiggeepajaaArgsC
import Derived.Test.YtjhkoiggeepajaaArgsQ
import Derived.Test.YtjhkoiggeepajaaRoomM
namespace Go.Proofs.Ytjhkoiggeepajaa
open Go.ChangeShapes Go.WideShapes Go.ChangeAt Go.RowKit Go
set_option linter.unusedVariables false
set_option linter.unusedSimpArgs false

theorem IsRow.open {α : Type} {w : World} {k : Nat} {R : World → α → List Value → Prop} {l : List α} {a : Option Addr} (h : IsRow w k R l a) : ∃ (b o : Nat) (C : Nat → List Value), (∀ i, i < l.length → a = some ⟨b, o, none⟩) ∧ ∀ i (hi : i < l.length), (∀ j, j < k → w.cell? ⟨b, o + i * k + j, none⟩ = (C i)[j]?) ∧ (C i).length = k ∧ R w l[i] (C i) := by
  have hch : ∀ i, ∃ cs : List Value, ∀ hi : i < l.length, ∃ b o, a = some ⟨b, o, none⟩ ∧ cs.length = k ∧ (∀ j, j < k → w.cell? ⟨b, o + i * k + j, none⟩ = cs[j]?) ∧ R w l[i] cs := fun i => by
    by_cases hi : i < l.length
    · obtain ⟨b, o, cs, h1, h2, h3, h4⟩ := h i hi
      exact ⟨cs, fun _ => ⟨b, o, h1, h2, h3, h4⟩⟩
    · exact ⟨[], fun q => absurd q hi⟩
  rcases Nat.eq_zero_or_pos l.length with h0 | h0
  · exact ⟨0, 0, fun _ => [], fun i hi => by omega, fun i hi => by omega⟩
  · obtain ⟨b, o, _, hb, _⟩ := h 0 h0
    refine ⟨b, o, fun i => Classical.choose (hch i), fun i hi => hb, fun i hi => ?_⟩
    obtain ⟨b', o', e, h2, h3, h4⟩ := Classical.choose_spec (hch i) hi
    rw [hb] at e
    simp only [Option.some.injEq, Addr.mk.injEq, and_true] at e
    obtain ⟨rfl, rfl⟩ := e
    exact ⟨h3, h2, h4⟩
section
variable {H : Type} {enc : TypeId × Value → H} {w : World} {base : Nat} {spare : Nat → Bool} {held : Bool}
def IsQuC (w : World) (x : Qu) (cs : List Value) : Prop := cs = [.int .i64 x.by_, .int .i64 x.take]
set_option maxRecDepth 100000 in
theorem open_Qu (fuel : Nat) (cs : List Value) (x : DataW H × List MemPlace) (h : DataW.trod enc Try.prog w base spare held fuel 38 cs = some x) :
    ∃ y : Qu, IsQuC w y cs ∧ True := by
  have hC : Try.prog.cellsOf 38 = 2 := by kernel_rfl
  have hCi : Try.prog.cellsOf 3 = 1 := by kernel_rfl
  have hCq : Try.prog.cellsOf 22 = 1 := by kernel_rfl
  obtain ⟨xs, n, rfl, rfl, hl, hlen, hf⟩ := DataW.trod_struct Try.underlying38 h
  rw [hC] at hl
  match xs, hlen, cs, hl with
  | [y0, y1], _, [c0, c1], _ =>
    have g0 : DataW.trod enc Try.prog w base spare held n 22 [c0] = some y0 := by simpa [hCq] using hf 0 _ rfl
    have g1 : DataW.trod enc Try.prog w base spare held n 3 [c1] = some y1 := by simpa [hCi] using hf 1 _ rfl
    obtain ⟨m0, e0, _, wf0⟩ := DataW.trod_int Try.underlying22 g0
    obtain ⟨m1, e1, _, wf1⟩ := DataW.trod_int Try.underlying3 g1
    simp only [List.cons.injEq, and_true] at e0 e1
    subst e0 e1
    exact ⟨⟨m0, m1⟩, rfl, trivial⟩
set_option maxRecDepth 100000 in
theorem arg_Qs {r : Reach} {b : Nat} {v : Value} {d : DataW H} {p : List MemPlace} (h : Value.okWide Try.prog w r b 30 v) (ht : DataW.Trod enc Try.prog w base spare held 30 v d p) (hk : Rows.uptoBulk d ≤ 1048576) :
    ∃ (l : List Qu) (a : Option Addr) (c : Nat), v = .slice a l.length c ∧ IsQs w l a ∧ l.length ≤ c ∧ l.length ≤ 1048576 := by
  obtain ⟨a, n, c, rfl⟩ := okWide_slice Try.underlying30 h
  obtain ⟨fuel, hf⟩ := ht
  obtain ⟨l, a', c', ds, sp, e, h1, h2, h3, h4, h5, h6⟩ := open_row Try.underlying30 (k := 2) (by kernel_rfl) (by omega) hf (R := IsQuC) (S := fun _ _ => True) (fun n cs x hx => open_Qu n cs x hx)
  have e' : Value.slice a n c = .slice a' l.length c' := by simpa [Value.cells] using e
  have hlen : l.length ≤ 1048576 := by
    rcases h5 with ⟨_, rfl, _⟩ | e
    · simp
    · have := len_le_bulk ds
      have e2 : d = .slice ds sp := e
      rw [e2] at hk; simp only [Rows.uptoBulk] at hk; omega
  refine ⟨l, a', c', e', ?_, h1, hlen⟩
  obtain ⟨b, o, C, k1, k2⟩ := h3.open
  refine ⟨b, o, k1, fun i hi => ?_⟩
  obtain ⟨m1, _, m3⟩ := k2 i hi
  have m0 := m1 0 (by omega)
  have m2 := m1 1 (by omega)
  unfold IsQuC at m3
  rw [m3] at m0 m2
  rw [qget_lt hi]
  exact ⟨m0, m2⟩
/-- A clause in a row of things. -/
def ClC (w : World) (l : List Li) (a : Option Addr) (c : Nat) : Prop := InRow eltL (fun _ => True) w l a ∧ l.length ≤ c ∧ c ≤ maxLen
set_option maxRecDepth 100000 in
theorem open_Cl (fuel : Nat) (cs : List Value) (x : DataW H × List MemPlace) (h : DataW.trod enc Try.prog w base spare held fuel 24 cs = some x) :
    ∃ (l : List Li) (a : Option Addr) (c : Nat), cs = [.slice a l.length c] ∧ ClC w l a c ∧ l.length ≤ Rows.uptoBulk x.1 ∧ ∀ y ∈ l, y.size ≤ Rows.uptoBulk x.1 := by
  obtain ⟨l, a', c', ds, sp, e, h1, h2, h3, h4, h5, h6⟩ := open_row Try.underlying24 (k := 5) (by kernel_rfl) (by omega) h (R := IsLiC) (S := fun y d => 1 + y.size ≤ Rows.uptoBulk d) (fun n cs x hx => open_Li n cs x hx)
  refine ⟨l, a', c', e, ⟨inRow_of (E := eltL) (fun _ _ h => h) h3, h1, h2⟩, ?_, fun x hx => ?_⟩
  · rcases h5 with ⟨_, rfl, _⟩ | e
    · simp
    · have := len_le_bulk ds
      rw [e]; simp only [Rows.uptoBulk]; omega
  · obtain ⟨i, hi, rfl⟩ := List.getElem_of_mem hx
    have hs := h6 i hi (by omega)
    rcases h5 with ⟨_, rfl, _⟩ | e
    · simp at hi
    · have := bulk_at (List.getElem_mem (show i < ds.length by omega))
      rw [e]; simp only [Rows.uptoBulk]; omega
theorem ClC.isCl {l : List Li} {a : Option Addr} {c m : Nat} (h : ClC w l a c) (h1 : l.length ≤ m) (h2 : ∀ y ∈ l, y.size ≤ m) (hm : m ≤ 1048576) : IsCl w l a c :=
  ⟨h.1, h.2.1, h.2.2, by omega, fun x hx => by have := h2 x hx; unfold Li.size at this; omega, fun x hx => by have := h2 x hx; unfold Li.size at this; omega⟩
end
end Go.Proofs.Ytjhkoiggeepajaa
