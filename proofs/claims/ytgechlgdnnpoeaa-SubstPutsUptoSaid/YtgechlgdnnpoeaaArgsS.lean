/- Arguments of a law, opened: substitutions. -/
import Derived.Test.YtgechlgdnnpoeaaBind
import Derived.Test.YtgechlgdnnpoeaaSubApply
import Derived.Test.YtgechlgdnnpoeaaArgs0
namespace Go.Proofs.Ytgechlgdnnpoeaa
open Go.ChangeShapes Go.WideShapes Go.ChangeAt Go.RowKit

section
variable {H : Type} {enc : TypeId × Value → H} {w : World} {base : Nat} {spare : Nat → Bool} {held : Bool}
def IsBdC (w : World) (x : Bd) (cs : List Value) : Prop := eltB.In (fun _ => True) w x cs
set_option maxRecDepth 100000 in
theorem open_Bd (fuel : Nat) (cs : List Value) (x : DataW H × List MemPlace) (h : DataW.trod enc Try.prog w base spare held fuel 56 cs = some x) : ∃ y : Bd, IsBdC w y cs ∧ y.t.size ≤ Rows.uptoBulk x.1 := by
  have hC : Try.prog.cellsOf 56 = 3 := by kernel_rfl
  have hC3 : Try.prog.cellsOf 3 = 1 := by kernel_rfl
  have hC2 : Try.prog.cellsOf 32 = 2 := by kernel_rfl
  obtain ⟨xs, n, rfl, rfl, hl, hlen, hf⟩ := DataW.trod_struct Try.underlying56 h
  rw [hC] at hl
  match xs, hlen, cs, hl with
  | [y0, y1], _, [c0, c1, c2], _ =>
    have g0 : DataW.trod enc Try.prog w base spare held n 3 [c0] = some y0 := by simpa [hC3] using hf 0 _ rfl
    have g1 : DataW.trod enc Try.prog w base spare held n 32 [c1, c2] = some y1 := by simpa [hC3, hC2] using hf 1 _ rfl
    obtain ⟨f, e0, rfl, wf⟩ := DataW.trod_int Try.underlying3 g0
    simp only [List.cons.injEq, and_true] at e0
    subst e0
    obtain ⟨t, u, v, e, h1, h2⟩ := open_T _ _ _ g1
    simp only [List.cons.injEq, and_true] at e
    obtain ⟨rfl, rfl⟩ := e
    refine ⟨⟨f, t⟩, ⟨c1, c2, rfl, i64_wf wf, h1.inTrue⟩, ?_⟩
    show t.size ≤ _
    simp only [Rows.uptoBulk, List.map_cons, List.map_nil, Rows.uptoBulkAll]; omega
set_option maxRecDepth 100000 in
theorem arg_Sub {r : Reach} {b : Nat} {v : Value} {d : DataW H} {p : List MemPlace} (h : Value.okWide Try.prog w r b 23 v) (ht : DataW.Trod enc Try.prog w base spare held 23 v d p) (hk : Rows.uptoBulk d ≤ 1048576) :
    ∃ (l : List Bd) (a : Option Addr) (c : Nat), v = .slice a l.length c ∧ IsSub w l a c ∧ l.length ≤ 1048576 ∧ ∀ x ∈ l, x.t.size ≤ 1048576 := by
  obtain ⟨a, n, c, rfl⟩ := okWide_slice Try.underlying23 h
  obtain ⟨fuel, hf⟩ := ht
  have : Inhabited Bd := ⟨default⟩
  obtain ⟨l, a', c', ds, sp, e, h1, h2, h3, h4, h5, h6⟩ := open_row Try.underlying23 (k := 3) (by kernel_rfl) (by omega) hf (R := IsBdC) (S := fun y d => y.t.size ≤ Rows.uptoBulk d) (fun n cs x hx => open_Bd n cs x hx)
  have e' : Value.slice a n c = .slice a' l.length c' := by simpa [Value.cells] using e
  have hlen : l.length ≤ 1048576 := by
    rcases h5 with ⟨_, rfl, _⟩ | e
    · simp
    · have := len_le_bulk ds
      have e2 : d = .slice ds sp := e
      rw [e2] at hk; simp only [Rows.uptoBulk] at hk; omega
  have hsz : ∀ x ∈ l, x.t.size ≤ 1048576 := fun x hx => by
    obtain ⟨i, hi, rfl⟩ := List.getElem_of_mem hx
    have hs := h6 i hi (by omega)
    rcases h5 with ⟨_, rfl, _⟩ | e
    · simp at hi
    · have := bulk_at (List.getElem_mem (show i < ds.length by omega))
      have e2 : d = .slice ds sp := e
      rw [e2] at hk; simp only [Rows.uptoBulk] at hk; omega
  exact ⟨l, a', c', e', ⟨inRow_of (E := eltB) (fun _ _ h => h) h3, h1, h2, by omega, fun x hx => by have := hsz x hx; omega⟩, hlen, hsz⟩
end

end Go.Proofs.Ytgechlgdnnpoeaa
