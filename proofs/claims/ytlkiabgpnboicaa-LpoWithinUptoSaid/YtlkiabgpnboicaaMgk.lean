/- Arguments of a law, opened: signatures, rows of terms, integers. -/
import Derived.Test.YtlkiabgpnboicaaMgj
import Derived.Test.YtlkiabgpnboicaaMgh

namespace Go.Proofs.Ytlkiabgpnboicaa
open Go.ChangeShapes Go.WideShapes Go.ChangeAt Go.RowKit

instance : Inhabited T := ⟨.mk 0 []⟩

section
variable {H : Type} {enc : TypeId × Value → H} {w : World} {base : Nat} {spare : Nat → Bool} {held : Bool}

set_option maxRecDepth 100000 in
theorem arg_Sig {r : Reach} {b : Nat} {v : Value} {d : DataW H} {p : List MemPlace} (h : Value.okWide Try.prog w r b 35 v) (ht : DataW.Trod enc Try.prog w base spare held 35 v d p) :
    ∃ l : List Sy, IsSig w l v := by
  obtain ⟨cs, rfl, _⟩ := okWide_struct Try.underlying35 h
  obtain ⟨fuel, hf⟩ := ht
  obtain ⟨l, u, e, h1⟩ := open_Sig _ _ _ hf
  have e' : cs = #[u] := by
    apply Array.toList_inj.1
    exact e
  subst e'
  exact ⟨l, h1⟩

set_option maxRecDepth 100000 in
theorem open_Ts (fuel : Nat) (cs : List Value) (x : DataW H × List MemPlace) (h : DataW.trod enc Try.prog w base spare held fuel 25 cs = some x) :
    ∃ (l : List T) (a : Option Addr) (c : Nat), cs = [.slice a l.length c] ∧ l.length ≤ c ∧ c ≤ maxLen ∧ IsTs w l a 0 ∧ T.sizeL l ≤ Rows.uptoBulk x.1 := by
  obtain ⟨l, a, c, ds, sp, rfl, h1, h2, h3, h4, h5, h6⟩ := open_row Try.underlying25 (k := 2) (by kernel_rfl) (by omega) h (R := fun w t cs => ∃ u v, cs = [u, v] ∧ IsT w t (.agg #[u, v])) (S := fun t d => t.size ≤ Rows.uptoBulk d) (fun n cs x hx => by
    obtain ⟨t, u, v, h1, h2, h3⟩ := open_T _ _ _ hx
    exact ⟨t, ⟨u, v, h1, h2⟩, h3⟩)
  refine ⟨l, a, c, rfl, h1, h2, IsTs.of_at fun k hk => ?_, ?_⟩
  · obtain ⟨b, o, cs, e1, _, e3, u, v, rfl, e4⟩ := h3 k hk
    have c0 := e3 0 (by omega)
    have c1 := e3 1 (by omega)
    simp only [List.getElem?_cons_zero, List.getElem?_cons_succ, Nat.add_zero] at c0 c1
    exact ⟨b, o, u, v, e1, (by first | exact c0 | simp | simpa using c0), (by first | exact c1 | simp | simpa using c1), e4⟩
  · have := sizeL_le_bulk h4.symm h6
    rcases h5 with ⟨_, rfl, _⟩ | e
    · simp [T.sizeL]
    · rw [e]
      simp only [Rows.uptoBulk]
      omega

set_option maxRecDepth 100000 in
theorem arg_Ts {r : Reach} {b : Nat} {v : Value} {d : DataW H} {p : List MemPlace} (h : Value.okWide Try.prog w r b 25 v) (ht : DataW.Trod enc Try.prog w base spare held 25 v d p) :
    ∃ (l : List T) (a : Option Addr) (c : Nat), v = .slice a l.length c ∧ l.length ≤ c ∧ c ≤ maxLen ∧ IsTs w l a 0 ∧ T.sizeL l ≤ Rows.uptoBulk d := by
  obtain ⟨a, n, c, rfl⟩ := okWide_slice Try.underlying25 h
  obtain ⟨fuel, hf⟩ := ht
  obtain ⟨l, a', c', e, h1, h2, h3, h4⟩ := open_Ts _ _ _ hf
  have e' : Value.slice a n c = .slice a' l.length c' := by simpa [Value.cells] using e
  exact ⟨l, a', c', e', h1, h2, h3, h4⟩

set_option maxRecDepth 100000 in
theorem arg_int {r : Reach} {b : Nat} {v : Value} {d : DataW H} {p : List MemPlace} (h : Value.okWide Try.prog w r b 3 v) (ht : DataW.Trod enc Try.prog w base spare held 3 v d p) :
    ∃ n : Int, v = .int .i64 n ∧ I64 n := by
  obtain ⟨n, rfl⟩ := okWide_int Try.underlying3 h
  obtain ⟨fuel, hf⟩ := ht
  obtain ⟨m, e, _, wf⟩ := DataW.trod_int Try.underlying3 hf
  have e' : (.int .i64 n : Value) = .int .i64 m := by simpa [Value.cells] using e
  simp only [Value.int.injEq, true_and] at e'
  exact ⟨n, rfl, by rw [e']; exact i64_wf wf⟩
end

end Go.Proofs.Ytlkiabgpnboicaa
