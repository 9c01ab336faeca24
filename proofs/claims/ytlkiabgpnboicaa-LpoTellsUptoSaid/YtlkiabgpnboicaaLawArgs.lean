/- Arguments of a law, opened: terms and orders. -/
import Derived.Test.YtlkiabgpnboicaaOrd
import Derived.Test.YtlkiabgpnboicaaLaw
import Derived.WalkKit
import Derived.ProofKit
import Derived.JoinedCond
import Derived.OpenShut
namespace Go.Proofs.Ytlkiabgpnboicaa
open Go.ChangeShapes Go.WideShapes Go.ChangeAt Go.RowKit

theorem own : ownKnob Try.prog.godebug = none := by kernel_rfl

section
variable {H : Type} {enc : TypeId × Value → H} {w : World} {base : Nat} {spare : Nat → Bool} {held : Bool}

set_option maxRecDepth 100000 in
theorem arg_T {r : Reach} {b : Nat} {v : Value} {d : DataW H} {p : List MemPlace} (h : Value.okWide Try.prog w r b 27 v) (ht : DataW.Trod enc Try.prog w base spare held 27 v d p) :
    ∃ t : T, IsT w t v ∧ t.size ≤ Rows.uptoBulk d := by
  obtain ⟨cs, rfl, _⟩ := okWide_struct Try.underlying27 h
  obtain ⟨fuel, hf⟩ := ht
  obtain ⟨t, u, v, e, h1, h2⟩ := open_T _ _ _ hf
  have e' : cs = #[u, v] := by
    apply Array.toList_inj.1
    exact e
  subst e'
  exact ⟨t, h1, h2⟩

set_option maxRecDepth 100000 in
theorem arg_Od {r : Reach} {b : Nat} {v : Value} {d : DataW H} {p : List MemPlace} (h : Value.okWide Try.prog w r b 24 v) (ht : DataW.Trod enc Try.prog w base spare held 24 v d p) :
    ∃ o : Od, IsOd w o v := by
  obtain ⟨cs, rfl, _⟩ := okWide_struct Try.underlying24 h
  obtain ⟨fuel, hf⟩ := ht
  obtain ⟨t, v0, v1, v2, v3, e, h1⟩ := open_Od _ _ _ hf
  have e' : cs = #[v0, v1, v2, v3] := by
    apply Array.toList_inj.1
    exact e
  subst e'
  exact ⟨t, h1⟩
end

theorem readable_all {P : Program} {ts : List TypeId} (h : (ts.all fun t => P.readableRec t && Nat.blt t P.types.size) = true) : ∀ t ∈ ts, P.readableRec t = true ∧ t < P.types.size := by
  intro t ht
  have := List.all_eq_true.1 h t ht
  simp only [Bool.and_eq_true, Nat.blt_eq] at this
  exact this

theorem bulk_mem {H : Type} {l : List (DataW H)} (hk : Rows.uptoSmall H l = true) {d : DataW H} (h : d ∈ l) : Rows.uptoBulk d ≤ 1048576 :=
  Nat.le_trans (bulkAll_le h) (of_decide_eq_true hk)

end Go.Proofs.Ytlkiabgpnboicaa
