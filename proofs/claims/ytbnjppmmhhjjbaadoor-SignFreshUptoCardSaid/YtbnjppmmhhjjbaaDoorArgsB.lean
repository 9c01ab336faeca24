/- Arguments of a law, opened: symbols, truth values. -/
import Derived.Test.YtbnjppmmhhjjbaaDoorArgsY
import Derived.Test.YtbnjppmmhhjjbaaDoorSyMap
namespace Go.Proofs.YtbnjppmmhhjjbaaDoor
open Go.ChangeShapes Go.WideShapes Go.ChangeAt Go.RowKit

section
variable {H : Type} {enc : TypeId × Value → H} {w : World} {base : Nat} {spare : Nat → Bool} {held : Bool}
theorem arg_Sym {r : Reach} {b : Nat} {v : Value} {d : DataW H} {p : List MemPlace} (h : Value.okWide Tryd.prog w r b 26 v) (ht : DataW.Trod enc Tryd.prog w base spare held 26 v d p) :
    ∃ x : Sy, v = x.val ∧ I64 x.ar ∧ x.name.size ≤ maxLen := by
  obtain ⟨cs, rfl, _⟩ := okWide_struct Tryd.underlying26 h
  obtain ⟨fuel, hf⟩ := ht
  obtain ⟨y, e, h1, h2⟩ := open_Sy _ _ _ hf
  have e' : cs = #[.string y.name, .int .i64 y.ar, .bool y.pred] := by apply Array.toList_inj.1; exact e
  exact ⟨y, by rw [e']; rfl, h1, h2⟩
theorem arg_bool {r : Reach} {b : Nat} {v : Value} {d : DataW H} {p : List MemPlace} (h : Value.okWide Tryd.prog w r b 4 v) (ht : DataW.Trod enc Tryd.prog w base spare held 4 v d p) :
    ∃ x : Bool, v = .bool x := by
  obtain ⟨x, rfl⟩ := okWide_bool Tryd.underlying4 h
  exact ⟨x, rfl⟩
end

end Go.Proofs.YtbnjppmmhhjjbaaDoor
