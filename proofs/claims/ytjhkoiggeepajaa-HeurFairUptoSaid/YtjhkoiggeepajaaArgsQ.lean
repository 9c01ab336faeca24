/- Arguments of a law, opened: numbers of queues, truth values. -/
import Derived.Test.YtjhkoiggeepajaaArgs0
namespace Go.Proofs.Ytjhkoiggeepajaa
open Go.ChangeShapes Go.WideShapes Go.ChangeAt Go.RowKit

section
variable {H : Type} {enc : TypeId × Value → H} {w : World} {base : Nat} {spare : Nat → Bool} {held : Bool}
theorem arg_bool {r : Reach} {b : Nat} {v : Value} {d : DataW H} {p : List MemPlace} (h : Value.okWide Try.prog w r b 4 v) (ht : DataW.Trod enc Try.prog w base spare held 4 v d p) :
    ∃ x : Bool, v = .bool x := by
  obtain ⟨x, rfl⟩ := okWide_bool Try.underlying4 h
  exact ⟨x, rfl⟩
set_option maxRecDepth 100000 in
theorem arg_QBy {r : Reach} {b : Nat} {v : Value} {d : DataW H} {p : List MemPlace} (h : Value.okWide Try.prog w r b 22 v) (ht : DataW.Trod enc Try.prog w base spare held 22 v d p) :
    ∃ n : Int, v = .int .i64 n ∧ I64 n := by
  obtain ⟨n, rfl⟩ := okWide_int Try.underlying22 h
  obtain ⟨fuel, hf⟩ := ht
  obtain ⟨m, e, _, wf⟩ := DataW.trod_int Try.underlying22 hf
  have e' : (.int .i64 n : Value) = .int .i64 m := by simpa [Value.cells] using e
  simp only [Value.int.injEq, true_and] at e'
  exact ⟨n, rfl, by rw [e']; exact i64_wf wf⟩
end
end Go.Proofs.Ytjhkoiggeepajaa
