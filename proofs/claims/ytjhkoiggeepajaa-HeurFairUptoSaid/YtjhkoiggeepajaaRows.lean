/-
  NARROWER THAN 'FOR EVERY INPUT', by the rows' own cells (each row's printed sentence says how): HeurWeighs: loops · HeurFair: loops · HeurRoom: loops · HeurNil: loops.
  DERIVED. THE GIVEN ROWS OF THIS SEAT. 4 by the template 'for every input the law returns true; each argument reads behind the call as it read before'; 0 by the template 'total and deterministic' (their statements: YtjhkoiggeepajaaTotals.lean).
  GIVEN WITH THE SEED: the statements are not yours to turn. If you find one false, say at which input.
  Laid BY PROGRAM, IN A SANDBOX (cutbox-rows.mjs): the forced cells as the released guide's own fill.sh prints them over the translation a7a7515ca7e4105f… (all of the seat's roots in one cut). By AI agents, Wed Nov 11 2026. No macro, syntax, notation, axiom, sorry.
-/
import Derived.Test.YtjhkoiggeepajaaChecked
import GoSem.Claim
import GoSem.ClaimJoined
import GoSem.ClaimMapViews
import Derived.JoinedTies
import Derived.KernelRfl
namespace Go.Proofs.Ytjhkoiggeepajaa
/- THE CELL 'sum', in the pinned program and in every row, IS THE sha256 OF THE DUMP (.gsa) THAT YtjhkoiggeepajaaProg.lean LOADS. Nothing in Lean hashes anything: it is a label: what it is worth is what the hold of that sum in a sandbox is worth. -/
noncomputable def Try.pinned : Pinned := { name := "ytjhkoiggeepajaa", sum := "a7a7515ca7e4105ff17f51150e833c0f06c2a01a1e30de3a942d31e44864df89", checked := Try.checked }
namespace Rows
def none {H : Type} : Left H := { results := [], args := [] }

/-- 'syllogismlaw26.HeurWeighs': WHATEVER THE INPUT: true; the input reads as it did. -/
def heurWeighsSpec : ChangeSpec := { name := "heurWeighs", fn := fun _ => fun
  | [d1, d2, d3] => { results := [.lit (.bool true)], args := [d1, d2, d3] }
  | _ => none }
def heurWeighsRow : OpenClaim := { program := "ytjhkoiggeepajaa", sum := "a7a7515ca7e4105ff17f51150e833c0f06c2a01a1e30de3a942d31e44864df89", func := "syllogism/syllogismlaw26.HeurWeighs", spec := "heurWeighs", unfollowed := true, recurses := true, loops := true, apart := false }
def HeurWeighsSaid : Prop := heurWeighsRow.holds Try.pinned (OpenSpec.ofChange heurWeighsSpec)

/-- ITS FALSE NEIGHBOUR: 'it returns false'. Refute it at one input. -/
def heurWeighsWrong : ChangeSpec := { name := "heurWeighs", fn := fun _ => fun
  | [d1, d2, d3] => { results := [.lit (.bool false)], args := [d1, d2, d3] }
  | _ => none }
def HeurWeighsWrongFalsely : Prop := heurWeighsRow.holds Try.pinned (OpenSpec.ofChange heurWeighsWrong)

/-- 'syllogismlaw26.HeurFair': WHATEVER THE INPUT: true; the input reads as it did. -/
def heurFairSpec : ChangeSpec := { name := "heurFair", fn := fun _ => fun
  | [d1, d2, d3] => { results := [.lit (.bool true)], args := [d1, d2, d3] }
  | _ => none }
def heurFairRow : OpenClaim := { program := "ytjhkoiggeepajaa", sum := "a7a7515ca7e4105ff17f51150e833c0f06c2a01a1e30de3a942d31e44864df89", func := "syllogism/syllogismlaw26.HeurFair", spec := "heurFair", unfollowed := true, recurses := true, loops := true, apart := false }
def HeurFairSaid : Prop := heurFairRow.holds Try.pinned (OpenSpec.ofChange heurFairSpec)

/-- ITS FALSE NEIGHBOUR: 'it returns false'. Refute it at one input. -/
def heurFairWrong : ChangeSpec := { name := "heurFair", fn := fun _ => fun
  | [d1, d2, d3] => { results := [.lit (.bool false)], args := [d1, d2, d3] }
  | _ => none }
def HeurFairWrongFalsely : Prop := heurFairRow.holds Try.pinned (OpenSpec.ofChange heurFairWrong)

/-- 'syllogismlaw26.HeurRoom': WHATEVER THE INPUT: true; the input reads as it did. -/
def heurRoomSpec : ChangeSpec := { name := "heurRoom", fn := fun _ => fun
  | [d1, d2] => { results := [.lit (.bool true)], args := [d1, d2] }
  | _ => none }
def heurRoomRow : OpenClaim := { program := "ytjhkoiggeepajaa", sum := "a7a7515ca7e4105ff17f51150e833c0f06c2a01a1e30de3a942d31e44864df89", func := "syllogism/syllogismlaw26.HeurRoom", spec := "heurRoom", unfollowed := true, recurses := true, loops := true, apart := false }
def HeurRoomSaid : Prop := heurRoomRow.holds Try.pinned (OpenSpec.ofChange heurRoomSpec)

/-- ITS FALSE NEIGHBOUR: 'it returns false'. Refute it at one input. -/
def heurRoomWrong : ChangeSpec := { name := "heurRoom", fn := fun _ => fun
  | [d1, d2] => { results := [.lit (.bool false)], args := [d1, d2] }
  | _ => none }
def HeurRoomWrongFalsely : Prop := heurRoomRow.holds Try.pinned (OpenSpec.ofChange heurRoomWrong)

/-- 'syllogismlaw26.HeurNil': WHATEVER THE INPUT: true; the input reads as it did. -/
def heurNilSpec : ChangeSpec := { name := "heurNil", fn := fun _ => fun
  | [d1, d2] => { results := [.lit (.bool true)], args := [d1, d2] }
  | _ => none }
def heurNilRow : OpenClaim := { program := "ytjhkoiggeepajaa", sum := "a7a7515ca7e4105ff17f51150e833c0f06c2a01a1e30de3a942d31e44864df89", func := "syllogism/syllogismlaw26.HeurNil", spec := "heurNil", unfollowed := true, recurses := true, loops := true, apart := false }
def HeurNilSaid : Prop := heurNilRow.holds Try.pinned (OpenSpec.ofChange heurNilSpec)

/-- ITS FALSE NEIGHBOUR: 'it returns false'. Refute it at one input. -/
def heurNilWrong : ChangeSpec := { name := "heurNil", fn := fun _ => fun
  | [d1, d2] => { results := [.lit (.bool false)], args := [d1, d2] }
  | _ => none }
def HeurNilWrongFalsely : Prop := heurNilRow.holds Try.pinned (OpenSpec.ofChange heurNilWrong)

/- THE SECOND FORM. 'bulk': how many values and letters a reading holds, each counted each time it is reached (what is shared counts as often as it is met; a slice's spare places count too). A statement '..UptoSaid' is the law's where the arguments, and the package variables that the reading takes, are together of bulk at most 1048576: NARROWER than '..Said'. Prove '..Said' where nothing that the law and all that it calls make is longer than what came in: it says more and counts as full. Else prove '..UptoSaid'. A law counts once. -/
mutual
def uptoBulk {H : Type} : DataW H → Nat
  | .lit (.string bytes) => bytes.length + 1
  | .lit _ => 1
  | .nil => 1
  | .ptr d => uptoBulk d + 1
  | .slice elems spare => uptoBulkAll elems + uptoBulkAll spare + 1
  | .agg parts => uptoBulkAll parts + 1
  | .iface _ d => uptoBulk d + 1
  | .map entries => uptoBulkEntries entries + 1
  | .held _ => 1
def uptoBulkAll {H : Type} : List (DataW H) → Nat
  | [] => 0
  | d :: r => uptoBulk d + uptoBulkAll r
def uptoBulkEntries {H : Type} : List (Lit × DataW H) → Nat
  | [] => 0
  | x :: r => uptoBulkEntry x + uptoBulkEntries r
def uptoBulkEntry {H : Type} : Lit × DataW H → Nat
  | (.string bytes, d) => bytes.length + uptoBulk d + 1
  | (_, d) => uptoBulk d + 1
 end
def uptoSmall : (H : Type) → List (DataW H) → Bool := fun _ ds => decide (uptoBulkAll ds ≤ 1048576)
def OpenSpec.upto (s : _root_.Go.ChangeSpec) : _root_.Go.OpenSpec := { _root_.Go.OpenSpec.ofChange s with cond := some uptoSmall }

/-- 'syllogismlaw26.HeurWeighs', WHERE WHAT IT READS IS OF BULK AT MOST 1048576: true; the input reads as it did. -/
def heurWeighsUptoRow : OpenClaim := { program := "ytjhkoiggeepajaa", sum := "a7a7515ca7e4105ff17f51150e833c0f06c2a01a1e30de3a942d31e44864df89", func := "syllogism/syllogismlaw26.HeurWeighs", spec := "heurWeighs", unfollowed := true, recurses := true, loops := true, apart := false, narrowed := true }
def HeurWeighsUptoSaid : Prop := heurWeighsUptoRow.holds Try.pinned (OpenSpec.upto heurWeighsSpec)

/-- 'syllogismlaw26.HeurFair', WHERE WHAT IT READS IS OF BULK AT MOST 1048576: true; the input reads as it did. -/
def heurFairUptoRow : OpenClaim := { program := "ytjhkoiggeepajaa", sum := "a7a7515ca7e4105ff17f51150e833c0f06c2a01a1e30de3a942d31e44864df89", func := "syllogism/syllogismlaw26.HeurFair", spec := "heurFair", unfollowed := true, recurses := true, loops := true, apart := false, narrowed := true }
def HeurFairUptoSaid : Prop := heurFairUptoRow.holds Try.pinned (OpenSpec.upto heurFairSpec)

/-- 'syllogismlaw26.HeurRoom', WHERE WHAT IT READS IS OF BULK AT MOST 1048576: true; the input reads as it did. -/
def heurRoomUptoRow : OpenClaim := { program := "ytjhkoiggeepajaa", sum := "a7a7515ca7e4105ff17f51150e833c0f06c2a01a1e30de3a942d31e44864df89", func := "syllogism/syllogismlaw26.HeurRoom", spec := "heurRoom", unfollowed := true, recurses := true, loops := true, apart := false, narrowed := true }
def HeurRoomUptoSaid : Prop := heurRoomUptoRow.holds Try.pinned (OpenSpec.upto heurRoomSpec)

/-- 'syllogismlaw26.HeurNil', WHERE WHAT IT READS IS OF BULK AT MOST 1048576: true; the input reads as it did. -/
def heurNilUptoRow : OpenClaim := { program := "ytjhkoiggeepajaa", sum := "a7a7515ca7e4105ff17f51150e833c0f06c2a01a1e30de3a942d31e44864df89", func := "syllogism/syllogismlaw26.HeurNil", spec := "heurNil", unfollowed := true, recurses := true, loops := true, apart := false, narrowed := true }
def HeurNilUptoSaid : Prop := heurNilUptoRow.holds Try.pinned (OpenSpec.upto heurNilSpec)

end Rows
end Go.Proofs.Ytjhkoiggeepajaa
