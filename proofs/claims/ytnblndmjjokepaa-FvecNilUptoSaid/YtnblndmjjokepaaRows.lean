/-
  NARROWER THAN 'FOR EVERY INPUT', by the rows' own cells (each row's printed sentence says how): FvecFeatures: loops · FvecTurned: loops · FvecLeaves: loops · FvecPlays: loops · FvecNil: loops.
  DERIVED. THE GIVEN ROWS OF THIS SEAT. 5 by the template 'for every input the law returns true; each argument reads behind the call as it read before'; 0 by the template 'total and deterministic' (their statements: YtnblndmjjokepaaTotals.lean).
  GIVEN WITH THE SEED: the statements are not yours to turn. If you find one false, say at which input.
  Laid BY PROGRAM, IN A SANDBOX (cutbox-rows.mjs): the forced cells as the released guide's own fill.sh prints them over the translation a2c89e45aeb8a4db… (all of the seat's roots in one cut). By AI agents, Wed Nov 11 2026. No macro, syntax, notation, axiom, sorry.
-/
import Derived.Test.YtnblndmjjokepaaChecked
import GoSem.Claim
import GoSem.ClaimJoined
import GoSem.ClaimMapViews
import Derived.JoinedTies
import Derived.KernelRfl
namespace Go.Proofs.Ytnblndmjjokepaa
/- THE CELL 'sum', in the pinned program and in every row, IS THE sha256 OF THE DUMP (.gsa) THAT YtnblndmjjokepaaProg.lean LOADS. Nothing in Lean hashes anything: it is a label: what it is worth is what the hold of that sum in a sandbox is worth. -/
noncomputable def Try.pinned : Pinned := { name := "ytnblndmjjokepaa", sum := "a2c89e45aeb8a4db8410daa5fbe3a7d52b866f8abf3e8a701cf30296f9e2c64c", checked := Try.checked }
namespace Rows
def none {H : Type} : Left H := { results := [], args := [] }

/-- 'syllogismlaw20.FvecFeatures': WHATEVER THE INPUT: true; the input reads as it did. -/
def fvecFeaturesSpec : ChangeSpec := { name := "fvecFeatures", fn := fun _ => fun
  | [d1, d2, d3] => { results := [.lit (.bool true)], args := [d1, d2, d3] }
  | _ => none }
def fvecFeaturesRow : OpenClaim := { program := "ytnblndmjjokepaa", sum := "a2c89e45aeb8a4db8410daa5fbe3a7d52b866f8abf3e8a701cf30296f9e2c64c", func := "syllogism/syllogismlaw20.FvecFeatures", spec := "fvecFeatures", unfollowed := true, recurses := true, loops := true, apart := false }
def FvecFeaturesSaid : Prop := fvecFeaturesRow.holds Try.pinned (OpenSpec.ofChange fvecFeaturesSpec)

/-- ITS FALSE NEIGHBOUR: 'it returns false'. Refute it at one input. -/
def fvecFeaturesWrong : ChangeSpec := { name := "fvecFeatures", fn := fun _ => fun
  | [d1, d2, d3] => { results := [.lit (.bool false)], args := [d1, d2, d3] }
  | _ => none }
def FvecFeaturesWrongFalsely : Prop := fvecFeaturesRow.holds Try.pinned (OpenSpec.ofChange fvecFeaturesWrong)

/-- 'syllogismlaw20.FvecTurned': WHATEVER THE INPUT: true; the input reads as it did. -/
def fvecTurnedSpec : ChangeSpec := { name := "fvecTurned", fn := fun _ => fun
  | [d1, d2, d3, d4] => { results := [.lit (.bool true)], args := [d1, d2, d3, d4] }
  | _ => none }
def fvecTurnedRow : OpenClaim := { program := "ytnblndmjjokepaa", sum := "a2c89e45aeb8a4db8410daa5fbe3a7d52b866f8abf3e8a701cf30296f9e2c64c", func := "syllogism/syllogismlaw20.FvecTurned", spec := "fvecTurned", unfollowed := true, recurses := true, loops := true, apart := false }
def FvecTurnedSaid : Prop := fvecTurnedRow.holds Try.pinned (OpenSpec.ofChange fvecTurnedSpec)

/-- ITS FALSE NEIGHBOUR: 'it returns false'. Refute it at one input. -/
def fvecTurnedWrong : ChangeSpec := { name := "fvecTurned", fn := fun _ => fun
  | [d1, d2, d3, d4] => { results := [.lit (.bool false)], args := [d1, d2, d3, d4] }
  | _ => none }
def FvecTurnedWrongFalsely : Prop := fvecTurnedRow.holds Try.pinned (OpenSpec.ofChange fvecTurnedWrong)

/-- 'syllogismlaw20.FvecLeaves': WHATEVER THE INPUT: true; the input reads as it did. -/
def fvecLeavesSpec : ChangeSpec := { name := "fvecLeaves", fn := fun _ => fun
  | [d1, d2, d3] => { results := [.lit (.bool true)], args := [d1, d2, d3] }
  | _ => none }
def fvecLeavesRow : OpenClaim := { program := "ytnblndmjjokepaa", sum := "a2c89e45aeb8a4db8410daa5fbe3a7d52b866f8abf3e8a701cf30296f9e2c64c", func := "syllogism/syllogismlaw20.FvecLeaves", spec := "fvecLeaves", unfollowed := true, recurses := true, loops := true, apart := false }
def FvecLeavesSaid : Prop := fvecLeavesRow.holds Try.pinned (OpenSpec.ofChange fvecLeavesSpec)

/-- ITS FALSE NEIGHBOUR: 'it returns false'. Refute it at one input. -/
def fvecLeavesWrong : ChangeSpec := { name := "fvecLeaves", fn := fun _ => fun
  | [d1, d2, d3] => { results := [.lit (.bool false)], args := [d1, d2, d3] }
  | _ => none }
def FvecLeavesWrongFalsely : Prop := fvecLeavesRow.holds Try.pinned (OpenSpec.ofChange fvecLeavesWrong)

/-- 'syllogismlaw20.FvecPlays': WHATEVER THE INPUT: true; the input reads as it did. -/
def fvecPlaysSpec : ChangeSpec := { name := "fvecPlays", fn := fun _ => fun
  | [d1, d2] => { results := [.lit (.bool true)], args := [d1, d2] }
  | _ => none }
def fvecPlaysRow : OpenClaim := { program := "ytnblndmjjokepaa", sum := "a2c89e45aeb8a4db8410daa5fbe3a7d52b866f8abf3e8a701cf30296f9e2c64c", func := "syllogism/syllogismlaw20.FvecPlays", spec := "fvecPlays", unfollowed := true, recurses := true, loops := true, apart := false }
def FvecPlaysSaid : Prop := fvecPlaysRow.holds Try.pinned (OpenSpec.ofChange fvecPlaysSpec)

/-- ITS FALSE NEIGHBOUR: 'it returns false'. Refute it at one input. -/
def fvecPlaysWrong : ChangeSpec := { name := "fvecPlays", fn := fun _ => fun
  | [d1, d2] => { results := [.lit (.bool false)], args := [d1, d2] }
  | _ => none }
def FvecPlaysWrongFalsely : Prop := fvecPlaysRow.holds Try.pinned (OpenSpec.ofChange fvecPlaysWrong)

/-- 'syllogismlaw20.FvecNil': WHATEVER THE INPUT: true; the input reads as it did. -/
def fvecNilSpec : ChangeSpec := { name := "fvecNil", fn := fun _ => fun
  | [d1, d2] => { results := [.lit (.bool true)], args := [d1, d2] }
  | _ => none }
def fvecNilRow : OpenClaim := { program := "ytnblndmjjokepaa", sum := "a2c89e45aeb8a4db8410daa5fbe3a7d52b866f8abf3e8a701cf30296f9e2c64c", func := "syllogism/syllogismlaw20.FvecNil", spec := "fvecNil", unfollowed := true, recurses := true, loops := true, apart := false }
def FvecNilSaid : Prop := fvecNilRow.holds Try.pinned (OpenSpec.ofChange fvecNilSpec)

/-- ITS FALSE NEIGHBOUR: 'it returns false'. Refute it at one input. -/
def fvecNilWrong : ChangeSpec := { name := "fvecNil", fn := fun _ => fun
  | [d1, d2] => { results := [.lit (.bool false)], args := [d1, d2] }
  | _ => none }
def FvecNilWrongFalsely : Prop := fvecNilRow.holds Try.pinned (OpenSpec.ofChange fvecNilWrong)

/- THE SECOND FORM. 'bulk': how many values and letters a reading holds, each counted each time it is reached (what is shared counts as often as it is met; a slice's spare places count too). A statement '..UptoSaid' is the law's where the arguments, and the package variables that the reading takes, are together of bulk at most 1048576: NARROWER than '..Said'. Prove '..Said' where nothing that the law and all that it calls make is longer than what came in: it says more and counts as full. Else prove '..UptoSaid'. A law counts once. -/
mutual
def uptoBulk {H : Type} : DataW H → Nat
  | .lit (.string bytes) => bytes.length + 1
  | .lit _ => 1
  | .nil => 1
  | .ptr d => uptoBulk d + 1
  | .slice elems spare => uptoBulkAll elems + uptoBulkAll spare + 1
  | .agg parts => uptoBulkAll parts + 1
  | .iface _ d => uptoBulk d + 1
  | .map entries => uptoBulkEntries entries + 1
  | .held _ => 1
def uptoBulkAll {H : Type} : List (DataW H) → Nat
  | [] => 0
  | d :: r => uptoBulk d + uptoBulkAll r
def uptoBulkEntries {H : Type} : List (Lit × DataW H) → Nat
  | [] => 0
  | x :: r => uptoBulkEntry x + uptoBulkEntries r
def uptoBulkEntry {H : Type} : Lit × DataW H → Nat
  | (.string bytes, d) => bytes.length + uptoBulk d + 1
  | (_, d) => uptoBulk d + 1
 end
def uptoSmall : (H : Type) → List (DataW H) → Bool := fun _ ds => decide (uptoBulkAll ds ≤ 1048576)
def OpenSpec.upto (s : _root_.Go.ChangeSpec) : _root_.Go.OpenSpec := { _root_.Go.OpenSpec.ofChange s with cond := some uptoSmall }

/-- 'syllogismlaw20.FvecFeatures', WHERE WHAT IT READS IS OF BULK AT MOST 1048576: true; the input reads as it did. -/
def fvecFeaturesUptoRow : OpenClaim := { program := "ytnblndmjjokepaa", sum := "a2c89e45aeb8a4db8410daa5fbe3a7d52b866f8abf3e8a701cf30296f9e2c64c", func := "syllogism/syllogismlaw20.FvecFeatures", spec := "fvecFeatures", unfollowed := true, recurses := true, loops := true, apart := false, narrowed := true }
def FvecFeaturesUptoSaid : Prop := fvecFeaturesUptoRow.holds Try.pinned (OpenSpec.upto fvecFeaturesSpec)

/-- 'syllogismlaw20.FvecTurned', WHERE WHAT IT READS IS OF BULK AT MOST 1048576: true; the input reads as it did. -/
def fvecTurnedUptoRow : OpenClaim := { program := "ytnblndmjjokepaa", sum := "a2c89e45aeb8a4db8410daa5fbe3a7d52b866f8abf3e8a701cf30296f9e2c64c", func := "syllogism/syllogismlaw20.FvecTurned", spec := "fvecTurned", unfollowed := true, recurses := true, loops := true, apart := false, narrowed := true }
def FvecTurnedUptoSaid : Prop := fvecTurnedUptoRow.holds Try.pinned (OpenSpec.upto fvecTurnedSpec)

/-- 'syllogismlaw20.FvecLeaves', WHERE WHAT IT READS IS OF BULK AT MOST 1048576: true; the input reads as it did. -/
def fvecLeavesUptoRow : OpenClaim := { program := "ytnblndmjjokepaa", sum := "a2c89e45aeb8a4db8410daa5fbe3a7d52b866f8abf3e8a701cf30296f9e2c64c", func := "syllogism/syllogismlaw20.FvecLeaves", spec := "fvecLeaves", unfollowed := true, recurses := true, loops := true, apart := false, narrowed := true }
def FvecLeavesUptoSaid : Prop := fvecLeavesUptoRow.holds Try.pinned (OpenSpec.upto fvecLeavesSpec)

/-- 'syllogismlaw20.FvecPlays', WHERE WHAT IT READS IS OF BULK AT MOST 1048576: true; the input reads as it did. -/
def fvecPlaysUptoRow : OpenClaim := { program := "ytnblndmjjokepaa", sum := "a2c89e45aeb8a4db8410daa5fbe3a7d52b866f8abf3e8a701cf30296f9e2c64c", func := "syllogism/syllogismlaw20.FvecPlays", spec := "fvecPlays", unfollowed := true, recurses := true, loops := true, apart := false, narrowed := true }
def FvecPlaysUptoSaid : Prop := fvecPlaysUptoRow.holds Try.pinned (OpenSpec.upto fvecPlaysSpec)

/-- 'syllogismlaw20.FvecNil', WHERE WHAT IT READS IS OF BULK AT MOST 1048576: true; the input reads as it did. -/
def fvecNilUptoRow : OpenClaim := { program := "ytnblndmjjokepaa", sum := "a2c89e45aeb8a4db8410daa5fbe3a7d52b866f8abf3e8a701cf30296f9e2c64c", func := "syllogism/syllogismlaw20.FvecNil", spec := "fvecNil", unfollowed := true, recurses := true, loops := true, apart := false, narrowed := true }
def FvecNilUptoSaid : Prop := fvecNilUptoRow.holds Try.pinned (OpenSpec.upto fvecNilSpec)

end Rows
end Go.Proofs.Ytnblndmjjokepaa
