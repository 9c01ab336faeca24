/-
  NARROWER THAN 'FOR EVERY INPUT', by the rows' own cells (each row's printed sentence says how): ChooseSound: loops · ChooseNames: loops.
  DERIVED. THE GIVEN ROWS OF THIS SEAT. 2 by the template 'for every input the law returns true; each argument reads behind the call as it read before'; 0 by the template 'total and deterministic' (their statements: YtnokgjajcnhkkaaTotals.lean).
  GIVEN WITH THE SEED: the statements are not yours to turn. If you find one false, say at which input.
  Laid BY PROGRAM, IN A SANDBOX (cutbox-rows.mjs): the forced cells as the released guide's own fill.sh prints them over the translation cf7f02c95fe325b0… (all of the seat's roots in one cut). By AI agents, Wed Nov 11 2026. No macro, syntax, notation, axiom, sorry.
-/
import Derived.Test.YtnokgjajcnhkkaaChecked
import GoSem.Claim
import GoSem.ClaimJoined
import GoSem.ClaimMapViews
import Derived.JoinedTies
import Derived.KernelRfl
namespace Go.Proofs.Ytnokgjajcnhkkaa
/- THE CELL 'sum', in the pinned program and in every row, IS THE sha256 OF THE DUMP (.gsa) THAT YtnokgjajcnhkkaaProg.lean LOADS. Nothing in Lean hashes anything: it is a label: what it is worth is what the hold of that sum in a sandbox is worth. -/
noncomputable def Try.pinned : Pinned := { name := "ytnokgjajcnhkkaa", sum := "cf7f02c95fe325b0663e93b46b375ebc497cbb44e8c4b1f0a94c098cfbe58e51", checked := Try.checked }
namespace Rows
def none {H : Type} : Left H := { results := [], args := [] }

/-- 'syllogismlaw22.ChooseSound': WHATEVER THE INPUT: true; the input reads as it did. -/
def chooseSoundSpec : ChangeSpec := { name := "chooseSound", fn := fun _ => fun
  | [d1, d2, d3] => { results := [.lit (.bool true)], args := [d1, d2, d3] }
  | _ => none }
def chooseSoundRow : OpenClaim := { program := "ytnokgjajcnhkkaa", sum := "cf7f02c95fe325b0663e93b46b375ebc497cbb44e8c4b1f0a94c098cfbe58e51", func := "syllogism/syllogismlaw22.ChooseSound", spec := "chooseSound", unfollowed := true, recurses := true, loops := true, plainKeys := false, apart := false }
def ChooseSoundSaid : Prop := chooseSoundRow.holds Try.pinned (OpenSpec.ofChange chooseSoundSpec)

/-- ITS FALSE NEIGHBOUR: 'it returns false'. Refute it at one input. -/
def chooseSoundWrong : ChangeSpec := { name := "chooseSound", fn := fun _ => fun
  | [d1, d2, d3] => { results := [.lit (.bool false)], args := [d1, d2, d3] }
  | _ => none }
def ChooseSoundWrongFalsely : Prop := chooseSoundRow.holds Try.pinned (OpenSpec.ofChange chooseSoundWrong)

/-- 'syllogismlaw22.ChooseNames': WHATEVER THE INPUT: true; the input reads as it did. -/
def chooseNamesSpec : ChangeSpec := { name := "chooseNames", fn := fun _ => fun
  | [d1, d2, d3, d4, d5] => { results := [.lit (.bool true)], args := [d1, d2, d3, d4, d5] }
  | _ => none }
def chooseNamesRow : OpenClaim := { program := "ytnokgjajcnhkkaa", sum := "cf7f02c95fe325b0663e93b46b375ebc497cbb44e8c4b1f0a94c098cfbe58e51", func := "syllogism/syllogismlaw22.ChooseNames", spec := "chooseNames", unfollowed := true, recurses := true, loops := true, plainKeys := false, apart := false }
def ChooseNamesSaid : Prop := chooseNamesRow.holds Try.pinned (OpenSpec.ofChange chooseNamesSpec)

/-- ITS FALSE NEIGHBOUR: 'it returns false'. Refute it at one input. -/
def chooseNamesWrong : ChangeSpec := { name := "chooseNames", fn := fun _ => fun
  | [d1, d2, d3, d4, d5] => { results := [.lit (.bool false)], args := [d1, d2, d3, d4, d5] }
  | _ => none }
def ChooseNamesWrongFalsely : Prop := chooseNamesRow.holds Try.pinned (OpenSpec.ofChange chooseNamesWrong)

/- THE SECOND FORM. 'bulk': how many values and letters a reading holds, each counted each time it is reached (what is shared counts as often as it is met; a slice's spare places count too). A statement '..UptoSaid' is the law's where the arguments, and the package variables that the reading takes, are together of bulk at most 1048576: NARROWER than '..Said'. Prove '..Said' where nothing that the law and all that it calls make is longer than what came in: it says more and counts as full. Else prove '..UptoSaid'. A law counts once. -/
mutual
def uptoBulk {H : Type} : DataW H → Nat
  | .lit (.string bytes) => bytes.length + 1
  | .lit _ => 1
  | .nil => 1
  | .ptr d => uptoBulk d + 1
  | .slice elems spare => uptoBulkAll elems + uptoBulkAll spare + 1
  | .agg parts => uptoBulkAll parts + 1
  | .iface _ d => uptoBulk d + 1
  | .map entries => uptoBulkEntries entries + 1
  | .held _ => 1
def uptoBulkAll {H : Type} : List (DataW H) → Nat
  | [] => 0
  | d :: r => uptoBulk d + uptoBulkAll r
def uptoBulkEntries {H : Type} : List (Lit × DataW H) → Nat
  | [] => 0
  | x :: r => uptoBulkEntry x + uptoBulkEntries r
def uptoBulkEntry {H : Type} : Lit × DataW H → Nat
  | (.string bytes, d) => bytes.length + uptoBulk d + 1
  | (_, d) => uptoBulk d + 1
 end
def uptoSmall : (H : Type) → List (DataW H) → Bool := fun _ ds => decide (uptoBulkAll ds ≤ 1048576)
def OpenSpec.upto (s : _root_.Go.ChangeSpec) : _root_.Go.OpenSpec := { _root_.Go.OpenSpec.ofChange s with cond := some uptoSmall }

/-- 'syllogismlaw22.ChooseSound', WHERE WHAT IT READS IS OF BULK AT MOST 1048576: true; the input reads as it did. -/
def chooseSoundUptoRow : OpenClaim := { program := "ytnokgjajcnhkkaa", sum := "cf7f02c95fe325b0663e93b46b375ebc497cbb44e8c4b1f0a94c098cfbe58e51", func := "syllogism/syllogismlaw22.ChooseSound", spec := "chooseSound", unfollowed := true, recurses := true, loops := true, plainKeys := false, apart := false, narrowed := true }
def ChooseSoundUptoSaid : Prop := chooseSoundUptoRow.holds Try.pinned (OpenSpec.upto chooseSoundSpec)

/-- 'syllogismlaw22.ChooseNames', WHERE WHAT IT READS IS OF BULK AT MOST 1048576: true; the input reads as it did. -/
def chooseNamesUptoRow : OpenClaim := { program := "ytnokgjajcnhkkaa", sum := "cf7f02c95fe325b0663e93b46b375ebc497cbb44e8c4b1f0a94c098cfbe58e51", func := "syllogism/syllogismlaw22.ChooseNames", spec := "chooseNames", unfollowed := true, recurses := true, loops := true, plainKeys := false, apart := false, narrowed := true }
def ChooseNamesUptoSaid : Prop := chooseNamesUptoRow.holds Try.pinned (OpenSpec.upto chooseNamesSpec)

end Rows
end Go.Proofs.Ytnokgjajcnhkkaa
