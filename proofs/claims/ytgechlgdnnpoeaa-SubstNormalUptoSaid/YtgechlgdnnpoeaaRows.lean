/-
  NARROWER THAN 'FOR EVERY INPUT', by the rows' own cells (each row's printed sentence says how): SubstComposes: loops · SubstTwice: loops · SubstMoves: loops · SubstNormal: loops · SubstPuts: loops · SubstNames: loops.
  DERIVED. THE GIVEN ROWS OF THIS SEAT. 6 by the template 'for every input the law returns true; each argument reads behind the call as it read before'; 0 by the template 'total and deterministic' (their statements: YtgechlgdnnpoeaaTotals.lean).
  GIVEN WITH THE SEED: the statements are not yours to turn. If you find one false, say at which input.
  Laid BY PROGRAM, IN A SANDBOX (cutbox-rows.mjs): the forced cells as the released guide's own fill.sh prints them over the translation 745226054f23229e… (all of the seat's roots in one cut). By AI agents, Wed Nov 11 2026. No macro, syntax, notation, axiom, sorry.
-/
import Derived.Test.YtgechlgdnnpoeaaChecked
import GoSem.Claim
import GoSem.ClaimJoined
import GoSem.ClaimMapViews
import Derived.JoinedTies
import Derived.KernelRfl
namespace Go.Proofs.Ytgechlgdnnpoeaa
/- THE CELL 'sum', in the pinned program and in every row, IS THE sha256 OF THE DUMP (.gsa) THAT YtgechlgdnnpoeaaProg.lean LOADS. Nothing in Lean hashes anything: it is a label: what it is worth is what the hold of that sum in a sandbox is worth. -/
noncomputable def Try.pinned : Pinned := { name := "ytgechlgdnnpoeaa", sum := "745226054f23229e303a517db6e2357cf8b3c1bfde44b99d1b8f8f5816d6b7dd", checked := Try.checked }
namespace Rows
def none {H : Type} : Left H := { results := [], args := [] }

/-- 'syllogismlaw04.SubstComposes': WHATEVER THE INPUT: true; the input reads as it did. -/
def substComposesSpec : ChangeSpec := { name := "substComposes", fn := fun _ => fun
  | [d1, d2] => { results := [.lit (.bool true)], args := [d1, d2] }
  | _ => none }
def substComposesRow : OpenClaim := { program := "ytgechlgdnnpoeaa", sum := "745226054f23229e303a517db6e2357cf8b3c1bfde44b99d1b8f8f5816d6b7dd", func := "syllogism/syllogismlaw04.SubstComposes", spec := "substComposes", unfollowed := true, recurses := true, loops := true, apart := false }
def SubstComposesSaid : Prop := substComposesRow.holds Try.pinned (OpenSpec.ofChange substComposesSpec)

/-- ITS FALSE NEIGHBOUR: 'it returns false'. Refute it at one input. -/
def substComposesWrong : ChangeSpec := { name := "substComposes", fn := fun _ => fun
  | [d1, d2] => { results := [.lit (.bool false)], args := [d1, d2] }
  | _ => none }
def SubstComposesWrongFalsely : Prop := substComposesRow.holds Try.pinned (OpenSpec.ofChange substComposesWrong)

/-- 'syllogismlaw04.SubstTwice': WHATEVER THE INPUT: true; the input reads as it did. -/
def substTwiceSpec : ChangeSpec := { name := "substTwice", fn := fun _ => fun
  | [d1, d2, d3, d4] => { results := [.lit (.bool true)], args := [d1, d2, d3, d4] }
  | _ => none }
def substTwiceRow : OpenClaim := { program := "ytgechlgdnnpoeaa", sum := "745226054f23229e303a517db6e2357cf8b3c1bfde44b99d1b8f8f5816d6b7dd", func := "syllogism/syllogismlaw04.SubstTwice", spec := "substTwice", unfollowed := true, recurses := true, loops := true, apart := false }
def SubstTwiceSaid : Prop := substTwiceRow.holds Try.pinned (OpenSpec.ofChange substTwiceSpec)

/-- ITS FALSE NEIGHBOUR: 'it returns false'. Refute it at one input. -/
def substTwiceWrong : ChangeSpec := { name := "substTwice", fn := fun _ => fun
  | [d1, d2, d3, d4] => { results := [.lit (.bool false)], args := [d1, d2, d3, d4] }
  | _ => none }
def SubstTwiceWrongFalsely : Prop := substTwiceRow.holds Try.pinned (OpenSpec.ofChange substTwiceWrong)

/-- 'syllogismlaw04.SubstMoves': WHATEVER THE INPUT: true; the input reads as it did. -/
def substMovesSpec : ChangeSpec := { name := "substMoves", fn := fun _ => fun
  | [d1, d2] => { results := [.lit (.bool true)], args := [d1, d2] }
  | _ => none }
def substMovesRow : OpenClaim := { program := "ytgechlgdnnpoeaa", sum := "745226054f23229e303a517db6e2357cf8b3c1bfde44b99d1b8f8f5816d6b7dd", func := "syllogism/syllogismlaw04.SubstMoves", spec := "substMoves", unfollowed := true, recurses := true, loops := true, apart := false }
def SubstMovesSaid : Prop := substMovesRow.holds Try.pinned (OpenSpec.ofChange substMovesSpec)

/-- ITS FALSE NEIGHBOUR: 'it returns false'. Refute it at one input. -/
def substMovesWrong : ChangeSpec := { name := "substMoves", fn := fun _ => fun
  | [d1, d2] => { results := [.lit (.bool false)], args := [d1, d2] }
  | _ => none }
def SubstMovesWrongFalsely : Prop := substMovesRow.holds Try.pinned (OpenSpec.ofChange substMovesWrong)

/-- 'syllogismlaw04.SubstNormal': WHATEVER THE INPUT: true; the input reads as it did. -/
def substNormalSpec : ChangeSpec := { name := "substNormal", fn := fun _ => fun
  | [d] => { results := [.lit (.bool true)], args := [d] }
  | _ => none }
def substNormalRow : OpenClaim := { program := "ytgechlgdnnpoeaa", sum := "745226054f23229e303a517db6e2357cf8b3c1bfde44b99d1b8f8f5816d6b7dd", func := "syllogism/syllogismlaw04.SubstNormal", spec := "substNormal", unfollowed := true, recurses := true, loops := true, apart := false }
def SubstNormalSaid : Prop := substNormalRow.holds Try.pinned (OpenSpec.ofChange substNormalSpec)

/-- ITS FALSE NEIGHBOUR: 'it returns false'. Refute it at one input. -/
def substNormalWrong : ChangeSpec := { name := "substNormal", fn := fun _ => fun
  | [d] => { results := [.lit (.bool false)], args := [d] }
  | _ => none }
def SubstNormalWrongFalsely : Prop := substNormalRow.holds Try.pinned (OpenSpec.ofChange substNormalWrong)

/-- 'syllogismlaw04.SubstPuts': WHATEVER THE INPUT: true; the input reads as it did. -/
def substPutsSpec : ChangeSpec := { name := "substPuts", fn := fun _ => fun
  | [d1, d2, d3, d4] => { results := [.lit (.bool true)], args := [d1, d2, d3, d4] }
  | _ => none }
def substPutsRow : OpenClaim := { program := "ytgechlgdnnpoeaa", sum := "745226054f23229e303a517db6e2357cf8b3c1bfde44b99d1b8f8f5816d6b7dd", func := "syllogism/syllogismlaw04.SubstPuts", spec := "substPuts", unfollowed := true, recurses := true, loops := true, apart := false }
def SubstPutsSaid : Prop := substPutsRow.holds Try.pinned (OpenSpec.ofChange substPutsSpec)

/-- ITS FALSE NEIGHBOUR: 'it returns false'. Refute it at one input. -/
def substPutsWrong : ChangeSpec := { name := "substPuts", fn := fun _ => fun
  | [d1, d2, d3, d4] => { results := [.lit (.bool false)], args := [d1, d2, d3, d4] }
  | _ => none }
def SubstPutsWrongFalsely : Prop := substPutsRow.holds Try.pinned (OpenSpec.ofChange substPutsWrong)

/-- 'syllogismlaw04.SubstNames': WHATEVER THE INPUT: true; the input reads as it did. -/
def substNamesSpec : ChangeSpec := { name := "substNames", fn := fun _ => fun
  | [d1, d2] => { results := [.lit (.bool true)], args := [d1, d2] }
  | _ => none }
def substNamesRow : OpenClaim := { program := "ytgechlgdnnpoeaa", sum := "745226054f23229e303a517db6e2357cf8b3c1bfde44b99d1b8f8f5816d6b7dd", func := "syllogism/syllogismlaw04.SubstNames", spec := "substNames", unfollowed := true, recurses := true, loops := true, apart := false }
def SubstNamesSaid : Prop := substNamesRow.holds Try.pinned (OpenSpec.ofChange substNamesSpec)

/-- ITS FALSE NEIGHBOUR: 'it returns false'. Refute it at one input. -/
def substNamesWrong : ChangeSpec := { name := "substNames", fn := fun _ => fun
  | [d1, d2] => { results := [.lit (.bool false)], args := [d1, d2] }
  | _ => none }
def SubstNamesWrongFalsely : Prop := substNamesRow.holds Try.pinned (OpenSpec.ofChange substNamesWrong)

/- THE SECOND FORM. 'bulk': how many values and letters a reading holds, each counted each time it is reached (what is shared counts as often as it is met; a slice's spare places count too). A statement '..UptoSaid' is the law's where the arguments, and the package variables that the reading takes, are together of bulk at most 1048576: NARROWER than '..Said'. Prove '..Said' where nothing that the law and all that it calls make is longer than what came in: it says more and counts as full. Else prove '..UptoSaid'. A law counts once. -/
mutual
def uptoBulk {H : Type} : DataW H → Nat
  | .lit (.string bytes) => bytes.length + 1
  | .lit _ => 1
  | .nil => 1
  | .ptr d => uptoBulk d + 1
  | .slice elems spare => uptoBulkAll elems + uptoBulkAll spare + 1
  | .agg parts => uptoBulkAll parts + 1
  | .iface _ d => uptoBulk d + 1
  | .map entries => uptoBulkEntries entries + 1
  | .held _ => 1
def uptoBulkAll {H : Type} : List (DataW H) → Nat
  | [] => 0
  | d :: r => uptoBulk d + uptoBulkAll r
def uptoBulkEntries {H : Type} : List (Lit × DataW H) → Nat
  | [] => 0
  | x :: r => uptoBulkEntry x + uptoBulkEntries r
def uptoBulkEntry {H : Type} : Lit × DataW H → Nat
  | (.string bytes, d) => bytes.length + uptoBulk d + 1
  | (_, d) => uptoBulk d + 1
 end
def uptoSmall : (H : Type) → List (DataW H) → Bool := fun _ ds => decide (uptoBulkAll ds ≤ 1048576)
def OpenSpec.upto (s : _root_.Go.ChangeSpec) : _root_.Go.OpenSpec := { _root_.Go.OpenSpec.ofChange s with cond := some uptoSmall }

/-- 'syllogismlaw04.SubstComposes', WHERE WHAT IT READS IS OF BULK AT MOST 1048576: true; the input reads as it did. -/
def substComposesUptoRow : OpenClaim := { program := "ytgechlgdnnpoeaa", sum := "745226054f23229e303a517db6e2357cf8b3c1bfde44b99d1b8f8f5816d6b7dd", func := "syllogism/syllogismlaw04.SubstComposes", spec := "substComposes", unfollowed := true, recurses := true, loops := true, apart := false, narrowed := true }
def SubstComposesUptoSaid : Prop := substComposesUptoRow.holds Try.pinned (OpenSpec.upto substComposesSpec)

/-- 'syllogismlaw04.SubstTwice', WHERE WHAT IT READS IS OF BULK AT MOST 1048576: true; the input reads as it did. -/
def substTwiceUptoRow : OpenClaim := { program := "ytgechlgdnnpoeaa", sum := "745226054f23229e303a517db6e2357cf8b3c1bfde44b99d1b8f8f5816d6b7dd", func := "syllogism/syllogismlaw04.SubstTwice", spec := "substTwice", unfollowed := true, recurses := true, loops := true, apart := false, narrowed := true }
def SubstTwiceUptoSaid : Prop := substTwiceUptoRow.holds Try.pinned (OpenSpec.upto substTwiceSpec)

/-- 'syllogismlaw04.SubstMoves', WHERE WHAT IT READS IS OF BULK AT MOST 1048576: true; the input reads as it did. -/
def substMovesUptoRow : OpenClaim := { program := "ytgechlgdnnpoeaa", sum := "745226054f23229e303a517db6e2357cf8b3c1bfde44b99d1b8f8f5816d6b7dd", func := "syllogism/syllogismlaw04.SubstMoves", spec := "substMoves", unfollowed := true, recurses := true, loops := true, apart := false, narrowed := true }
def SubstMovesUptoSaid : Prop := substMovesUptoRow.holds Try.pinned (OpenSpec.upto substMovesSpec)

/-- 'syllogismlaw04.SubstNormal', WHERE WHAT IT READS IS OF BULK AT MOST 1048576: true; the input reads as it did. -/
def substNormalUptoRow : OpenClaim := { program := "ytgechlgdnnpoeaa", sum := "745226054f23229e303a517db6e2357cf8b3c1bfde44b99d1b8f8f5816d6b7dd", func := "syllogism/syllogismlaw04.SubstNormal", spec := "substNormal", unfollowed := true, recurses := true, loops := true, apart := false, narrowed := true }
def SubstNormalUptoSaid : Prop := substNormalUptoRow.holds Try.pinned (OpenSpec.upto substNormalSpec)

/-- 'syllogismlaw04.SubstPuts', WHERE WHAT IT READS IS OF BULK AT MOST 1048576: true; the input reads as it did. -/
def substPutsUptoRow : OpenClaim := { program := "ytgechlgdnnpoeaa", sum := "745226054f23229e303a517db6e2357cf8b3c1bfde44b99d1b8f8f5816d6b7dd", func := "syllogism/syllogismlaw04.SubstPuts", spec := "substPuts", unfollowed := true, recurses := true, loops := true, apart := false, narrowed := true }
def SubstPutsUptoSaid : Prop := substPutsUptoRow.holds Try.pinned (OpenSpec.upto substPutsSpec)

/-- 'syllogismlaw04.SubstNames', WHERE WHAT IT READS IS OF BULK AT MOST 1048576: true; the input reads as it did. -/
def substNamesUptoRow : OpenClaim := { program := "ytgechlgdnnpoeaa", sum := "745226054f23229e303a517db6e2357cf8b3c1bfde44b99d1b8f8f5816d6b7dd", func := "syllogism/syllogismlaw04.SubstNames", spec := "substNames", unfollowed := true, recurses := true, loops := true, apart := false, narrowed := true }
def SubstNamesUptoSaid : Prop := substNamesUptoRow.holds Try.pinned (OpenSpec.upto substNamesSpec)

end Rows
end Go.Proofs.Ytgechlgdnnpoeaa
