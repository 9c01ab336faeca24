/-
  NARROWER THAN 'FOR EVERY INPUT', by the rows' own cells (each row's printed sentence says how): UnifyTells: loops · UnifyMost: loops · UnifyMakes: loops.
  DERIVED. THE GIVEN ROWS OF THIS SEAT. 3 by the template 'for every input the law returns true; each argument reads behind the call as it read before'; 0 by the template 'total and deterministic' (their statements: YthhgidliopohcaaTotals.lean).
  GIVEN WITH THE SEED: the statements are not yours to turn. If you find one false, say at which input.
  Laid BY PROGRAM, IN A SANDBOX (cutbox-rows.mjs): the forced cells as the released guide's own fill.sh prints them over the translation 9ce4a8ef192a4f78… (all of the seat's roots in one cut). By AI agents, Wed Nov 11 2026. No macro, syntax, notation, axiom, sorry.
-/
import Derived.Test.YthhgidliopohcaaChecked
import GoSem.Claim
import GoSem.ClaimJoined
import GoSem.ClaimMapViews
import Derived.JoinedTies
import Derived.KernelRfl
namespace Go.Proofs.Ythhgidliopohcaa
/- THE CELL 'sum', in the pinned program and in every row, IS THE sha256 OF THE DUMP (.gsa) THAT YthhgidliopohcaaProg.lean LOADS. Nothing in Lean hashes anything: it is a label: what it is worth is what the hold of that sum in a sandbox is worth. -/
noncomputable def Try.pinned : Pinned := { name := "ythhgidliopohcaa", sum := "9ce4a8ef192a4f78abb680634cce1a47c076cc1c07bdd683309ad7e1f7de8ca1", checked := Try.checked }
namespace Rows
def none {H : Type} : Left H := { results := [], args := [] }

/-- 'syllogismlaw05.UnifyTells': WHATEVER THE INPUT: true; the input reads as it did. -/
def unifyTellsSpec : ChangeSpec := { name := "unifyTells", fn := fun _ => fun
  | [d] => { results := [.lit (.bool true)], args := [d] }
  | _ => none }
def unifyTellsRow : OpenClaim := { program := "ythhgidliopohcaa", sum := "9ce4a8ef192a4f78abb680634cce1a47c076cc1c07bdd683309ad7e1f7de8ca1", func := "syllogism/syllogismlaw05.UnifyTells", spec := "unifyTells", unfollowed := true, recurses := true, loops := true, apart := false }
def UnifyTellsSaid : Prop := unifyTellsRow.holds Try.pinned (OpenSpec.ofChange unifyTellsSpec)

/-- ITS FALSE NEIGHBOUR: 'it returns false'. Refute it at one input. -/
def unifyTellsWrong : ChangeSpec := { name := "unifyTells", fn := fun _ => fun
  | [d] => { results := [.lit (.bool false)], args := [d] }
  | _ => none }
def UnifyTellsWrongFalsely : Prop := unifyTellsRow.holds Try.pinned (OpenSpec.ofChange unifyTellsWrong)

/-- 'syllogismlaw05.UnifyMost': WHATEVER THE INPUT: true; the input reads as it did. -/
def unifyMostSpec : ChangeSpec := { name := "unifyMost", fn := fun _ => fun
  | [d1, d2, d3, d4] => { results := [.lit (.bool true)], args := [d1, d2, d3, d4] }
  | _ => none }
def unifyMostRow : OpenClaim := { program := "ythhgidliopohcaa", sum := "9ce4a8ef192a4f78abb680634cce1a47c076cc1c07bdd683309ad7e1f7de8ca1", func := "syllogism/syllogismlaw05.UnifyMost", spec := "unifyMost", unfollowed := true, recurses := true, loops := true, apart := false }
def UnifyMostSaid : Prop := unifyMostRow.holds Try.pinned (OpenSpec.ofChange unifyMostSpec)

/-- ITS FALSE NEIGHBOUR: 'it returns false'. Refute it at one input. -/
def unifyMostWrong : ChangeSpec := { name := "unifyMost", fn := fun _ => fun
  | [d1, d2, d3, d4] => { results := [.lit (.bool false)], args := [d1, d2, d3, d4] }
  | _ => none }
def UnifyMostWrongFalsely : Prop := unifyMostRow.holds Try.pinned (OpenSpec.ofChange unifyMostWrong)

/-- 'syllogismlaw05.UnifyMakes': WHATEVER THE INPUT: true; the input reads as it did. -/
def unifyMakesSpec : ChangeSpec := { name := "unifyMakes", fn := fun _ => fun
  | [d] => { results := [.lit (.bool true)], args := [d] }
  | _ => none }
def unifyMakesRow : OpenClaim := { program := "ythhgidliopohcaa", sum := "9ce4a8ef192a4f78abb680634cce1a47c076cc1c07bdd683309ad7e1f7de8ca1", func := "syllogism/syllogismlaw05.UnifyMakes", spec := "unifyMakes", unfollowed := true, recurses := true, loops := true, apart := false }
def UnifyMakesSaid : Prop := unifyMakesRow.holds Try.pinned (OpenSpec.ofChange unifyMakesSpec)

/-- ITS FALSE NEIGHBOUR: 'it returns false'. Refute it at one input. -/
def unifyMakesWrong : ChangeSpec := { name := "unifyMakes", fn := fun _ => fun
  | [d] => { results := [.lit (.bool false)], args := [d] }
  | _ => none }
def UnifyMakesWrongFalsely : Prop := unifyMakesRow.holds Try.pinned (OpenSpec.ofChange unifyMakesWrong)

/- THE SECOND FORM. 'bulk': how many values and letters a reading holds, each counted each time it is reached (what is shared counts as often as it is met; a slice's spare places count too). A statement '..UptoSaid' is the law's where the arguments, and the package variables that the reading takes, are together of bulk at most 1048576: NARROWER than '..Said'. Prove '..Said' where nothing that the law and all that it calls make is longer than what came in: it says more and counts as full. Else prove '..UptoSaid'. A law counts once. -/
mutual
def uptoBulk {H : Type} : DataW H → Nat
  | .lit (.string bytes) => bytes.length + 1
  | .lit _ => 1
  | .nil => 1
  | .ptr d => uptoBulk d + 1
  | .slice elems spare => uptoBulkAll elems + uptoBulkAll spare + 1
  | .agg parts => uptoBulkAll parts + 1
  | .iface _ d => uptoBulk d + 1
  | .map entries => uptoBulkEntries entries + 1
  | .held _ => 1
def uptoBulkAll {H : Type} : List (DataW H) → Nat
  | [] => 0
  | d :: r => uptoBulk d + uptoBulkAll r
def uptoBulkEntries {H : Type} : List (Lit × DataW H) → Nat
  | [] => 0
  | x :: r => uptoBulkEntry x + uptoBulkEntries r
def uptoBulkEntry {H : Type} : Lit × DataW H → Nat
  | (.string bytes, d) => bytes.length + uptoBulk d + 1
  | (_, d) => uptoBulk d + 1
 end
def uptoSmall : (H : Type) → List (DataW H) → Bool := fun _ ds => decide (uptoBulkAll ds ≤ 1048576)
def OpenSpec.upto (s : _root_.Go.ChangeSpec) : _root_.Go.OpenSpec := { _root_.Go.OpenSpec.ofChange s with cond := some uptoSmall }

/-- 'syllogismlaw05.UnifyTells', WHERE WHAT IT READS IS OF BULK AT MOST 1048576: true; the input reads as it did. -/
def unifyTellsUptoRow : OpenClaim := { program := "ythhgidliopohcaa", sum := "9ce4a8ef192a4f78abb680634cce1a47c076cc1c07bdd683309ad7e1f7de8ca1", func := "syllogism/syllogismlaw05.UnifyTells", spec := "unifyTells", unfollowed := true, recurses := true, loops := true, apart := false, narrowed := true }
def UnifyTellsUptoSaid : Prop := unifyTellsUptoRow.holds Try.pinned (OpenSpec.upto unifyTellsSpec)

/-- 'syllogismlaw05.UnifyMost', WHERE WHAT IT READS IS OF BULK AT MOST 1048576: true; the input reads as it did. -/
def unifyMostUptoRow : OpenClaim := { program := "ythhgidliopohcaa", sum := "9ce4a8ef192a4f78abb680634cce1a47c076cc1c07bdd683309ad7e1f7de8ca1", func := "syllogism/syllogismlaw05.UnifyMost", spec := "unifyMost", unfollowed := true, recurses := true, loops := true, apart := false, narrowed := true }
def UnifyMostUptoSaid : Prop := unifyMostUptoRow.holds Try.pinned (OpenSpec.upto unifyMostSpec)

/-- 'syllogismlaw05.UnifyMakes', WHERE WHAT IT READS IS OF BULK AT MOST 1048576: true; the input reads as it did. -/
def unifyMakesUptoRow : OpenClaim := { program := "ythhgidliopohcaa", sum := "9ce4a8ef192a4f78abb680634cce1a47c076cc1c07bdd683309ad7e1f7de8ca1", func := "syllogism/syllogismlaw05.UnifyMakes", spec := "unifyMakes", unfollowed := true, recurses := true, loops := true, apart := false, narrowed := true }
def UnifyMakesUptoSaid : Prop := unifyMakesUptoRow.holds Try.pinned (OpenSpec.upto unifyMakesSpec)

end Rows
end Go.Proofs.Ythhgidliopohcaa
