/-
  NARROWER THAN 'FOR EVERY INPUT', by the rows' own cells (each row's printed sentence says how): KboTells: loops · KboOrders: loops · KboSubterms: loops · KboStable: loops · KboWithin: loops.
  DERIVED. THE GIVEN ROWS OF THIS SEAT. 5 by the template 'for every input the law returns true; each argument reads behind the call as it read before'; 0 by the template 'total and deterministic' (their statements: YtjkpecjlpgcalaaTotals.lean).
  GIVEN WITH THE SEED: the statements are not yours to turn. If you find one false, say at which input.
  Laid BY PROGRAM, IN A SANDBOX (cutbox-rows.mjs): the forced cells as the released guide's own fill.sh prints them over the translation 99ba7ff23619b643… (all of the seat's roots in one cut). By AI agents, Wed Nov 11 2026. No macro, syntax, notation, axiom, sorry.
-/
import Derived.Test.YtjkpecjlpgcalaaChecked
import GoSem.Claim
import GoSem.ClaimJoined
import GoSem.ClaimMapViews
import Derived.JoinedTies
import Derived.KernelRfl
namespace Go.Proofs.Ytjkpecjlpgcalaa
/- THE CELL 'sum', in the pinned program and in every row, IS THE sha256 OF THE DUMP (.gsa) THAT YtjkpecjlpgcalaaProg.lean LOADS. Nothing in Lean hashes anything: it is a label: what it is worth is what the hold of that sum in a sandbox is worth. -/
noncomputable def Try.pinned : Pinned := { name := "ytjkpecjlpgcalaa", sum := "99ba7ff23619b64327ed464aeb9cddeb03ec4ff201bd43862849cb154c8825c0", checked := Try.checked }
namespace Rows
def none {H : Type} : Left H := { results := [], args := [] }

/-- 'syllogismlaw08.KboTells': WHATEVER THE INPUT: true; the input reads as it did. -/
def kboTellsSpec : ChangeSpec := { name := "kboTells", fn := fun _ => fun
  | [d1, d2, d3] => { results := [.lit (.bool true)], args := [d1, d2, d3] }
  | _ => none }
def kboTellsRow : OpenClaim := { program := "ytjkpecjlpgcalaa", sum := "99ba7ff23619b64327ed464aeb9cddeb03ec4ff201bd43862849cb154c8825c0", func := "syllogism/syllogismlaw08.KboTells", spec := "kboTells", unfollowed := true, recurses := true, loops := true, apart := false }
def KboTellsSaid : Prop := kboTellsRow.holds Try.pinned (OpenSpec.ofChange kboTellsSpec)

/-- ITS FALSE NEIGHBOUR: 'it returns false'. Refute it at one input. -/
def kboTellsWrong : ChangeSpec := { name := "kboTells", fn := fun _ => fun
  | [d1, d2, d3] => { results := [.lit (.bool false)], args := [d1, d2, d3] }
  | _ => none }
def KboTellsWrongFalsely : Prop := kboTellsRow.holds Try.pinned (OpenSpec.ofChange kboTellsWrong)

/-- 'syllogismlaw08.KboOrders': WHATEVER THE INPUT: true; the input reads as it did. -/
def kboOrdersSpec : ChangeSpec := { name := "kboOrders", fn := fun _ => fun
  | [d1, d2, d3, d4, d5] => { results := [.lit (.bool true)], args := [d1, d2, d3, d4, d5] }
  | _ => none }
def kboOrdersRow : OpenClaim := { program := "ytjkpecjlpgcalaa", sum := "99ba7ff23619b64327ed464aeb9cddeb03ec4ff201bd43862849cb154c8825c0", func := "syllogism/syllogismlaw08.KboOrders", spec := "kboOrders", unfollowed := true, recurses := true, loops := true, apart := false }
def KboOrdersSaid : Prop := kboOrdersRow.holds Try.pinned (OpenSpec.ofChange kboOrdersSpec)

/-- ITS FALSE NEIGHBOUR: 'it returns false'. Refute it at one input. -/
def kboOrdersWrong : ChangeSpec := { name := "kboOrders", fn := fun _ => fun
  | [d1, d2, d3, d4, d5] => { results := [.lit (.bool false)], args := [d1, d2, d3, d4, d5] }
  | _ => none }
def KboOrdersWrongFalsely : Prop := kboOrdersRow.holds Try.pinned (OpenSpec.ofChange kboOrdersWrong)

/-- 'syllogismlaw08.KboSubterms': WHATEVER THE INPUT: true; the input reads as it did. -/
def kboSubtermsSpec : ChangeSpec := { name := "kboSubterms", fn := fun _ => fun
  | [d1, d2, d3] => { results := [.lit (.bool true)], args := [d1, d2, d3] }
  | _ => none }
def kboSubtermsRow : OpenClaim := { program := "ytjkpecjlpgcalaa", sum := "99ba7ff23619b64327ed464aeb9cddeb03ec4ff201bd43862849cb154c8825c0", func := "syllogism/syllogismlaw08.KboSubterms", spec := "kboSubterms", unfollowed := true, recurses := true, loops := true, apart := false }
def KboSubtermsSaid : Prop := kboSubtermsRow.holds Try.pinned (OpenSpec.ofChange kboSubtermsSpec)

/-- ITS FALSE NEIGHBOUR: 'it returns false'. Refute it at one input. -/
def kboSubtermsWrong : ChangeSpec := { name := "kboSubterms", fn := fun _ => fun
  | [d1, d2, d3] => { results := [.lit (.bool false)], args := [d1, d2, d3] }
  | _ => none }
def KboSubtermsWrongFalsely : Prop := kboSubtermsRow.holds Try.pinned (OpenSpec.ofChange kboSubtermsWrong)

/-- 'syllogismlaw08.KboStable': WHATEVER THE INPUT: true; the input reads as it did. -/
def kboStableSpec : ChangeSpec := { name := "kboStable", fn := fun _ => fun
  | [d1, d2, d3, d4, d5] => { results := [.lit (.bool true)], args := [d1, d2, d3, d4, d5] }
  | _ => none }
def kboStableRow : OpenClaim := { program := "ytjkpecjlpgcalaa", sum := "99ba7ff23619b64327ed464aeb9cddeb03ec4ff201bd43862849cb154c8825c0", func := "syllogism/syllogismlaw08.KboStable", spec := "kboStable", unfollowed := true, recurses := true, loops := true, apart := false }
def KboStableSaid : Prop := kboStableRow.holds Try.pinned (OpenSpec.ofChange kboStableSpec)

/-- ITS FALSE NEIGHBOUR: 'it returns false'. Refute it at one input. -/
def kboStableWrong : ChangeSpec := { name := "kboStable", fn := fun _ => fun
  | [d1, d2, d3, d4, d5] => { results := [.lit (.bool false)], args := [d1, d2, d3, d4, d5] }
  | _ => none }
def KboStableWrongFalsely : Prop := kboStableRow.holds Try.pinned (OpenSpec.ofChange kboStableWrong)

/-- 'syllogismlaw08.KboWithin': WHATEVER THE INPUT: true; the input reads as it did. -/
def kboWithinSpec : ChangeSpec := { name := "kboWithin", fn := fun _ => fun
  | [d1, d2, d3, d4, d5, d6] => { results := [.lit (.bool true)], args := [d1, d2, d3, d4, d5, d6] }
  | _ => none }
def kboWithinRow : OpenClaim := { program := "ytjkpecjlpgcalaa", sum := "99ba7ff23619b64327ed464aeb9cddeb03ec4ff201bd43862849cb154c8825c0", func := "syllogism/syllogismlaw08.KboWithin", spec := "kboWithin", unfollowed := true, recurses := true, loops := true, apart := false }
def KboWithinSaid : Prop := kboWithinRow.holds Try.pinned (OpenSpec.ofChange kboWithinSpec)

/-- ITS FALSE NEIGHBOUR: 'it returns false'. Refute it at one input. -/
def kboWithinWrong : ChangeSpec := { name := "kboWithin", fn := fun _ => fun
  | [d1, d2, d3, d4, d5, d6] => { results := [.lit (.bool false)], args := [d1, d2, d3, d4, d5, d6] }
  | _ => none }
def KboWithinWrongFalsely : Prop := kboWithinRow.holds Try.pinned (OpenSpec.ofChange kboWithinWrong)

/- THE SECOND FORM. 'bulk': how many values and letters a reading holds, each counted each time it is reached (what is shared counts as often as it is met; a slice's spare places count too). A statement '..UptoSaid' is the law's where the arguments, and the package variables that the reading takes, are together of bulk at most 1048576: NARROWER than '..Said'. Prove '..Said' where nothing that the law and all that it calls make is longer than what came in: it says more and counts as full. Else prove '..UptoSaid'. A law counts once. -/
mutual
def uptoBulk {H : Type} : DataW H → Nat
  | .lit (.string bytes) => bytes.length + 1
  | .lit _ => 1
  | .nil => 1
  | .ptr d => uptoBulk d + 1
  | .slice elems spare => uptoBulkAll elems + uptoBulkAll spare + 1
  | .agg parts => uptoBulkAll parts + 1
  | .iface _ d => uptoBulk d + 1
  | .map entries => uptoBulkEntries entries + 1
  | .held _ => 1
def uptoBulkAll {H : Type} : List (DataW H) → Nat
  | [] => 0
  | d :: r => uptoBulk d + uptoBulkAll r
def uptoBulkEntries {H : Type} : List (Lit × DataW H) → Nat
  | [] => 0
  | x :: r => uptoBulkEntry x + uptoBulkEntries r
def uptoBulkEntry {H : Type} : Lit × DataW H → Nat
  | (.string bytes, d) => bytes.length + uptoBulk d + 1
  | (_, d) => uptoBulk d + 1
 end
def uptoSmall : (H : Type) → List (DataW H) → Bool := fun _ ds => decide (uptoBulkAll ds ≤ 1048576)
def OpenSpec.upto (s : _root_.Go.ChangeSpec) : _root_.Go.OpenSpec := { _root_.Go.OpenSpec.ofChange s with cond := some uptoSmall }

/-- 'syllogismlaw08.KboTells', WHERE WHAT IT READS IS OF BULK AT MOST 1048576: true; the input reads as it did. -/
def kboTellsUptoRow : OpenClaim := { program := "ytjkpecjlpgcalaa", sum := "99ba7ff23619b64327ed464aeb9cddeb03ec4ff201bd43862849cb154c8825c0", func := "syllogism/syllogismlaw08.KboTells", spec := "kboTells", unfollowed := true, recurses := true, loops := true, apart := false, narrowed := true }
def KboTellsUptoSaid : Prop := kboTellsUptoRow.holds Try.pinned (OpenSpec.upto kboTellsSpec)

/-- 'syllogismlaw08.KboOrders', WHERE WHAT IT READS IS OF BULK AT MOST 1048576: true; the input reads as it did. -/
def kboOrdersUptoRow : OpenClaim := { program := "ytjkpecjlpgcalaa", sum := "99ba7ff23619b64327ed464aeb9cddeb03ec4ff201bd43862849cb154c8825c0", func := "syllogism/syllogismlaw08.KboOrders", spec := "kboOrders", unfollowed := true, recurses := true, loops := true, apart := false, narrowed := true }
def KboOrdersUptoSaid : Prop := kboOrdersUptoRow.holds Try.pinned (OpenSpec.upto kboOrdersSpec)

/-- 'syllogismlaw08.KboSubterms', WHERE WHAT IT READS IS OF BULK AT MOST 1048576: true; the input reads as it did. -/
def kboSubtermsUptoRow : OpenClaim := { program := "ytjkpecjlpgcalaa", sum := "99ba7ff23619b64327ed464aeb9cddeb03ec4ff201bd43862849cb154c8825c0", func := "syllogism/syllogismlaw08.KboSubterms", spec := "kboSubterms", unfollowed := true, recurses := true, loops := true, apart := false, narrowed := true }
def KboSubtermsUptoSaid : Prop := kboSubtermsUptoRow.holds Try.pinned (OpenSpec.upto kboSubtermsSpec)

/-- 'syllogismlaw08.KboStable', WHERE WHAT IT READS IS OF BULK AT MOST 1048576: true; the input reads as it did. -/
def kboStableUptoRow : OpenClaim := { program := "ytjkpecjlpgcalaa", sum := "99ba7ff23619b64327ed464aeb9cddeb03ec4ff201bd43862849cb154c8825c0", func := "syllogism/syllogismlaw08.KboStable", spec := "kboStable", unfollowed := true, recurses := true, loops := true, apart := false, narrowed := true }
def KboStableUptoSaid : Prop := kboStableUptoRow.holds Try.pinned (OpenSpec.upto kboStableSpec)

/-- 'syllogismlaw08.KboWithin', WHERE WHAT IT READS IS OF BULK AT MOST 1048576: true; the input reads as it did. -/
def kboWithinUptoRow : OpenClaim := { program := "ytjkpecjlpgcalaa", sum := "99ba7ff23619b64327ed464aeb9cddeb03ec4ff201bd43862849cb154c8825c0", func := "syllogism/syllogismlaw08.KboWithin", spec := "kboWithin", unfollowed := true, recurses := true, loops := true, apart := false, narrowed := true }
def KboWithinUptoSaid : Prop := kboWithinUptoRow.holds Try.pinned (OpenSpec.upto kboWithinSpec)

end Rows
end Go.Proofs.Ytjkpecjlpgcalaa
