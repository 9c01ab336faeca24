/-
  NARROWER THAN 'FOR EVERY INPUT', by the rows' own cells (each row's printed sentence says how): OrderStable: loops · OrderIs: loops · OrderMax: loops.
  DERIVED. THE GIVEN ROWS OF THIS SEAT. 3 by the template 'for every input the law returns true; each argument reads behind the call as it read before'; 0 by the template 'total and deterministic' (their statements: YtmdpiafeiopimaaTotals.lean).
  GIVEN WITH THE SEED: the statements are not yours to turn. If you find one false, say at which input.
  Laid BY PROGRAM, IN A SANDBOX (cutbox-rows.mjs): the forced cells as the released guide's own fill.sh prints them over the translation 89c9604d0660cbf4… (all of the seat's roots in one cut). By AI agents, Wed Nov 11 2026. No macro, syntax, notation, axiom, sorry.
-/
import Derived.Test.YtmdpiafeiopimaaChecked
import GoSem.Claim
import GoSem.ClaimJoined
import GoSem.ClaimMapViews
import Derived.JoinedTies
import Derived.KernelRfl
namespace Go.Proofs.Ytmdpiafeiopimaa
/- THE CELL 'sum', in the pinned program and in every row, IS THE sha256 OF THE DUMP (.gsa) THAT YtmdpiafeiopimaaProg.lean LOADS. Nothing in Lean hashes anything: it is a label: what it is worth is what the hold of that sum in a sandbox is worth. -/
noncomputable def Try.pinned : Pinned := { name := "ytmdpiafeiopimaa", sum := "89c9604d0660cbf40842045e6f60f8052271994e40a0f79e7d8e57fac64767a6", checked := Try.checked }
namespace Rows
def none {H : Type} : Left H := { results := [], args := [] }

/-- 'syllogismlaw10.OrderStable': WHATEVER THE INPUT: true; the input reads as it did. -/
def orderStableSpec : ChangeSpec := { name := "orderStable", fn := fun _ => fun
  | [d1, d2, d3, d4, d5] => { results := [.lit (.bool true)], args := [d1, d2, d3, d4, d5] }
  | _ => none }
def orderStableRow : OpenClaim := { program := "ytmdpiafeiopimaa", sum := "89c9604d0660cbf40842045e6f60f8052271994e40a0f79e7d8e57fac64767a6", func := "syllogism/syllogismlaw10.OrderStable", spec := "orderStable", unfollowed := true, recurses := true, loops := true, plainKeys := false, apart := false }
def OrderStableSaid : Prop := orderStableRow.holds Try.pinned (OpenSpec.ofChange orderStableSpec)

/-- ITS FALSE NEIGHBOUR: 'it returns false'. Refute it at one input. -/
def orderStableWrong : ChangeSpec := { name := "orderStable", fn := fun _ => fun
  | [d1, d2, d3, d4, d5] => { results := [.lit (.bool false)], args := [d1, d2, d3, d4, d5] }
  | _ => none }
def OrderStableWrongFalsely : Prop := orderStableRow.holds Try.pinned (OpenSpec.ofChange orderStableWrong)

/-- 'syllogismlaw10.OrderIs': WHATEVER THE INPUT: true; the input reads as it did. -/
def orderIsSpec : ChangeSpec := { name := "orderIs", fn := fun _ => fun
  | [d1, d2, d3, d4, d5] => { results := [.lit (.bool true)], args := [d1, d2, d3, d4, d5] }
  | _ => none }
def orderIsRow : OpenClaim := { program := "ytmdpiafeiopimaa", sum := "89c9604d0660cbf40842045e6f60f8052271994e40a0f79e7d8e57fac64767a6", func := "syllogism/syllogismlaw10.OrderIs", spec := "orderIs", unfollowed := true, recurses := true, loops := true, plainKeys := false, apart := false }
def OrderIsSaid : Prop := orderIsRow.holds Try.pinned (OpenSpec.ofChange orderIsSpec)

/-- ITS FALSE NEIGHBOUR: 'it returns false'. Refute it at one input. -/
def orderIsWrong : ChangeSpec := { name := "orderIs", fn := fun _ => fun
  | [d1, d2, d3, d4, d5] => { results := [.lit (.bool false)], args := [d1, d2, d3, d4, d5] }
  | _ => none }
def OrderIsWrongFalsely : Prop := orderIsRow.holds Try.pinned (OpenSpec.ofChange orderIsWrong)

/-- 'syllogismlaw10.OrderMax': WHATEVER THE INPUT: true; the input reads as it did. -/
def orderMaxSpec : ChangeSpec := { name := "orderMax", fn := fun _ => fun
  | [d1, d2, d3] => { results := [.lit (.bool true)], args := [d1, d2, d3] }
  | _ => none }
def orderMaxRow : OpenClaim := { program := "ytmdpiafeiopimaa", sum := "89c9604d0660cbf40842045e6f60f8052271994e40a0f79e7d8e57fac64767a6", func := "syllogism/syllogismlaw10.OrderMax", spec := "orderMax", unfollowed := true, recurses := true, loops := true, plainKeys := false, apart := false }
def OrderMaxSaid : Prop := orderMaxRow.holds Try.pinned (OpenSpec.ofChange orderMaxSpec)

/-- ITS FALSE NEIGHBOUR: 'it returns false'. Refute it at one input. -/
def orderMaxWrong : ChangeSpec := { name := "orderMax", fn := fun _ => fun
  | [d1, d2, d3] => { results := [.lit (.bool false)], args := [d1, d2, d3] }
  | _ => none }
def OrderMaxWrongFalsely : Prop := orderMaxRow.holds Try.pinned (OpenSpec.ofChange orderMaxWrong)

/- THE SECOND FORM. 'bulk': how many values and letters a reading holds, each counted each time it is reached (what is shared counts as often as it is met; a slice's spare places count too). A statement '..UptoSaid' is the law's where the arguments, and the package variables that the reading takes, are together of bulk at most 1048576: NARROWER than '..Said'. Prove '..Said' where nothing that the law and all that it calls make is longer than what came in: it says more and counts as full. Else prove '..UptoSaid'. A law counts once. -/
mutual
def uptoBulk {H : Type} : DataW H → Nat
  | .lit (.string bytes) => bytes.length + 1
  | .lit _ => 1
  | .nil => 1
  | .ptr d => uptoBulk d + 1
  | .slice elems spare => uptoBulkAll elems + uptoBulkAll spare + 1
  | .agg parts => uptoBulkAll parts + 1
  | .iface _ d => uptoBulk d + 1
  | .map entries => uptoBulkEntries entries + 1
  | .held _ => 1
def uptoBulkAll {H : Type} : List (DataW H) → Nat
  | [] => 0
  | d :: r => uptoBulk d + uptoBulkAll r
def uptoBulkEntries {H : Type} : List (Lit × DataW H) → Nat
  | [] => 0
  | x :: r => uptoBulkEntry x + uptoBulkEntries r
def uptoBulkEntry {H : Type} : Lit × DataW H → Nat
  | (.string bytes, d) => bytes.length + uptoBulk d + 1
  | (_, d) => uptoBulk d + 1
 end
def uptoSmall : (H : Type) → List (DataW H) → Bool := fun _ ds => decide (uptoBulkAll ds ≤ 1048576)
def OpenSpec.upto (s : _root_.Go.ChangeSpec) : _root_.Go.OpenSpec := { _root_.Go.OpenSpec.ofChange s with cond := some uptoSmall }

/-- 'syllogismlaw10.OrderStable', WHERE WHAT IT READS IS OF BULK AT MOST 1048576: true; the input reads as it did. -/
def orderStableUptoRow : OpenClaim := { program := "ytmdpiafeiopimaa", sum := "89c9604d0660cbf40842045e6f60f8052271994e40a0f79e7d8e57fac64767a6", func := "syllogism/syllogismlaw10.OrderStable", spec := "orderStable", unfollowed := true, recurses := true, loops := true, plainKeys := false, apart := false, narrowed := true }
def OrderStableUptoSaid : Prop := orderStableUptoRow.holds Try.pinned (OpenSpec.upto orderStableSpec)

/-- 'syllogismlaw10.OrderIs', WHERE WHAT IT READS IS OF BULK AT MOST 1048576: true; the input reads as it did. -/
def orderIsUptoRow : OpenClaim := { program := "ytmdpiafeiopimaa", sum := "89c9604d0660cbf40842045e6f60f8052271994e40a0f79e7d8e57fac64767a6", func := "syllogism/syllogismlaw10.OrderIs", spec := "orderIs", unfollowed := true, recurses := true, loops := true, plainKeys := false, apart := false, narrowed := true }
def OrderIsUptoSaid : Prop := orderIsUptoRow.holds Try.pinned (OpenSpec.upto orderIsSpec)

/-- 'syllogismlaw10.OrderMax', WHERE WHAT IT READS IS OF BULK AT MOST 1048576: true; the input reads as it did. -/
def orderMaxUptoRow : OpenClaim := { program := "ytmdpiafeiopimaa", sum := "89c9604d0660cbf40842045e6f60f8052271994e40a0f79e7d8e57fac64767a6", func := "syllogism/syllogismlaw10.OrderMax", spec := "orderMax", unfollowed := true, recurses := true, loops := true, plainKeys := false, apart := false, narrowed := true }
def OrderMaxUptoSaid : Prop := orderMaxUptoRow.holds Try.pinned (OpenSpec.upto orderMaxSpec)

end Rows
end Go.Proofs.Ytmdpiafeiopimaa
