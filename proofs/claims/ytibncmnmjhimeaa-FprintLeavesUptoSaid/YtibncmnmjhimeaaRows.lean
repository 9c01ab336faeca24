/-
  NARROWER THAN 'FOR EVERY INPUT', by the rows' own cells (each row's printed sentence says how): FprintLeaves: loops · FprintNil: loops · FprintEmpties: loops.
  DERIVED. THE GIVEN ROWS OF THIS SEAT. 3 by the template 'for every input the law returns true; each argument reads behind the call as it read before'; 0 by the template 'total and deterministic' (their statements: YtibncmnmjhimeaaTotals.lean).
  GIVEN WITH THE SEED: the statements are not yours to turn. If you find one false, say at which input.
  Laid BY PROGRAM, IN A SANDBOX (cutbox-rows.mjs): the forced cells as the released guide's own fill.sh prints them over the translation 42e39c5394c44074… (all of the seat's roots in one cut). By AI agents, Wed Nov 11 2026. No macro, syntax, notation, axiom, sorry.
-/
import Derived.Test.YtibncmnmjhimeaaChecked
import GoSem.Claim
import GoSem.ClaimJoined
import GoSem.ClaimMapViews
import Derived.JoinedTies
import Derived.KernelRfl
namespace Go.Proofs.Ytibncmnmjhimeaa
/- THE CELL 'sum', in the pinned program and in every row, IS THE sha256 OF THE DUMP (.gsa) THAT YtibncmnmjhimeaaProg.lean LOADS. Nothing in Lean hashes anything: it is a label: what it is worth is what the hold of that sum in a sandbox is worth. -/
noncomputable def Try.pinned : Pinned := { name := "ytibncmnmjhimeaa", sum := "42e39c5394c44074508a8d88aefc3da3d25797e31e02ac4c5dd4ecab6632206e", checked := Try.checked }
namespace Rows
def none {H : Type} : Left H := { results := [], args := [] }

/-- 'syllogismlaw18.FprintLeaves': WHATEVER THE INPUT: true; the input reads as it did. -/
def fprintLeavesSpec : ChangeSpec := { name := "fprintLeaves", fn := fun _ => fun
  | [d1, d2] => { results := [.lit (.bool true)], args := [d1, d2] }
  | _ => none }
def fprintLeavesRow : OpenClaim := { program := "ytibncmnmjhimeaa", sum := "42e39c5394c44074508a8d88aefc3da3d25797e31e02ac4c5dd4ecab6632206e", func := "syllogism/syllogismlaw18.FprintLeaves", spec := "fprintLeaves", unfollowed := true, recurses := true, loops := true, plainKeys := false, apart := false }
def FprintLeavesSaid : Prop := fprintLeavesRow.holds Try.pinned (OpenSpec.ofChange fprintLeavesSpec)

/-- ITS FALSE NEIGHBOUR: 'it returns false'. Refute it at one input. -/
def fprintLeavesWrong : ChangeSpec := { name := "fprintLeaves", fn := fun _ => fun
  | [d1, d2] => { results := [.lit (.bool false)], args := [d1, d2] }
  | _ => none }
def FprintLeavesWrongFalsely : Prop := fprintLeavesRow.holds Try.pinned (OpenSpec.ofChange fprintLeavesWrong)

/-- 'syllogismlaw18.FprintNil': WHATEVER THE INPUT: true; the input reads as it did. -/
def fprintNilSpec : ChangeSpec := { name := "fprintNil", fn := fun _ => fun
  | [d1, d2] => { results := [.lit (.bool true)], args := [d1, d2] }
  | _ => none }
def fprintNilRow : OpenClaim := { program := "ytibncmnmjhimeaa", sum := "42e39c5394c44074508a8d88aefc3da3d25797e31e02ac4c5dd4ecab6632206e", func := "syllogism/syllogismlaw18.FprintNil", spec := "fprintNil", unfollowed := true, recurses := true, loops := true, plainKeys := false, apart := false }
def FprintNilSaid : Prop := fprintNilRow.holds Try.pinned (OpenSpec.ofChange fprintNilSpec)

/-- ITS FALSE NEIGHBOUR: 'it returns false'. Refute it at one input. -/
def fprintNilWrong : ChangeSpec := { name := "fprintNil", fn := fun _ => fun
  | [d1, d2] => { results := [.lit (.bool false)], args := [d1, d2] }
  | _ => none }
def FprintNilWrongFalsely : Prop := fprintNilRow.holds Try.pinned (OpenSpec.ofChange fprintNilWrong)

/-- 'syllogismlaw18.FprintEmpties': WHATEVER THE INPUT: true; the input reads as it did. -/
def fprintEmptiesSpec : ChangeSpec := { name := "fprintEmpties", fn := fun _ => fun
  | [d1, d2, d3, d4] => { results := [.lit (.bool true)], args := [d1, d2, d3, d4] }
  | _ => none }
def fprintEmptiesRow : OpenClaim := { program := "ytibncmnmjhimeaa", sum := "42e39c5394c44074508a8d88aefc3da3d25797e31e02ac4c5dd4ecab6632206e", func := "syllogism/syllogismlaw18.FprintEmpties", spec := "fprintEmpties", unfollowed := true, recurses := true, loops := true, plainKeys := false, apart := false }
def FprintEmptiesSaid : Prop := fprintEmptiesRow.holds Try.pinned (OpenSpec.ofChange fprintEmptiesSpec)

/-- ITS FALSE NEIGHBOUR: 'it returns false'. Refute it at one input. -/
def fprintEmptiesWrong : ChangeSpec := { name := "fprintEmpties", fn := fun _ => fun
  | [d1, d2, d3, d4] => { results := [.lit (.bool false)], args := [d1, d2, d3, d4] }
  | _ => none }
def FprintEmptiesWrongFalsely : Prop := fprintEmptiesRow.holds Try.pinned (OpenSpec.ofChange fprintEmptiesWrong)

/- THE SECOND FORM. 'bulk': how many values and letters a reading holds, each counted each time it is reached (what is shared counts as often as it is met; a slice's spare places count too). A statement '..UptoSaid' is the law's where the arguments, and the package variables that the reading takes, are together of bulk at most 1048576: NARROWER than '..Said'. Prove '..Said' where nothing that the law and all that it calls make is longer than what came in: it says more and counts as full. Else prove '..UptoSaid'. A law counts once. -/
mutual
def uptoBulk {H : Type} : DataW H → Nat
  | .lit (.string bytes) => bytes.length + 1
  | .lit _ => 1
  | .nil => 1
  | .ptr d => uptoBulk d + 1
  | .slice elems spare => uptoBulkAll elems + uptoBulkAll spare + 1
  | .agg parts => uptoBulkAll parts + 1
  | .iface _ d => uptoBulk d + 1
  | .map entries => uptoBulkEntries entries + 1
  | .held _ => 1
def uptoBulkAll {H : Type} : List (DataW H) → Nat
  | [] => 0
  | d :: r => uptoBulk d + uptoBulkAll r
def uptoBulkEntries {H : Type} : List (Lit × DataW H) → Nat
  | [] => 0
  | x :: r => uptoBulkEntry x + uptoBulkEntries r
def uptoBulkEntry {H : Type} : Lit × DataW H → Nat
  | (.string bytes, d) => bytes.length + uptoBulk d + 1
  | (_, d) => uptoBulk d + 1
 end
def uptoSmall : (H : Type) → List (DataW H) → Bool := fun _ ds => decide (uptoBulkAll ds ≤ 1048576)
def OpenSpec.upto (s : _root_.Go.ChangeSpec) : _root_.Go.OpenSpec := { _root_.Go.OpenSpec.ofChange s with cond := some uptoSmall }

/-- 'syllogismlaw18.FprintLeaves', WHERE WHAT IT READS IS OF BULK AT MOST 1048576: true; the input reads as it did. -/
def fprintLeavesUptoRow : OpenClaim := { program := "ytibncmnmjhimeaa", sum := "42e39c5394c44074508a8d88aefc3da3d25797e31e02ac4c5dd4ecab6632206e", func := "syllogism/syllogismlaw18.FprintLeaves", spec := "fprintLeaves", unfollowed := true, recurses := true, loops := true, plainKeys := false, apart := false, narrowed := true }
def FprintLeavesUptoSaid : Prop := fprintLeavesUptoRow.holds Try.pinned (OpenSpec.upto fprintLeavesSpec)

/-- 'syllogismlaw18.FprintNil', WHERE WHAT IT READS IS OF BULK AT MOST 1048576: true; the input reads as it did. -/
def fprintNilUptoRow : OpenClaim := { program := "ytibncmnmjhimeaa", sum := "42e39c5394c44074508a8d88aefc3da3d25797e31e02ac4c5dd4ecab6632206e", func := "syllogism/syllogismlaw18.FprintNil", spec := "fprintNil", unfollowed := true, recurses := true, loops := true, plainKeys := false, apart := false, narrowed := true }
def FprintNilUptoSaid : Prop := fprintNilUptoRow.holds Try.pinned (OpenSpec.upto fprintNilSpec)

/-- 'syllogismlaw18.FprintEmpties', WHERE WHAT IT READS IS OF BULK AT MOST 1048576: true; the input reads as it did. -/
def fprintEmptiesUptoRow : OpenClaim := { program := "ytibncmnmjhimeaa", sum := "42e39c5394c44074508a8d88aefc3da3d25797e31e02ac4c5dd4ecab6632206e", func := "syllogism/syllogismlaw18.FprintEmpties", spec := "fprintEmpties", unfollowed := true, recurses := true, loops := true, plainKeys := false, apart := false, narrowed := true }
def FprintEmptiesUptoSaid : Prop := fprintEmptiesUptoRow.holds Try.pinned (OpenSpec.upto fprintEmptiesSpec)

end Rows
end Go.Proofs.Ytibncmnmjhimeaa
