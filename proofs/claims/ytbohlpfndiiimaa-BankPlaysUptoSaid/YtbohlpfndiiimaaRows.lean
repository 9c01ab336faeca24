/-
  NARROWER THAN 'FOR EVERY INPUT', by the rows' own cells (each row's printed sentence says how): BankShares: loops · BankTurned: loops · BankPlays: loops · BankNil: loops.
  DERIVED. THE GIVEN ROWS OF THIS SEAT. 4 by the template 'for every input the law returns true; each argument reads behind the call as it read before'; 0 by the template 'total and deterministic' (their statements: YtbohlpfndiiimaaTotals.lean).
  GIVEN WITH THE SEED: the statements are not yours to turn. If you find one false, say at which input.
  Laid BY PROGRAM, IN A SANDBOX (cutbox-rows.mjs): the forced cells as the released guide's own fill.sh prints them over the translation 13836acf410b65e1… (all of the seat's roots in one cut). By AI agents, Wed Nov 11 2026. No macro, syntax, notation, axiom, sorry.
-/
import Derived.Test.YtbohlpfndiiimaaChecked
import GoSem.Claim
import GoSem.ClaimJoined
import GoSem.ClaimMapViews
import Derived.JoinedTies
import Derived.KernelRfl
namespace Go.Proofs.Ytbohlpfndiiimaa
/- THE CELL 'sum', in the pinned program and in every row, IS THE sha256 OF THE DUMP (.gsa) THAT YtbohlpfndiiimaaProg.lean LOADS. Nothing in Lean hashes anything: it is a label: what it is worth is what the hold of that sum in a sandbox is worth. -/
noncomputable def Try.pinned : Pinned := { name := "ytbohlpfndiiimaa", sum := "13836acf410b65e198eb0ead0a07554fedcbc1e913a1c9d52cc5fd7cfcb16552", checked := Try.checked }
namespace Rows
def none {H : Type} : Left H := { results := [], args := [] }

/-- 'syllogismlaw03.BankShares': WHATEVER THE INPUT: true; the input reads as it did. -/
def bankSharesSpec : ChangeSpec := { name := "bankShares", fn := fun _ => fun
  | [d1, d2] => { results := [.lit (.bool true)], args := [d1, d2] }
  | _ => none }
def bankSharesRow : OpenClaim := { program := "ytbohlpfndiiimaa", sum := "13836acf410b65e198eb0ead0a07554fedcbc1e913a1c9d52cc5fd7cfcb16552", func := "syllogism/syllogismlaw03.BankShares", spec := "bankShares", unfollowed := true, recurses := true, loops := true, plainKeys := false, apart := false }
def BankSharesSaid : Prop := bankSharesRow.holds Try.pinned (OpenSpec.ofChange bankSharesSpec)

/-- ITS FALSE NEIGHBOUR: 'it returns false'. Refute it at one input. -/
def bankSharesWrong : ChangeSpec := { name := "bankShares", fn := fun _ => fun
  | [d1, d2] => { results := [.lit (.bool false)], args := [d1, d2] }
  | _ => none }
def BankSharesWrongFalsely : Prop := bankSharesRow.holds Try.pinned (OpenSpec.ofChange bankSharesWrong)

/-- 'syllogismlaw03.BankTurned': WHATEVER THE INPUT: true; the input reads as it did. -/
def bankTurnedSpec : ChangeSpec := { name := "bankTurned", fn := fun _ => fun
  | [d1, d2, d3] => { results := [.lit (.bool true)], args := [d1, d2, d3] }
  | _ => none }
def bankTurnedRow : OpenClaim := { program := "ytbohlpfndiiimaa", sum := "13836acf410b65e198eb0ead0a07554fedcbc1e913a1c9d52cc5fd7cfcb16552", func := "syllogism/syllogismlaw03.BankTurned", spec := "bankTurned", unfollowed := true, recurses := true, loops := true, plainKeys := false, apart := false }
def BankTurnedSaid : Prop := bankTurnedRow.holds Try.pinned (OpenSpec.ofChange bankTurnedSpec)

/-- ITS FALSE NEIGHBOUR: 'it returns false'. Refute it at one input. -/
def bankTurnedWrong : ChangeSpec := { name := "bankTurned", fn := fun _ => fun
  | [d1, d2, d3] => { results := [.lit (.bool false)], args := [d1, d2, d3] }
  | _ => none }
def BankTurnedWrongFalsely : Prop := bankTurnedRow.holds Try.pinned (OpenSpec.ofChange bankTurnedWrong)

/-- 'syllogismlaw03.BankPlays': WHATEVER THE INPUT: true; the input reads as it did. -/
def bankPlaysSpec : ChangeSpec := { name := "bankPlays", fn := fun _ => fun
  | [d1, d2] => { results := [.lit (.bool true)], args := [d1, d2] }
  | _ => none }
def bankPlaysRow : OpenClaim := { program := "ytbohlpfndiiimaa", sum := "13836acf410b65e198eb0ead0a07554fedcbc1e913a1c9d52cc5fd7cfcb16552", func := "syllogism/syllogismlaw03.BankPlays", spec := "bankPlays", unfollowed := true, recurses := true, loops := true, plainKeys := false, apart := false }
def BankPlaysSaid : Prop := bankPlaysRow.holds Try.pinned (OpenSpec.ofChange bankPlaysSpec)

/-- ITS FALSE NEIGHBOUR: 'it returns false'. Refute it at one input. -/
def bankPlaysWrong : ChangeSpec := { name := "bankPlays", fn := fun _ => fun
  | [d1, d2] => { results := [.lit (.bool false)], args := [d1, d2] }
  | _ => none }
def BankPlaysWrongFalsely : Prop := bankPlaysRow.holds Try.pinned (OpenSpec.ofChange bankPlaysWrong)

/-- 'syllogismlaw03.BankNil': WHATEVER THE INPUT: true; the input reads as it did. -/
def bankNilSpec : ChangeSpec := { name := "bankNil", fn := fun _ => fun
  | [d1, d2, d3, d4] => { results := [.lit (.bool true)], args := [d1, d2, d3, d4] }
  | _ => none }
def bankNilRow : OpenClaim := { program := "ytbohlpfndiiimaa", sum := "13836acf410b65e198eb0ead0a07554fedcbc1e913a1c9d52cc5fd7cfcb16552", func := "syllogism/syllogismlaw03.BankNil", spec := "bankNil", unfollowed := true, recurses := true, loops := true, plainKeys := false, apart := false }
def BankNilSaid : Prop := bankNilRow.holds Try.pinned (OpenSpec.ofChange bankNilSpec)

/-- ITS FALSE NEIGHBOUR: 'it returns false'. Refute it at one input. -/
def bankNilWrong : ChangeSpec := { name := "bankNil", fn := fun _ => fun
  | [d1, d2, d3, d4] => { results := [.lit (.bool false)], args := [d1, d2, d3, d4] }
  | _ => none }
def BankNilWrongFalsely : Prop := bankNilRow.holds Try.pinned (OpenSpec.ofChange bankNilWrong)

/- THE SECOND FORM. 'bulk': how many values and letters a reading holds, each counted each time it is reached (what is shared counts as often as it is met; a slice's spare places count too). A statement '..UptoSaid' is the law's where the arguments, and the package variables that the reading takes, are together of bulk at most 1048576: NARROWER than '..Said'. Prove '..Said' where nothing that the law and all that it calls make is longer than what came in: it says more and counts as full. Else prove '..UptoSaid'. A law counts once. -/
mutual
def uptoBulk {H : Type} : DataW H → Nat
  | .lit (.string bytes) => bytes.length + 1
  | .lit _ => 1
  | .nil => 1
  | .ptr d => uptoBulk d + 1
  | .slice elems spare => uptoBulkAll elems + uptoBulkAll spare + 1
  | .agg parts => uptoBulkAll parts + 1
  | .iface _ d => uptoBulk d + 1
  | .map entries => uptoBulkEntries entries + 1
  | .held _ => 1
def uptoBulkAll {H : Type} : List (DataW H) → Nat
  | [] => 0
  | d :: r => uptoBulk d + uptoBulkAll r
def uptoBulkEntries {H : Type} : List (Lit × DataW H) → Nat
  | [] => 0
  | x :: r => uptoBulkEntry x + uptoBulkEntries r
def uptoBulkEntry {H : Type} : Lit × DataW H → Nat
  | (.string bytes, d) => bytes.length + uptoBulk d + 1
  | (_, d) => uptoBulk d + 1
 end
def uptoSmall : (H : Type) → List (DataW H) → Bool := fun _ ds => decide (uptoBulkAll ds ≤ 1048576)
def OpenSpec.upto (s : _root_.Go.ChangeSpec) : _root_.Go.OpenSpec := { _root_.Go.OpenSpec.ofChange s with cond := some uptoSmall }

/-- 'syllogismlaw03.BankShares', WHERE WHAT IT READS IS OF BULK AT MOST 1048576: true; the input reads as it did. -/
def bankSharesUptoRow : OpenClaim := { program := "ytbohlpfndiiimaa", sum := "13836acf410b65e198eb0ead0a07554fedcbc1e913a1c9d52cc5fd7cfcb16552", func := "syllogism/syllogismlaw03.BankShares", spec := "bankShares", unfollowed := true, recurses := true, loops := true, plainKeys := false, apart := false, narrowed := true }
def BankSharesUptoSaid : Prop := bankSharesUptoRow.holds Try.pinned (OpenSpec.upto bankSharesSpec)

/-- 'syllogismlaw03.BankTurned', WHERE WHAT IT READS IS OF BULK AT MOST 1048576: true; the input reads as it did. -/
def bankTurnedUptoRow : OpenClaim := { program := "ytbohlpfndiiimaa", sum := "13836acf410b65e198eb0ead0a07554fedcbc1e913a1c9d52cc5fd7cfcb16552", func := "syllogism/syllogismlaw03.BankTurned", spec := "bankTurned", unfollowed := true, recurses := true, loops := true, plainKeys := false, apart := false, narrowed := true }
def BankTurnedUptoSaid : Prop := bankTurnedUptoRow.holds Try.pinned (OpenSpec.upto bankTurnedSpec)

/-- 'syllogismlaw03.BankPlays', WHERE WHAT IT READS IS OF BULK AT MOST 1048576: true; the input reads as it did. -/
def bankPlaysUptoRow : OpenClaim := { program := "ytbohlpfndiiimaa", sum := "13836acf410b65e198eb0ead0a07554fedcbc1e913a1c9d52cc5fd7cfcb16552", func := "syllogism/syllogismlaw03.BankPlays", spec := "bankPlays", unfollowed := true, recurses := true, loops := true, plainKeys := false, apart := false, narrowed := true }
def BankPlaysUptoSaid : Prop := bankPlaysUptoRow.holds Try.pinned (OpenSpec.upto bankPlaysSpec)

/-- 'syllogismlaw03.BankNil', WHERE WHAT IT READS IS OF BULK AT MOST 1048576: true; the input reads as it did. -/
def bankNilUptoRow : OpenClaim := { program := "ytbohlpfndiiimaa", sum := "13836acf410b65e198eb0ead0a07554fedcbc1e913a1c9d52cc5fd7cfcb16552", func := "syllogism/syllogismlaw03.BankNil", spec := "bankNil", unfollowed := true, recurses := true, loops := true, plainKeys := false, apart := false, narrowed := true }
def BankNilUptoSaid : Prop := bankNilUptoRow.holds Try.pinned (OpenSpec.upto bankNilSpec)

end Rows
end Go.Proofs.Ytbohlpfndiiimaa
