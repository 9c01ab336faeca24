/-
  No cell of these rows narrows 'for every input' (looked for: loops, veiled, ifaces, maps, wideKeys, modest, calm, conditions, laid).
  DERIVED. THE GIVEN ROWS OF THIS SEAT. 3 by the template 'for every input the law returns true; each argument reads behind the call as it read before'; 0 by the template 'total and deterministic' (their statements: YtbnjppmmhhjjbaaTotals.lean).
  GIVEN WITH THE SEED: the statements are not yours to turn. If you find one false, say at which input.
  Laid BY PROGRAM, IN A SANDBOX (cutbox-rows.mjs): the forced cells as the released guide's own fill.sh prints them over the translation 9a9d6c0519726c2c… (all of the seat's roots in one cut). By AI agents, Wed Nov 11 2026. No macro, syntax, notation, axiom, sorry.
-/
import Derived.Test.YtbnjppmmhhjjbaaChecked
import GoSem.Claim
import GoSem.ClaimJoined
import GoSem.ClaimMapViews
import Derived.JoinedTies
import Derived.KernelRfl
namespace Go.Proofs.Ytbnjppmmhhjjbaa
/- THE CELL 'sum', in the pinned program and in every row, IS THE sha256 OF THE DUMP (.gsa) THAT YtbnjppmmhhjjbaaProg.lean LOADS. Nothing in Lean hashes anything: it is a label: what it is worth is what the hold of that sum in a sandbox is worth. -/
noncomputable def Try.pinned : Pinned := { name := "ytbnjppmmhhjjbaa", sum := "9a9d6c0519726c2c26984e4746b0da732cbb993bb93705a39d6ba25ce0890b58", checked := Try.checked }
namespace Rows
def none {H : Type} : Left H := { results := [], args := [] }

/-- 'syllogismlaw01.SignAdds': WHATEVER THE INPUT: true; the input reads as it did. -/
def signAddsSpec : ChangeSpec := { name := "signAdds", fn := fun _ => fun
  | [d1, d2] => { results := [.lit (.bool true)], args := [d1, d2] }
  | _ => none }
def signAddsRow : OpenClaim := { program := "ytbnjppmmhhjjbaa", sum := "9a9d6c0519726c2c26984e4746b0da732cbb993bb93705a39d6ba25ce0890b58", func := "syllogism/syllogismlaw01.SignAdds", spec := "signAdds", unfollowed := true, recurses := true, plainKeys := false, apart := false }
def SignAddsSaid : Prop := signAddsRow.holds Try.pinned (OpenSpec.ofChange signAddsSpec)

/-- ITS FALSE NEIGHBOUR: 'it returns false'. Refute it at one input. -/
def signAddsWrong : ChangeSpec := { name := "signAdds", fn := fun _ => fun
  | [d1, d2] => { results := [.lit (.bool false)], args := [d1, d2] }
  | _ => none }
def SignAddsWrongFalsely : Prop := signAddsRow.holds Try.pinned (OpenSpec.ofChange signAddsWrong)

/-- 'syllogismlaw01.SignFinds': WHATEVER THE INPUT: true; the input reads as it did. -/
def signFindsSpec : ChangeSpec := { name := "signFinds", fn := fun _ => fun
  | [d1, d2, d3, d4] => { results := [.lit (.bool true)], args := [d1, d2, d3, d4] }
  | _ => none }
def signFindsRow : OpenClaim := { program := "ytbnjppmmhhjjbaa", sum := "9a9d6c0519726c2c26984e4746b0da732cbb993bb93705a39d6ba25ce0890b58", func := "syllogism/syllogismlaw01.SignFinds", spec := "signFinds", unfollowed := true, recurses := true, plainKeys := false, apart := false }
def SignFindsSaid : Prop := signFindsRow.holds Try.pinned (OpenSpec.ofChange signFindsSpec)

/-- ITS FALSE NEIGHBOUR: 'it returns false'. Refute it at one input. -/
def signFindsWrong : ChangeSpec := { name := "signFinds", fn := fun _ => fun
  | [d1, d2, d3, d4] => { results := [.lit (.bool false)], args := [d1, d2, d3, d4] }
  | _ => none }
def SignFindsWrongFalsely : Prop := signFindsRow.holds Try.pinned (OpenSpec.ofChange signFindsWrong)

/-- 'syllogismlaw01.SignChecks': WHATEVER THE INPUT: true; the input reads as it did. -/
def signChecksSpec : ChangeSpec := { name := "signChecks", fn := fun _ => fun
  | [d1, d2] => { results := [.lit (.bool true)], args := [d1, d2] }
  | _ => none }
def signChecksRow : OpenClaim := { program := "ytbnjppmmhhjjbaa", sum := "9a9d6c0519726c2c26984e4746b0da732cbb993bb93705a39d6ba25ce0890b58", func := "syllogism/syllogismlaw01.SignChecks", spec := "signChecks", unfollowed := true, recurses := true, plainKeys := false, apart := false }
def SignChecksSaid : Prop := signChecksRow.holds Try.pinned (OpenSpec.ofChange signChecksSpec)

/-- ITS FALSE NEIGHBOUR: 'it returns false'. Refute it at one input. -/
def signChecksWrong : ChangeSpec := { name := "signChecks", fn := fun _ => fun
  | [d1, d2] => { results := [.lit (.bool false)], args := [d1, d2] }
  | _ => none }
def SignChecksWrongFalsely : Prop := signChecksRow.holds Try.pinned (OpenSpec.ofChange signChecksWrong)

/- THE SECOND FORM. 'bulk': how many values and letters a reading holds, each counted each time it is reached (what is shared counts as often as it is met; a slice's spare places count too). A statement '..UptoSaid' is the law's where the arguments, and the package variables that the reading takes, are together of bulk at most 1048576: NARROWER than '..Said'. Prove '..Said' where nothing that the law and all that it calls make is longer than what came in: it says more and counts as full. Else prove '..UptoSaid'. A law counts once. -/
mutual
def uptoBulk {H : Type} : DataW H → Nat
  | .lit (.string bytes) => bytes.length + 1
  | .lit _ => 1
  | .nil => 1
  | .ptr d => uptoBulk d + 1
  | .slice elems spare => uptoBulkAll elems + uptoBulkAll spare + 1
  | .agg parts => uptoBulkAll parts + 1
  | .iface _ d => uptoBulk d + 1
  | .map entries => uptoBulkEntries entries + 1
  | .held _ => 1
def uptoBulkAll {H : Type} : List (DataW H) → Nat
  | [] => 0
  | d :: r => uptoBulk d + uptoBulkAll r
def uptoBulkEntries {H : Type} : List (Lit × DataW H) → Nat
  | [] => 0
  | x :: r => uptoBulkEntry x + uptoBulkEntries r
def uptoBulkEntry {H : Type} : Lit × DataW H → Nat
  | (.string bytes, d) => bytes.length + uptoBulk d + 1
  | (_, d) => uptoBulk d + 1
 end
def uptoSmall : (H : Type) → List (DataW H) → Bool := fun _ ds => decide (uptoBulkAll ds ≤ 1048576)
def OpenSpec.upto (s : _root_.Go.ChangeSpec) : _root_.Go.OpenSpec := { _root_.Go.OpenSpec.ofChange s with cond := some uptoSmall }

/-- 'syllogismlaw01.SignAdds', WHERE WHAT IT READS IS OF BULK AT MOST 1048576: true; the input reads as it did. -/
def signAddsUptoRow : OpenClaim := { program := "ytbnjppmmhhjjbaa", sum := "9a9d6c0519726c2c26984e4746b0da732cbb993bb93705a39d6ba25ce0890b58", func := "syllogism/syllogismlaw01.SignAdds", spec := "signAdds", unfollowed := true, recurses := true, plainKeys := false, apart := false, narrowed := true }
def SignAddsUptoSaid : Prop := signAddsUptoRow.holds Try.pinned (OpenSpec.upto signAddsSpec)

/-- 'syllogismlaw01.SignFinds', WHERE WHAT IT READS IS OF BULK AT MOST 1048576: true; the input reads as it did. -/
def signFindsUptoRow : OpenClaim := { program := "ytbnjppmmhhjjbaa", sum := "9a9d6c0519726c2c26984e4746b0da732cbb993bb93705a39d6ba25ce0890b58", func := "syllogism/syllogismlaw01.SignFinds", spec := "signFinds", unfollowed := true, recurses := true, plainKeys := false, apart := false, narrowed := true }
def SignFindsUptoSaid : Prop := signFindsUptoRow.holds Try.pinned (OpenSpec.upto signFindsSpec)

/-- 'syllogismlaw01.SignChecks', WHERE WHAT IT READS IS OF BULK AT MOST 1048576: true; the input reads as it did. -/
def signChecksUptoRow : OpenClaim := { program := "ytbnjppmmhhjjbaa", sum := "9a9d6c0519726c2c26984e4746b0da732cbb993bb93705a39d6ba25ce0890b58", func := "syllogism/syllogismlaw01.SignChecks", spec := "signChecks", unfollowed := true, recurses := true, plainKeys := false, apart := false, narrowed := true }
def SignChecksUptoSaid : Prop := signChecksUptoRow.holds Try.pinned (OpenSpec.upto signChecksSpec)

end Rows
end Go.Proofs.Ytbnjppmmhhjjbaa
