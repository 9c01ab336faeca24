/-
  NARROWER THAN 'FOR EVERY INPUT', by the rows' own cells (each row's printed sentence says how): MatchFinds: loops · MatchActs: loops · MatchNil: loops · MatchNames: loops · MatchMakes: loops.
  DERIVED. THE GIVEN ROWS OF THIS SEAT. 5 by the template 'for every input the law returns true; each argument reads behind the call as it read before'; 0 by the template 'total and deterministic' (their statements: YtcmfjnadjddboaaTotals.lean).
  GIVEN WITH THE SEED: the statements are not yours to turn. If you find one false, say at which input.
  Laid BY PROGRAM, IN A SANDBOX (cutbox-rows.mjs): the forced cells as the released guide's own fill.sh prints them over the translation 251e8a74ca05fbb0… (all of the seat's roots in one cut). By AI agents, Wed Nov 11 2026. No macro, syntax, notation, axiom, sorry.
-/
import Derived.Test.YtcmfjnadjddboaaChecked
import GoSem.Claim
import GoSem.ClaimJoined
import GoSem.ClaimMapViews
import Derived.JoinedTies
import Derived.KernelRfl
namespace Go.Proofs.Ytcmfjnadjddboaa
/- THE CELL 'sum', in the pinned program and in every row, IS THE sha256 OF THE DUMP (.gsa) THAT YtcmfjnadjddboaaProg.lean LOADS. Nothing in Lean hashes anything: it is a label: what it is worth is what the hold of that sum in a sandbox is worth. -/
noncomputable def Try.pinned : Pinned := { name := "ytcmfjnadjddboaa", sum := "251e8a74ca05fbb0e0e19b49289a4ee97e7190c101109b93f142d44cfd73333b", checked := Try.checked }
namespace Rows
def none {H : Type} : Left H := { results := [], args := [] }

/-- 'syllogismlaw06.MatchFinds': WHATEVER THE INPUT: true; the input reads as it did. -/
def matchFindsSpec : ChangeSpec := { name := "matchFinds", fn := fun _ => fun
  | [d1, d2] => { results := [.lit (.bool true)], args := [d1, d2] }
  | _ => none }
def matchFindsRow : OpenClaim := { program := "ytcmfjnadjddboaa", sum := "251e8a74ca05fbb0e0e19b49289a4ee97e7190c101109b93f142d44cfd73333b", func := "syllogism/syllogismlaw06.MatchFinds", spec := "matchFinds", unfollowed := true, recurses := true, loops := true, apart := false }
def MatchFindsSaid : Prop := matchFindsRow.holds Try.pinned (OpenSpec.ofChange matchFindsSpec)

/-- ITS FALSE NEIGHBOUR: 'it returns false'. Refute it at one input. -/
def matchFindsWrong : ChangeSpec := { name := "matchFinds", fn := fun _ => fun
  | [d1, d2] => { results := [.lit (.bool false)], args := [d1, d2] }
  | _ => none }
def MatchFindsWrongFalsely : Prop := matchFindsRow.holds Try.pinned (OpenSpec.ofChange matchFindsWrong)

/-- 'syllogismlaw06.MatchActs': WHATEVER THE INPUT: true; the input reads as it did. -/
def matchActsSpec : ChangeSpec := { name := "matchActs", fn := fun _ => fun
  | [d] => { results := [.lit (.bool true)], args := [d] }
  | _ => none }
def matchActsRow : OpenClaim := { program := "ytcmfjnadjddboaa", sum := "251e8a74ca05fbb0e0e19b49289a4ee97e7190c101109b93f142d44cfd73333b", func := "syllogism/syllogismlaw06.MatchActs", spec := "matchActs", unfollowed := true, recurses := true, loops := true, apart := false }
def MatchActsSaid : Prop := matchActsRow.holds Try.pinned (OpenSpec.ofChange matchActsSpec)

/-- ITS FALSE NEIGHBOUR: 'it returns false'. Refute it at one input. -/
def matchActsWrong : ChangeSpec := { name := "matchActs", fn := fun _ => fun
  | [d] => { results := [.lit (.bool false)], args := [d] }
  | _ => none }
def MatchActsWrongFalsely : Prop := matchActsRow.holds Try.pinned (OpenSpec.ofChange matchActsWrong)

/-- 'syllogismlaw06.MatchNil': WHATEVER THE INPUT: true; the input reads as it did. -/
def matchNilSpec : ChangeSpec := { name := "matchNil", fn := fun _ => fun
  | [d1, d2, d3] => { results := [.lit (.bool true)], args := [d1, d2, d3] }
  | _ => none }
def matchNilRow : OpenClaim := { program := "ytcmfjnadjddboaa", sum := "251e8a74ca05fbb0e0e19b49289a4ee97e7190c101109b93f142d44cfd73333b", func := "syllogism/syllogismlaw06.MatchNil", spec := "matchNil", unfollowed := true, recurses := true, loops := true, apart := false }
def MatchNilSaid : Prop := matchNilRow.holds Try.pinned (OpenSpec.ofChange matchNilSpec)

/-- ITS FALSE NEIGHBOUR: 'it returns false'. Refute it at one input. -/
def matchNilWrong : ChangeSpec := { name := "matchNil", fn := fun _ => fun
  | [d1, d2, d3] => { results := [.lit (.bool false)], args := [d1, d2, d3] }
  | _ => none }
def MatchNilWrongFalsely : Prop := matchNilRow.holds Try.pinned (OpenSpec.ofChange matchNilWrong)

/-- 'syllogismlaw06.MatchNames': WHATEVER THE INPUT: true; the input reads as it did. -/
def matchNamesSpec : ChangeSpec := { name := "matchNames", fn := fun _ => fun
  | [d1, d2, d3] => { results := [.lit (.bool true)], args := [d1, d2, d3] }
  | _ => none }
def matchNamesRow : OpenClaim := { program := "ytcmfjnadjddboaa", sum := "251e8a74ca05fbb0e0e19b49289a4ee97e7190c101109b93f142d44cfd73333b", func := "syllogism/syllogismlaw06.MatchNames", spec := "matchNames", unfollowed := true, recurses := true, loops := true, apart := false }
def MatchNamesSaid : Prop := matchNamesRow.holds Try.pinned (OpenSpec.ofChange matchNamesSpec)

/-- ITS FALSE NEIGHBOUR: 'it returns false'. Refute it at one input. -/
def matchNamesWrong : ChangeSpec := { name := "matchNames", fn := fun _ => fun
  | [d1, d2, d3] => { results := [.lit (.bool false)], args := [d1, d2, d3] }
  | _ => none }
def MatchNamesWrongFalsely : Prop := matchNamesRow.holds Try.pinned (OpenSpec.ofChange matchNamesWrong)

/-- 'syllogismlaw06.MatchMakes': WHATEVER THE INPUT: true; the input reads as it did. -/
def matchMakesSpec : ChangeSpec := { name := "matchMakes", fn := fun _ => fun
  | [d1, d2, d3] => { results := [.lit (.bool true)], args := [d1, d2, d3] }
  | _ => none }
def matchMakesRow : OpenClaim := { program := "ytcmfjnadjddboaa", sum := "251e8a74ca05fbb0e0e19b49289a4ee97e7190c101109b93f142d44cfd73333b", func := "syllogism/syllogismlaw06.MatchMakes", spec := "matchMakes", unfollowed := true, recurses := true, loops := true, apart := false }
def MatchMakesSaid : Prop := matchMakesRow.holds Try.pinned (OpenSpec.ofChange matchMakesSpec)

/-- ITS FALSE NEIGHBOUR: 'it returns false'. Refute it at one input. -/
def matchMakesWrong : ChangeSpec := { name := "matchMakes", fn := fun _ => fun
  | [d1, d2, d3] => { results := [.lit (.bool false)], args := [d1, d2, d3] }
  | _ => none }
def MatchMakesWrongFalsely : Prop := matchMakesRow.holds Try.pinned (OpenSpec.ofChange matchMakesWrong)

/- THE SECOND FORM. 'bulk': how many values and letters a reading holds, each counted each time it is reached (what is shared counts as often as it is met; a slice's spare places count too). A statement '..UptoSaid' is the law's where the arguments, and the package variables that the reading takes, are together of bulk at most 1048576: NARROWER than '..Said'. Prove '..Said' where nothing that the law and all that it calls make is longer than what came in: it says more and counts as full. Else prove '..UptoSaid'. A law counts once. -/
mutual
def uptoBulk {H : Type} : DataW H → Nat
  | .lit (.string bytes) => bytes.length + 1
  | .lit _ => 1
  | .nil => 1
  | .ptr d => uptoBulk d + 1
  | .slice elems spare => uptoBulkAll elems + uptoBulkAll spare + 1
  | .agg parts => uptoBulkAll parts + 1
  | .iface _ d => uptoBulk d + 1
  | .map entries => uptoBulkEntries entries + 1
  | .held _ => 1
def uptoBulkAll {H : Type} : List (DataW H) → Nat
  | [] => 0
  | d :: r => uptoBulk d + uptoBulkAll r
def uptoBulkEntries {H : Type} : List (Lit × DataW H) → Nat
  | [] => 0
  | x :: r => uptoBulkEntry x + uptoBulkEntries r
def uptoBulkEntry {H : Type} : Lit × DataW H → Nat
  | (.string bytes, d) => bytes.length + uptoBulk d + 1
  | (_, d) => uptoBulk d + 1
 end
def uptoSmall : (H : Type) → List (DataW H) → Bool := fun _ ds => decide (uptoBulkAll ds ≤ 1048576)
def OpenSpec.upto (s : _root_.Go.ChangeSpec) : _root_.Go.OpenSpec := { _root_.Go.OpenSpec.ofChange s with cond := some uptoSmall }

/-- 'syllogismlaw06.MatchFinds', WHERE WHAT IT READS IS OF BULK AT MOST 1048576: true; the input reads as it did. -/
def matchFindsUptoRow : OpenClaim := { program := "ytcmfjnadjddboaa", sum := "251e8a74ca05fbb0e0e19b49289a4ee97e7190c101109b93f142d44cfd73333b", func := "syllogism/syllogismlaw06.MatchFinds", spec := "matchFinds", unfollowed := true, recurses := true, loops := true, apart := false, narrowed := true }
def MatchFindsUptoSaid : Prop := matchFindsUptoRow.holds Try.pinned (OpenSpec.upto matchFindsSpec)

/-- 'syllogismlaw06.MatchActs', WHERE WHAT IT READS IS OF BULK AT MOST 1048576: true; the input reads as it did. -/
def matchActsUptoRow : OpenClaim := { program := "ytcmfjnadjddboaa", sum := "251e8a74ca05fbb0e0e19b49289a4ee97e7190c101109b93f142d44cfd73333b", func := "syllogism/syllogismlaw06.MatchActs", spec := "matchActs", unfollowed := true, recurses := true, loops := true, apart := false, narrowed := true }
def MatchActsUptoSaid : Prop := matchActsUptoRow.holds Try.pinned (OpenSpec.upto matchActsSpec)

/-- 'syllogismlaw06.MatchNil', WHERE WHAT IT READS IS OF BULK AT MOST 1048576: true; the input reads as it did. -/
def matchNilUptoRow : OpenClaim := { program := "ytcmfjnadjddboaa", sum := "251e8a74ca05fbb0e0e19b49289a4ee97e7190c101109b93f142d44cfd73333b", func := "syllogism/syllogismlaw06.MatchNil", spec := "matchNil", unfollowed := true, recurses := true, loops := true, apart := false, narrowed := true }
def MatchNilUptoSaid : Prop := matchNilUptoRow.holds Try.pinned (OpenSpec.upto matchNilSpec)

/-- 'syllogismlaw06.MatchNames', WHERE WHAT IT READS IS OF BULK AT MOST 1048576: true; the input reads as it did. -/
def matchNamesUptoRow : OpenClaim := { program := "ytcmfjnadjddboaa", sum := "251e8a74ca05fbb0e0e19b49289a4ee97e7190c101109b93f142d44cfd73333b", func := "syllogism/syllogismlaw06.MatchNames", spec := "matchNames", unfollowed := true, recurses := true, loops := true, apart := false, narrowed := true }
def MatchNamesUptoSaid : Prop := matchNamesUptoRow.holds Try.pinned (OpenSpec.upto matchNamesSpec)

/-- 'syllogismlaw06.MatchMakes', WHERE WHAT IT READS IS OF BULK AT MOST 1048576: true; the input reads as it did. -/
def matchMakesUptoRow : OpenClaim := { program := "ytcmfjnadjddboaa", sum := "251e8a74ca05fbb0e0e19b49289a4ee97e7190c101109b93f142d44cfd73333b", func := "syllogism/syllogismlaw06.MatchMakes", spec := "matchMakes", unfollowed := true, recurses := true, loops := true, apart := false, narrowed := true }
def MatchMakesUptoSaid : Prop := matchMakesUptoRow.holds Try.pinned (OpenSpec.upto matchMakesSpec)

end Rows
end Go.Proofs.Ytcmfjnadjddboaa
