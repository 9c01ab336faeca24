/-
  NARROWER THAN 'FOR EVERY INPUT', by the rows' own cells (each row's printed sentence says how): LpoTells: loops · LpoOrders: loops · LpoSubterms: loops · LpoStable: loops · LpoWithin: loops.
  DERIVED. THE GIVEN ROWS OF THIS SEAT. 5 by the template 'for every input the law returns true; each argument reads behind the call as it read before'; 0 by the template 'total and deterministic' (their statements: YtlkiabgpnboicaaTotals.lean).
  GIVEN WITH THE SEED: the statements are not yours to turn. If you find one false, say at which input.
  Laid BY PROGRAM, IN A SANDBOX (cutbox-rows.mjs): the forced cells as the released guide's own fill.sh prints them over the translation cf8b2e69df9e6efc… (all of the seat's roots in one cut). By AI agents, Wed Nov 11 2026. No macro, syntax, notation, axiom, sorry.
-/
import Derived.Test.YtlkiabgpnboicaaChecked
import GoSem.Claim
import GoSem.ClaimJoined
import GoSem.ClaimMapViews
import Derived.JoinedTies
import Derived.KernelRfl
namespace Go.Proofs.Ytlkiabgpnboicaa
/- THE CELL 'sum', in the pinned program and in every row, IS THE sha256 OF THE DUMP (.gsa) THAT YtlkiabgpnboicaaProg.lean LOADS. Nothing in Lean hashes anything: it is a label: what it is worth is what the hold of that sum in a sandbox is worth. -/
noncomputable def Try.pinned : Pinned := { name := "ytlkiabgpnboicaa", sum := "cf8b2e69df9e6efc600e22fa39c662092908d702bc185c87201ccc7694170789", checked := Try.checked }
namespace Rows
def none {H : Type} : Left H := { results := [], args := [] }

/-- 'syllogismlaw09.LpoTells': WHATEVER THE INPUT: true; the input reads as it did. -/
def lpoTellsSpec : ChangeSpec := { name := "lpoTells", fn := fun _ => fun
  | [d1, d2, d3] => { results := [.lit (.bool true)], args := [d1, d2, d3] }
  | _ => none }
def lpoTellsRow : OpenClaim := { program := "ytlkiabgpnboicaa", sum := "cf8b2e69df9e6efc600e22fa39c662092908d702bc185c87201ccc7694170789", func := "syllogism/syllogismlaw09.LpoTells", spec := "lpoTells", unfollowed := true, recurses := true, loops := true, plainKeys := false, apart := false }
def LpoTellsSaid : Prop := lpoTellsRow.holds Try.pinned (OpenSpec.ofChange lpoTellsSpec)

/-- ITS FALSE NEIGHBOUR: 'it returns false'. Refute it at one input. -/
def lpoTellsWrong : ChangeSpec := { name := "lpoTells", fn := fun _ => fun
  | [d1, d2, d3] => { results := [.lit (.bool false)], args := [d1, d2, d3] }
  | _ => none }
def LpoTellsWrongFalsely : Prop := lpoTellsRow.holds Try.pinned (OpenSpec.ofChange lpoTellsWrong)

/-- 'syllogismlaw09.LpoOrders': WHATEVER THE INPUT: true; the input reads as it did. -/
def lpoOrdersSpec : ChangeSpec := { name := "lpoOrders", fn := fun _ => fun
  | [d1, d2, d3, d4, d5] => { results := [.lit (.bool true)], args := [d1, d2, d3, d4, d5] }
  | _ => none }
def lpoOrdersRow : OpenClaim := { program := "ytlkiabgpnboicaa", sum := "cf8b2e69df9e6efc600e22fa39c662092908d702bc185c87201ccc7694170789", func := "syllogism/syllogismlaw09.LpoOrders", spec := "lpoOrders", unfollowed := true, recurses := true, loops := true, plainKeys := false, apart := false }
def LpoOrdersSaid : Prop := lpoOrdersRow.holds Try.pinned (OpenSpec.ofChange lpoOrdersSpec)

/-- ITS FALSE NEIGHBOUR: 'it returns false'. Refute it at one input. -/
def lpoOrdersWrong : ChangeSpec := { name := "lpoOrders", fn := fun _ => fun
  | [d1, d2, d3, d4, d5] => { results := [.lit (.bool false)], args := [d1, d2, d3, d4, d5] }
  | _ => none }
def LpoOrdersWrongFalsely : Prop := lpoOrdersRow.holds Try.pinned (OpenSpec.ofChange lpoOrdersWrong)

/-- 'syllogismlaw09.LpoSubterms': WHATEVER THE INPUT: true; the input reads as it did. -/
def lpoSubtermsSpec : ChangeSpec := { name := "lpoSubterms", fn := fun _ => fun
  | [d1, d2, d3] => { results := [.lit (.bool true)], args := [d1, d2, d3] }
  | _ => none }
def lpoSubtermsRow : OpenClaim := { program := "ytlkiabgpnboicaa", sum := "cf8b2e69df9e6efc600e22fa39c662092908d702bc185c87201ccc7694170789", func := "syllogism/syllogismlaw09.LpoSubterms", spec := "lpoSubterms", unfollowed := true, recurses := true, loops := true, plainKeys := false, apart := false }
def LpoSubtermsSaid : Prop := lpoSubtermsRow.holds Try.pinned (OpenSpec.ofChange lpoSubtermsSpec)

/-- ITS FALSE NEIGHBOUR: 'it returns false'. Refute it at one input. -/
def lpoSubtermsWrong : ChangeSpec := { name := "lpoSubterms", fn := fun _ => fun
  | [d1, d2, d3] => { results := [.lit (.bool false)], args := [d1, d2, d3] }
  | _ => none }
def LpoSubtermsWrongFalsely : Prop := lpoSubtermsRow.holds Try.pinned (OpenSpec.ofChange lpoSubtermsWrong)

/-- 'syllogismlaw09.LpoStable': WHATEVER THE INPUT: true; the input reads as it did. -/
def lpoStableSpec : ChangeSpec := { name := "lpoStable", fn := fun _ => fun
  | [d1, d2, d3, d4, d5] => { results := [.lit (.bool true)], args := [d1, d2, d3, d4, d5] }
  | _ => none }
def lpoStableRow : OpenClaim := { program := "ytlkiabgpnboicaa", sum := "cf8b2e69df9e6efc600e22fa39c662092908d702bc185c87201ccc7694170789", func := "syllogism/syllogismlaw09.LpoStable", spec := "lpoStable", unfollowed := true, recurses := true, loops := true, plainKeys := false, apart := false }
def LpoStableSaid : Prop := lpoStableRow.holds Try.pinned (OpenSpec.ofChange lpoStableSpec)

/-- ITS FALSE NEIGHBOUR: 'it returns false'. Refute it at one input. -/
def lpoStableWrong : ChangeSpec := { name := "lpoStable", fn := fun _ => fun
  | [d1, d2, d3, d4, d5] => { results := [.lit (.bool false)], args := [d1, d2, d3, d4, d5] }
  | _ => none }
def LpoStableWrongFalsely : Prop := lpoStableRow.holds Try.pinned (OpenSpec.ofChange lpoStableWrong)

/-- 'syllogismlaw09.LpoWithin': WHATEVER THE INPUT: true; the input reads as it did. -/
def lpoWithinSpec : ChangeSpec := { name := "lpoWithin", fn := fun _ => fun
  | [d1, d2, d3, d4, d5, d6] => { results := [.lit (.bool true)], args := [d1, d2, d3, d4, d5, d6] }
  | _ => none }
def lpoWithinRow : OpenClaim := { program := "ytlkiabgpnboicaa", sum := "cf8b2e69df9e6efc600e22fa39c662092908d702bc185c87201ccc7694170789", func := "syllogism/syllogismlaw09.LpoWithin", spec := "lpoWithin", unfollowed := true, recurses := true, loops := true, plainKeys := false, apart := false }
def LpoWithinSaid : Prop := lpoWithinRow.holds Try.pinned (OpenSpec.ofChange lpoWithinSpec)

/-- ITS FALSE NEIGHBOUR: 'it returns false'. Refute it at one input. -/
def lpoWithinWrong : ChangeSpec := { name := "lpoWithin", fn := fun _ => fun
  | [d1, d2, d3, d4, d5, d6] => { results := [.lit (.bool false)], args := [d1, d2, d3, d4, d5, d6] }
  | _ => none }
def LpoWithinWrongFalsely : Prop := lpoWithinRow.holds Try.pinned (OpenSpec.ofChange lpoWithinWrong)

/- THE SECOND FORM. 'bulk': how many values and letters a reading holds, each counted each time it is reached (what is shared counts as often as it is met; a slice's spare places count too). A statement '..UptoSaid' is the law's where the arguments, and the package variables that the reading takes, are together of bulk at most 1048576: NARROWER than '..Said'. Prove '..Said' where nothing that the law and all that it calls make is longer than what came in: it says more and counts as full. Else prove '..UptoSaid'. A law counts once. -/
mutual
def uptoBulk {H : Type} : DataW H → Nat
  | .lit (.string bytes) => bytes.length + 1
  | .lit _ => 1
  | .nil => 1
  | .ptr d => uptoBulk d + 1
  | .slice elems spare => uptoBulkAll elems + uptoBulkAll spare + 1
  | .agg parts => uptoBulkAll parts + 1
  | .iface _ d => uptoBulk d + 1
  | .map entries => uptoBulkEntries entries + 1
  | .held _ => 1
def uptoBulkAll {H : Type} : List (DataW H) → Nat
  | [] => 0
  | d :: r => uptoBulk d + uptoBulkAll r
def uptoBulkEntries {H : Type} : List (Lit × DataW H) → Nat
  | [] => 0
  | x :: r => uptoBulkEntry x + uptoBulkEntries r
def uptoBulkEntry {H : Type} : Lit × DataW H → Nat
  | (.string bytes, d) => bytes.length + uptoBulk d + 1
  | (_, d) => uptoBulk d + 1
 end
def uptoSmall : (H : Type) → List (DataW H) → Bool := fun _ ds => decide (uptoBulkAll ds ≤ 1048576)
def OpenSpec.upto (s : _root_.Go.ChangeSpec) : _root_.Go.OpenSpec := { _root_.Go.OpenSpec.ofChange s with cond := some uptoSmall }

/-- 'syllogismlaw09.LpoTells', WHERE WHAT IT READS IS OF BULK AT MOST 1048576: true; the input reads as it did. -/
def lpoTellsUptoRow : OpenClaim := { program := "ytlkiabgpnboicaa", sum := "cf8b2e69df9e6efc600e22fa39c662092908d702bc185c87201ccc7694170789", func := "syllogism/syllogismlaw09.LpoTells", spec := "lpoTells", unfollowed := true, recurses := true, loops := true, plainKeys := false, apart := false, narrowed := true }
def LpoTellsUptoSaid : Prop := lpoTellsUptoRow.holds Try.pinned (OpenSpec.upto lpoTellsSpec)

/-- 'syllogismlaw09.LpoOrders', WHERE WHAT IT READS IS OF BULK AT MOST 1048576: true; the input reads as it did. -/
def lpoOrdersUptoRow : OpenClaim := { program := "ytlkiabgpnboicaa", sum := "cf8b2e69df9e6efc600e22fa39c662092908d702bc185c87201ccc7694170789", func := "syllogism/syllogismlaw09.LpoOrders", spec := "lpoOrders", unfollowed := true, recurses := true, loops := true, plainKeys := false, apart := false, narrowed := true }
def LpoOrdersUptoSaid : Prop := lpoOrdersUptoRow.holds Try.pinned (OpenSpec.upto lpoOrdersSpec)

/-- 'syllogismlaw09.LpoSubterms', WHERE WHAT IT READS IS OF BULK AT MOST 1048576: true; the input reads as it did. -/
def lpoSubtermsUptoRow : OpenClaim := { program := "ytlkiabgpnboicaa", sum := "cf8b2e69df9e6efc600e22fa39c662092908d702bc185c87201ccc7694170789", func := "syllogism/syllogismlaw09.LpoSubterms", spec := "lpoSubterms", unfollowed := true, recurses := true, loops := true, plainKeys := false, apart := false, narrowed := true }
def LpoSubtermsUptoSaid : Prop := lpoSubtermsUptoRow.holds Try.pinned (OpenSpec.upto lpoSubtermsSpec)

/-- 'syllogismlaw09.LpoStable', WHERE WHAT IT READS IS OF BULK AT MOST 1048576: true; the input reads as it did. -/
def lpoStableUptoRow : OpenClaim := { program := "ytlkiabgpnboicaa", sum := "cf8b2e69df9e6efc600e22fa39c662092908d702bc185c87201ccc7694170789", func := "syllogism/syllogismlaw09.LpoStable", spec := "lpoStable", unfollowed := true, recurses := true, loops := true, plainKeys := false, apart := false, narrowed := true }
def LpoStableUptoSaid : Prop := lpoStableUptoRow.holds Try.pinned (OpenSpec.upto lpoStableSpec)

/-- 'syllogismlaw09.LpoWithin', WHERE WHAT IT READS IS OF BULK AT MOST 1048576: true; the input reads as it did. -/
def lpoWithinUptoRow : OpenClaim := { program := "ytlkiabgpnboicaa", sum := "cf8b2e69df9e6efc600e22fa39c662092908d702bc185c87201ccc7694170789", func := "syllogism/syllogismlaw09.LpoWithin", spec := "lpoWithin", unfollowed := true, recurses := true, loops := true, plainKeys := false, apart := false, narrowed := true }
def LpoWithinUptoSaid : Prop := lpoWithinUptoRow.holds Try.pinned (OpenSpec.upto lpoWithinSpec)

end Rows
end Go.Proofs.Ytlkiabgpnboicaa
