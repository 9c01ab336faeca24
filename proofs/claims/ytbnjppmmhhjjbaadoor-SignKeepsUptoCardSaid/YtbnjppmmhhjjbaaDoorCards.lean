/-
  DERIVED. GIVEN WITH THE SEED: THE CARDS: each row of YtbnjppmmhhjjbaaDoorRows.lean that lists a variable, with what it lists TIED to the program's text (the seventh form; the later family's looks); each row that meets fmt, with fmt's text TOLD by the authors' own Lean function (tested against real Go, not proved from fmt's source: count such statements apart). THE CARD IS WHAT COUNTS. Prove the row's statement (the work); the ties are given (YtbnjppmmhhjjbaaDoorTie.lean); close each card by the builder's one call (the guide's Derived/Test/ToyasCard.lean, 'card_holds'). Laid BY PROGRAM, IN A SANDBOX (cutbox-door.mjs). By AI agents, Wed Nov 11 2026. No macro, syntax, notation, axiom, sorry.
-/
import Derived.Test.YtbnjppmmhhjjbaaDoorRows
import GoSem.ClaimSeven
namespace Go.Proofs.YtbnjppmmhhjjbaaDoor
namespace Rows

/-- THE TIED CARD OF 'syllogismlaw01.SignFresh'. -/
def signFreshCard : Claim7 := { stood := { row := signFreshRow, standIns := [], harness := (true, "8e5cc2f202191ded11ea28c9841bcb6e023868f9598f345cf3cfe9ada9432f0e"), looks := false }, kinds := [], alts := [], laidByText := true, laidKinds := [.data, .data, .data], laidTests := true, laidLooks := .later }
def SignFreshCardSaid : Prop := Claim7.holds Tryd.pinned (.plain (OpenSpec.ofChange signFreshSpec)) signFreshCard

/-- THE TIED CARD OF 'syllogismlaw01.SignKeeps'. -/
def signKeepsCard : Claim7 := { stood := { row := signKeepsRow, standIns := [], harness := (true, "8e5cc2f202191ded11ea28c9841bcb6e023868f9598f345cf3cfe9ada9432f0e"), looks := false }, kinds := [], alts := [], laidByText := true, laidKinds := [.data, .data, .data], laidTests := true, laidLooks := .later }
def SignKeepsCardSaid : Prop := Claim7.holds Tryd.pinned (.plain (OpenSpec.ofChange signKeepsSpec)) signKeepsCard

/-- THE SECOND FORM's CARD OF 'syllogismlaw01.SignFresh'. -/
def signFreshUptoCard : Claim7 := { stood := { row := signFreshUptoRow, standIns := [], harness := (true, "8e5cc2f202191ded11ea28c9841bcb6e023868f9598f345cf3cfe9ada9432f0e"), looks := false }, kinds := [], alts := [], laidByText := true, laidKinds := [.data, .data, .data], laidTests := true, laidLooks := .later }
def SignFreshUptoCardSaid : Prop := Claim7.holds Tryd.pinned (.plain (OpenSpec.upto signFreshSpec)) signFreshUptoCard

/-- THE SECOND FORM's CARD OF 'syllogismlaw01.SignKeeps'. -/
def signKeepsUptoCard : Claim7 := { stood := { row := signKeepsUptoRow, standIns := [], harness := (true, "8e5cc2f202191ded11ea28c9841bcb6e023868f9598f345cf3cfe9ada9432f0e"), looks := false }, kinds := [], alts := [], laidByText := true, laidKinds := [.data, .data, .data], laidTests := true, laidLooks := .later }
def SignKeepsUptoCardSaid : Prop := Claim7.holds Tryd.pinned (.plain (OpenSpec.upto signKeepsSpec)) signKeepsUptoCard
end Rows
end Go.Proofs.YtbnjppmmhhjjbaaDoor
