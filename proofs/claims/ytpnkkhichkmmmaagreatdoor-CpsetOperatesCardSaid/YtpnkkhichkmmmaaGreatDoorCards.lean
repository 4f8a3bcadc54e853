/-
  DERIVED. GIVEN WITH THE SEED: THE CARDS: each row of YtpnkkhichkmmmaaGreatDoorRows.lean that lists a variable, with what it lists TIED to the program's text (the seventh form; the later family's looks); each row that meets fmt, with fmt's text TOLD by the authors' own Lean function (tested against real Go, not proved from fmt's source: count such statements apart). THE CARD IS WHAT COUNTS. Prove the row's statement (the work); the ties are given (YtpnkkhichkmmmaaGreatDoorTie.lean); close each card by the builder's one call (the guide's Derived/Test/ToyasCard.lean, 'card_holds'). Laid BY PROGRAM, IN A SANDBOX (cutbox-door.mjs). By AI agents, Wed Nov 11 2026. No macro, syntax, notation, axiom, sorry.
-/
import Derived.Test.YtpnkkhichkmmmaaGreatDoorRows
import GoSem.ClaimSeven
namespace Go.Proofs.YtpnkkhichkmmmaaGreatDoor
namespace Rows

/-- THE TIED CARD OF 'unicodetextlaw02.CpsetOperates'. -/
def cpsetOperatesCard : Claim7 := { stood := { row := cpsetOperatesRow, standIns := [], harness := (true, "905a191b2723dee08bfb1bd1b806567ebb5ea92c593874f9f73d1d589c04b8c4"), looks := false }, kinds := [], alts := [], laidByText := true, laidKinds := [.data, .pinned], laidTests := true, laidLooks := .later }
def CpsetOperatesCardSaid : Prop := Claim7.holds Tryz.pinned (.plain (OpenSpec.ofChange cpsetOperatesSpec)) cpsetOperatesCard

/-- THE SECOND FORM's CARD OF 'unicodetextlaw02.CpsetOperates'. -/
def cpsetOperatesUptoCard : Claim7 := { stood := { row := cpsetOperatesUptoRow, standIns := [], harness := (true, "905a191b2723dee08bfb1bd1b806567ebb5ea92c593874f9f73d1d589c04b8c4"), looks := false }, kinds := [], alts := [], laidByText := true, laidKinds := [.data, .pinned], laidTests := true, laidLooks := .later }
def CpsetOperatesUptoCardSaid : Prop := Claim7.holds Tryz.pinned (.plain (OpenSpec.upto cpsetOperatesSpec)) cpsetOperatesUptoCard
end Rows
end Go.Proofs.YtpnkkhichkmmmaaGreatDoor
