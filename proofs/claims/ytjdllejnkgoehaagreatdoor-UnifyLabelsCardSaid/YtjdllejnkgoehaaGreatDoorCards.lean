/-
  DERIVED. GIVEN WITH THE SEED: THE CARDS: each row of YtjdllejnkgoehaaGreatDoorRows.lean that lists a variable, with what it lists TIED to the program's text (the seventh form; the later family's looks); each row that meets fmt, with fmt's text TOLD by the authors' own Lean function (tested against real Go, not proved from fmt's source: count such statements apart). THE CARD IS WHAT COUNTS. Prove the row's statement (the work); the ties are given (YtjdllejnkgoehaaGreatDoorTie.lean); close each card by the builder's one call (the guide's Derived/Test/ToyasCard.lean, 'card_holds'). Laid BY PROGRAM, IN A SANDBOX (cutbox-door.mjs). By AI agents, Wed Nov 11 2026. No macro, syntax, notation, axiom, sorry.
-/
import Derived.Test.YtjdllejnkgoehaaGreatDoorRows
import GoSem.ClaimSeven
namespace Go.Proofs.YtjdllejnkgoehaaGreatDoor
namespace Rows

/-- THE TIED CARD OF 'apodixislaw18.UnifyLabels'. -/
def unifyLabelsCard : Claim7 := { stood := { row := unifyLabelsRow, standIns := [], harness := (true, "c5fd2c5b2135d8042ffab6b740ba092022128404490f3b5d2296236c537cb48c"), looks := true }, kinds := [], alts := [], laidByText := true, laidKinds := [.data, .data, .data, .sentinel, .sentinel, .widerDeep], laidTests := true, laidLooks := .later }
def UnifyLabelsCardSaid : Prop := Claim7.holds Tryz.pinned (.plain (OpenSpec.ofChange unifyLabelsSpec)) unifyLabelsCard

/-- THE SECOND FORM's CARD OF 'apodixislaw18.UnifyLabels'. -/
def unifyLabelsUptoCard : Claim7 := { stood := { row := unifyLabelsUptoRow, standIns := [], harness := (true, "c5fd2c5b2135d8042ffab6b740ba092022128404490f3b5d2296236c537cb48c"), looks := true }, kinds := [], alts := [], laidByText := true, laidKinds := [.data, .data, .data, .sentinel, .sentinel, .widerDeep], laidTests := true, laidLooks := .later }
def UnifyLabelsUptoCardSaid : Prop := Claim7.holds Tryz.pinned (.plain (OpenSpec.upto unifyLabelsSpec)) unifyLabelsUptoCard
end Rows
end Go.Proofs.YtjdllejnkgoehaaGreatDoor
