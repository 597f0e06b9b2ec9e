/-
  DERIVED. GIVEN WITH THE SEED: THE CARDS: each row of YtadnlmhnjfmleaaGreatDoorRows.lean that lists a variable, with what it lists TIED to the program's text (the seventh form; the later family's looks); each row that meets fmt, with fmt's text TOLD by the authors' own Lean function (tested against real Go, not proved from fmt's source: count such statements apart). THE CARD IS WHAT COUNTS. Prove the row's statement (the work); the ties are given (YtadnlmhnjfmleaaGreatDoorTie.lean); close each card by the builder's one call (the guide's Derived/Test/ToyasCard.lean, 'card_holds'). Laid BY PROGRAM, IN A SANDBOX (cutbox-door.mjs). By AI agents, Wed Nov 11 2026. No macro, syntax, notation, axiom, sorry.
-/
import Derived.Test.YtadnlmhnjfmleaaGreatDoorRows
import GoSem.ClaimSeven
namespace Go.Proofs.YtadnlmhnjfmleaaGreatDoor
namespace Rows

/-- THE TIED CARD OF 'apodixislaw36.StructureObjects'. -/
def structureObjectsCard : Claim7 := { stood := { row := structureObjectsRow, standIns := [], harness := (true, "9c03383a93de42e170a0be79d7597d1a8c5b9612c8d1fd415972e10bcaad1418"), looks := true }, kinds := [], alts := [], laidByText := true, laidKinds := [.widerDeep], laidTests := true, laidLooks := .later }
def StructureObjectsCardSaid : Prop := Claim7.holds Tryz.pinned (.plain (OpenSpec.ofChange structureObjectsSpec)) structureObjectsCard

/-- THE SECOND FORM's CARD OF 'apodixislaw36.StructureObjects'. -/
def structureObjectsUptoCard : Claim7 := { stood := { row := structureObjectsUptoRow, standIns := [], harness := (true, "9c03383a93de42e170a0be79d7597d1a8c5b9612c8d1fd415972e10bcaad1418"), looks := true }, kinds := [], alts := [], laidByText := true, laidKinds := [.widerDeep], laidTests := true, laidLooks := .later }
def StructureObjectsUptoCardSaid : Prop := Claim7.holds Tryz.pinned (.plain (OpenSpec.upto structureObjectsSpec)) structureObjectsUptoCard
end Rows
end Go.Proofs.YtadnlmhnjfmleaaGreatDoor
