/-
  DERIVED. GIVEN WITH THE SEED: THE CARDS: each row of YtcnkdbldfpaebaaGreatDoorRows.lean that lists a variable, with what it lists TIED to the program's text (the seventh form; the later family's looks); each row that meets fmt, with fmt's text TOLD by the authors' own Lean function (tested against real Go, not proved from fmt's source: count such statements apart). THE CARD IS WHAT COUNTS. Prove the row's statement (the work); the ties are given (YtcnkdbldfpaebaaGreatDoorTie.lean); close each card by the builder's one call (the guide's Derived/Test/ToyasCard.lean, 'card_holds'). Laid BY PROGRAM, IN A SANDBOX (cutbox-door.mjs). By AI agents, Wed Nov 11 2026. No macro, syntax, notation, axiom, sorry.
-/
import Derived.Test.YtcnkdbldfpaebaaGreatDoorRows
import GoSem.ClaimSeven
namespace Go.Proofs.YtcnkdbldfpaebaaGreatDoor
namespace Rows

/-- THE TIED CARD OF 'apodixislaw34.TruthSubstitutes'. -/
def truthSubstitutesCard : Claim7 := { stood := { row := truthSubstitutesRow, standIns := [], harness := (true, "e2f369e8a68e2112e409f327248fc4c7caf6ef6f0ca013f1d4690f5b4555cd35"), looks := true }, kinds := [], alts := [], laidByText := true, laidKinds := [.widerDeep], laidTests := true, laidLooks := .later }
def TruthSubstitutesCardSaid : Prop := Claim7.holds Tryz.pinned (.plain (OpenSpec.ofChange truthSubstitutesSpec)) truthSubstitutesCard

/-- THE SECOND FORM's CARD OF 'apodixislaw34.TruthSubstitutes'. -/
def truthSubstitutesUptoCard : Claim7 := { stood := { row := truthSubstitutesUptoRow, standIns := [], harness := (true, "e2f369e8a68e2112e409f327248fc4c7caf6ef6f0ca013f1d4690f5b4555cd35"), looks := true }, kinds := [], alts := [], laidByText := true, laidKinds := [.widerDeep], laidTests := true, laidLooks := .later }
def TruthSubstitutesUptoCardSaid : Prop := Claim7.holds Tryz.pinned (.plain (OpenSpec.upto truthSubstitutesSpec)) truthSubstitutesUptoCard
end Rows
end Go.Proofs.YtcnkdbldfpaebaaGreatDoor
