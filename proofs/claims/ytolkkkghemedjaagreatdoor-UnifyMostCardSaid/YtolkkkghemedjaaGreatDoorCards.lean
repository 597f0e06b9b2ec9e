/-
  DERIVED. GIVEN WITH THE SEED: THE CARDS: each row of YtolkkkghemedjaaGreatDoorRows.lean that lists a variable, with what it lists TIED to the program's text (the seventh form; the later family's looks); each row that meets fmt, with fmt's text TOLD by the authors' own Lean function (tested against real Go, not proved from fmt's source: count such statements apart). THE CARD IS WHAT COUNTS. Prove the row's statement (the work); the ties are given (YtolkkkghemedjaaGreatDoorTie.lean); close each card by the builder's one call (the guide's Derived/Test/ToyasCard.lean, 'card_holds'). Laid BY PROGRAM, IN A SANDBOX (cutbox-door.mjs). By AI agents, Wed Nov 11 2026. No macro, syntax, notation, axiom, sorry.
-/
import Derived.Test.YtolkkkghemedjaaGreatDoorRows
import GoSem.ClaimSeven
namespace Go.Proofs.YtolkkkghemedjaaGreatDoor
namespace Rows

/-- THE TIED CARD OF 'apodixislaw18.UnifyPatterns'. -/
def unifyPatternsCard : Claim7 := { stood := { row := unifyPatternsRow, standIns := [], harness := (true, "85d5a25160d4d348237a3630ec1a1b8b183f2ecf1c1e09472d65101c2794144c"), looks := true }, kinds := [], alts := [], laidByText := true, laidKinds := [.data, .data, .data, .sentinel, .sentinel, .widerDeep], laidTests := true, laidLooks := .later }
def UnifyPatternsCardSaid : Prop := Claim7.holds Tryz.pinned (.plain (OpenSpec.ofChange unifyPatternsSpec)) unifyPatternsCard

/-- THE TIED CARD OF 'apodixislaw18.UnifyMost'. -/
def unifyMostCard : Claim7 := { stood := { row := unifyMostRow, standIns := [], harness := (true, "85d5a25160d4d348237a3630ec1a1b8b183f2ecf1c1e09472d65101c2794144c"), looks := true }, kinds := [], alts := [], laidByText := true, laidKinds := [.data, .data, .data, .sentinel, .sentinel, .widerDeep], laidTests := true, laidLooks := .later }
def UnifyMostCardSaid : Prop := Claim7.holds Tryz.pinned (.plain (OpenSpec.ofChange unifyMostSpec)) unifyMostCard

/-- THE TIED CARD OF 'apodixislaw18.UnifyEqual'. -/
def unifyEqualCard : Claim7 := { stood := { row := unifyEqualRow, standIns := [], harness := (true, "85d5a25160d4d348237a3630ec1a1b8b183f2ecf1c1e09472d65101c2794144c"), looks := true }, kinds := [], alts := [], laidByText := true, laidKinds := [.data, .data, .data, .sentinel, .sentinel, .widerDeep], laidTests := true, laidLooks := .later }
def UnifyEqualCardSaid : Prop := Claim7.holds Tryz.pinned (.plain (OpenSpec.ofChange unifyEqualSpec)) unifyEqualCard

/-- THE TIED CARD OF 'apodixislaw18.UnifyTrees'. -/
def unifyTreesCard : Claim7 := { stood := { row := unifyTreesRow, standIns := [], harness := (true, "85d5a25160d4d348237a3630ec1a1b8b183f2ecf1c1e09472d65101c2794144c"), looks := true }, kinds := [], alts := [], laidByText := true, laidKinds := [.data, .data, .data, .sentinel, .sentinel, .widerDeep], laidTests := true, laidLooks := .later }
def UnifyTreesCardSaid : Prop := Claim7.holds Tryz.pinned (.plain (OpenSpec.ofChange unifyTreesSpec)) unifyTreesCard

/-- THE TIED CARD OF 'apodixislaw18.UnifyUnifies'. -/
def unifyUnifiesCard : Claim7 := { stood := { row := unifyUnifiesRow, standIns := [], harness := (true, "85d5a25160d4d348237a3630ec1a1b8b183f2ecf1c1e09472d65101c2794144c"), looks := true }, kinds := [], alts := [], laidByText := true, laidKinds := [.data, .data, .data, .sentinel, .sentinel, .widerDeep], laidTests := true, laidLooks := .later }
def UnifyUnifiesCardSaid : Prop := Claim7.holds Tryz.pinned (.plain (OpenSpec.ofChange unifyUnifiesSpec)) unifyUnifiesCard

/-- THE TIED CARD OF 'apodixislaw18.UnifyMatches'. -/
def unifyMatchesCard : Claim7 := { stood := { row := unifyMatchesRow, standIns := [], harness := (true, "85d5a25160d4d348237a3630ec1a1b8b183f2ecf1c1e09472d65101c2794144c"), looks := true }, kinds := [], alts := [], laidByText := true, laidKinds := [.data, .data, .data, .sentinel, .sentinel, .widerDeep], laidTests := true, laidLooks := .later }
def UnifyMatchesCardSaid : Prop := Claim7.holds Tryz.pinned (.plain (OpenSpec.ofChange unifyMatchesSpec)) unifyMatchesCard

/-- THE SECOND FORM's CARD OF 'apodixislaw18.UnifyPatterns'. -/
def unifyPatternsUptoCard : Claim7 := { stood := { row := unifyPatternsUptoRow, standIns := [], harness := (true, "85d5a25160d4d348237a3630ec1a1b8b183f2ecf1c1e09472d65101c2794144c"), looks := true }, kinds := [], alts := [], laidByText := true, laidKinds := [.data, .data, .data, .sentinel, .sentinel, .widerDeep], laidTests := true, laidLooks := .later }
def UnifyPatternsUptoCardSaid : Prop := Claim7.holds Tryz.pinned (.plain (OpenSpec.upto unifyPatternsSpec)) unifyPatternsUptoCard

/-- THE SECOND FORM's CARD OF 'apodixislaw18.UnifyMost'. -/
def unifyMostUptoCard : Claim7 := { stood := { row := unifyMostUptoRow, standIns := [], harness := (true, "85d5a25160d4d348237a3630ec1a1b8b183f2ecf1c1e09472d65101c2794144c"), looks := true }, kinds := [], alts := [], laidByText := true, laidKinds := [.data, .data, .data, .sentinel, .sentinel, .widerDeep], laidTests := true, laidLooks := .later }
def UnifyMostUptoCardSaid : Prop := Claim7.holds Tryz.pinned (.plain (OpenSpec.upto unifyMostSpec)) unifyMostUptoCard

/-- THE SECOND FORM's CARD OF 'apodixislaw18.UnifyEqual'. -/
def unifyEqualUptoCard : Claim7 := { stood := { row := unifyEqualUptoRow, standIns := [], harness := (true, "85d5a25160d4d348237a3630ec1a1b8b183f2ecf1c1e09472d65101c2794144c"), looks := true }, kinds := [], alts := [], laidByText := true, laidKinds := [.data, .data, .data, .sentinel, .sentinel, .widerDeep], laidTests := true, laidLooks := .later }
def UnifyEqualUptoCardSaid : Prop := Claim7.holds Tryz.pinned (.plain (OpenSpec.upto unifyEqualSpec)) unifyEqualUptoCard

/-- THE SECOND FORM's CARD OF 'apodixislaw18.UnifyTrees'. -/
def unifyTreesUptoCard : Claim7 := { stood := { row := unifyTreesUptoRow, standIns := [], harness := (true, "85d5a25160d4d348237a3630ec1a1b8b183f2ecf1c1e09472d65101c2794144c"), looks := true }, kinds := [], alts := [], laidByText := true, laidKinds := [.data, .data, .data, .sentinel, .sentinel, .widerDeep], laidTests := true, laidLooks := .later }
def UnifyTreesUptoCardSaid : Prop := Claim7.holds Tryz.pinned (.plain (OpenSpec.upto unifyTreesSpec)) unifyTreesUptoCard

/-- THE SECOND FORM's CARD OF 'apodixislaw18.UnifyUnifies'. -/
def unifyUnifiesUptoCard : Claim7 := { stood := { row := unifyUnifiesUptoRow, standIns := [], harness := (true, "85d5a25160d4d348237a3630ec1a1b8b183f2ecf1c1e09472d65101c2794144c"), looks := true }, kinds := [], alts := [], laidByText := true, laidKinds := [.data, .data, .data, .sentinel, .sentinel, .widerDeep], laidTests := true, laidLooks := .later }
def UnifyUnifiesUptoCardSaid : Prop := Claim7.holds Tryz.pinned (.plain (OpenSpec.upto unifyUnifiesSpec)) unifyUnifiesUptoCard

/-- THE SECOND FORM's CARD OF 'apodixislaw18.UnifyMatches'. -/
def unifyMatchesUptoCard : Claim7 := { stood := { row := unifyMatchesUptoRow, standIns := [], harness := (true, "85d5a25160d4d348237a3630ec1a1b8b183f2ecf1c1e09472d65101c2794144c"), looks := true }, kinds := [], alts := [], laidByText := true, laidKinds := [.data, .data, .data, .sentinel, .sentinel, .widerDeep], laidTests := true, laidLooks := .later }
def UnifyMatchesUptoCardSaid : Prop := Claim7.holds Tryz.pinned (.plain (OpenSpec.upto unifyMatchesSpec)) unifyMatchesUptoCard
end Rows
end Go.Proofs.YtolkkkghemedjaaGreatDoor
