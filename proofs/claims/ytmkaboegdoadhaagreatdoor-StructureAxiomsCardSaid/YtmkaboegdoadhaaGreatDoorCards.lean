/-
  DERIVED. GIVEN WITH THE SEED: THE CARDS: each row of YtmkaboegdoadhaaGreatDoorRows.lean that lists a variable, with what it lists TIED to the program's text (the seventh form; the later family's looks); each row that meets fmt, with fmt's text TOLD by the authors' own Lean function (tested against real Go, not proved from fmt's source: count such statements apart). THE CARD IS WHAT COUNTS. Prove the row's statement (the work); the ties are given (YtmkaboegdoadhaaGreatDoorTie.lean); close each card by the builder's one call (the guide's Derived/Test/ToyasCard.lean, 'card_holds'). Laid BY PROGRAM, IN A SANDBOX (cutbox-door.mjs). By AI agents, Wed Nov 11 2026. No macro, syntax, notation, axiom, sorry.
-/
import Derived.Test.YtmkaboegdoadhaaGreatDoorRows
import GoSem.ClaimSeven
namespace Go.Proofs.YtmkaboegdoadhaaGreatDoor
namespace Rows

/-- THE TIED CARD OF 'apodixislaw19.DefineNew'. -/
def defineNewCard : Claim7 := { stood := { row := defineNewRow, standIns := [], harness := (true, "fda95eac979074fe7312521db3636670d78c7c40b15a4574a5535667f3acbcc6"), looks := true }, kinds := [], alts := [], laidByText := true, laidKinds := [.widerDeep], laidTests := true, laidLooks := .later }
def DefineNewCardSaid : Prop := Claim7.holds Tryz.pinned (.plain (OpenSpec.ofChange defineNewSpec)) defineNewCard

/-- THE TIED CARD OF 'apodixislaw19.DefineRanks'. -/
def defineRanksCard : Claim7 := { stood := { row := defineRanksRow, standIns := [], harness := (true, "fda95eac979074fe7312521db3636670d78c7c40b15a4574a5535667f3acbcc6"), looks := true }, kinds := [], alts := [], laidByText := true, laidKinds := [.widerDeep], laidTests := true, laidLooks := .later }
def DefineRanksCardSaid : Prop := Claim7.holds Tryz.pinned (.plain (OpenSpec.ofChange defineRanksSpec)) defineRanksCard

/-- THE TIED CARD OF 'apodixislaw34.TruthCounters'. -/
def truthCountersCard : Claim7 := { stood := { row := truthCountersRow, standIns := [], harness := (true, "fda95eac979074fe7312521db3636670d78c7c40b15a4574a5535667f3acbcc6"), looks := true }, kinds := [], alts := [], laidByText := true, laidKinds := [.widerDeep], laidTests := true, laidLooks := .later }
def TruthCountersCardSaid : Prop := Claim7.holds Tryz.pinned (.plain (OpenSpec.ofChange truthCountersSpec)) truthCountersCard

/-- THE TIED CARD OF 'apodixislaw36.StructureAxioms'. -/
def structureAxiomsCard : Claim7 := { stood := { row := structureAxiomsRow, standIns := [], harness := (true, "fda95eac979074fe7312521db3636670d78c7c40b15a4574a5535667f3acbcc6"), looks := true }, kinds := [], alts := [], laidByText := true, laidKinds := [.widerDeep], laidTests := true, laidLooks := .later }
def StructureAxiomsCardSaid : Prop := Claim7.holds Tryz.pinned (.plain (OpenSpec.ofChange structureAxiomsSpec)) structureAxiomsCard

/-- THE TIED CARD OF 'apodixislaw34.TruthFound'. -/
def truthFoundCard : Claim7 := { stood := { row := truthFoundRow, standIns := [], harness := (true, "fda95eac979074fe7312521db3636670d78c7c40b15a4574a5535667f3acbcc6"), looks := true }, kinds := [], alts := [], laidByText := true, laidKinds := [.widerDeep], laidTests := true, laidLooks := .later }
def TruthFoundCardSaid : Prop := Claim7.holds Tryz.pinned (.plain (OpenSpec.ofChange truthFoundSpec)) truthFoundCard

/-- THE SECOND FORM's CARD OF 'apodixislaw19.DefineNew'. -/
def defineNewUptoCard : Claim7 := { stood := { row := defineNewUptoRow, standIns := [], harness := (true, "fda95eac979074fe7312521db3636670d78c7c40b15a4574a5535667f3acbcc6"), looks := true }, kinds := [], alts := [], laidByText := true, laidKinds := [.widerDeep], laidTests := true, laidLooks := .later }
def DefineNewUptoCardSaid : Prop := Claim7.holds Tryz.pinned (.plain (OpenSpec.upto defineNewSpec)) defineNewUptoCard

/-- THE SECOND FORM's CARD OF 'apodixislaw19.DefineRanks'. -/
def defineRanksUptoCard : Claim7 := { stood := { row := defineRanksUptoRow, standIns := [], harness := (true, "fda95eac979074fe7312521db3636670d78c7c40b15a4574a5535667f3acbcc6"), looks := true }, kinds := [], alts := [], laidByText := true, laidKinds := [.widerDeep], laidTests := true, laidLooks := .later }
def DefineRanksUptoCardSaid : Prop := Claim7.holds Tryz.pinned (.plain (OpenSpec.upto defineRanksSpec)) defineRanksUptoCard

/-- THE SECOND FORM's CARD OF 'apodixislaw34.TruthCounters'. -/
def truthCountersUptoCard : Claim7 := { stood := { row := truthCountersUptoRow, standIns := [], harness := (true, "fda95eac979074fe7312521db3636670d78c7c40b15a4574a5535667f3acbcc6"), looks := true }, kinds := [], alts := [], laidByText := true, laidKinds := [.widerDeep], laidTests := true, laidLooks := .later }
def TruthCountersUptoCardSaid : Prop := Claim7.holds Tryz.pinned (.plain (OpenSpec.upto truthCountersSpec)) truthCountersUptoCard

/-- THE SECOND FORM's CARD OF 'apodixislaw36.StructureAxioms'. -/
def structureAxiomsUptoCard : Claim7 := { stood := { row := structureAxiomsUptoRow, standIns := [], harness := (true, "fda95eac979074fe7312521db3636670d78c7c40b15a4574a5535667f3acbcc6"), looks := true }, kinds := [], alts := [], laidByText := true, laidKinds := [.widerDeep], laidTests := true, laidLooks := .later }
def StructureAxiomsUptoCardSaid : Prop := Claim7.holds Tryz.pinned (.plain (OpenSpec.upto structureAxiomsSpec)) structureAxiomsUptoCard

/-- THE SECOND FORM's CARD OF 'apodixislaw34.TruthFound'. -/
def truthFoundUptoCard : Claim7 := { stood := { row := truthFoundUptoRow, standIns := [], harness := (true, "fda95eac979074fe7312521db3636670d78c7c40b15a4574a5535667f3acbcc6"), looks := true }, kinds := [], alts := [], laidByText := true, laidKinds := [.widerDeep], laidTests := true, laidLooks := .later }
def TruthFoundUptoCardSaid : Prop := Claim7.holds Tryz.pinned (.plain (OpenSpec.upto truthFoundSpec)) truthFoundUptoCard
end Rows
end Go.Proofs.YtmkaboegdoadhaaGreatDoor
