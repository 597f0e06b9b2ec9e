/-
  NARROWER THAN 'FOR EVERY INPUT', by the rows' own cells (each row's printed sentence says how): DefineNew: laid · DefineRanks: laid · TruthCounters: laid · StructureAxioms: laid · TruthFound: laid.
  DERIVED. THE GIVEN ROWS OF THIS SEAT. 5 by the template 'for every input the law returns true; each argument reads behind the call as it read before'; 0 by the template 'total and deterministic' (their statements: YtmkaboegdoadhaaGreatDoorTotals.lean).
  GIVEN WITH THE SEED: the statements are not yours to turn. If you find one false, say at which input.
  Laid BY PROGRAM, IN A SANDBOX (cutbox-rows.mjs): the forced cells as the released guide's own fill.sh prints them over the translation f5a2b5ab65f3cec2… (all of the seat's roots in one cut). By AI agents, Wed Nov 11 2026. No macro, syntax, notation, axiom, sorry.
-/
import Derived.Test.YtmkaboegdoadhaaGreatDoorChecked
import GoSem.Claim
import GoSem.ClaimJoined
import GoSem.ClaimMapViews
import Derived.JoinedTies
import Derived.KernelRfl
namespace Go.Proofs.YtmkaboegdoadhaaGreatDoor
/- THE CELL 'sum', in the pinned program and in every row, IS THE sha256 OF THE DUMP (.gsa) THAT YtmkaboegdoadhaaGreatDoorProg.lean LOADS. Nothing in Lean hashes anything: it is a label: what it is worth is what the hold of that sum in a sandbox is worth. -/
noncomputable def Tryz.pinned : Pinned := { name := "ytmkaboegdoadhaagreatdoor", sum := "f5a2b5ab65f3cec28380131ba821bcf4d8a2326be4922e4e0ef02fcff8644bcf", checked := Tryz.checked }
namespace Rows
def none {H : Type} : Left H := { results := [], args := [] }

/- WHAT THE LISTED PACKAGE-LEVEL VARIABLES READ AS WHEN THE CALL BEGINS. Each datum BY PROGRAM (the guide's laid-datum.mjs) off the statement by which the dump's own 'gosem.cut.vars' lays the variable. In a bare row this is a premise. The card (YtmkaboegdoadhaaGreatDoorCards.lean) ties it to the program's text. -/
def laid_apodixis_layout_forms {H : Type} : DataW H := .agg [.agg [.lit (.string []), .lit (.bool false), .lit (.int .i64 0), .lit (.int .i64 0)], .agg [.lit (.string [36, 99]), .lit (.bool false), .lit (.int .i64 1), .lit (.int .i64 200)], .agg [.lit (.string [36, 118]), .lit (.bool false), .lit (.int .i64 1), .lit (.int .i64 200)], .agg [.lit (.string [36, 102]), .lit (.bool true), .lit (.int .i64 2), .lit (.int .i64 2)], .agg [.lit (.string [36, 101]), .lit (.bool true), .lit (.int .i64 1), .lit (.int .i64 200)], .agg [.lit (.string [36, 100]), .lit (.bool false), .lit (.int .i64 1), .lit (.int .i64 200)], .agg [.lit (.string [36, 97]), .lit (.bool true), .lit (.int .i64 1), .lit (.int .i64 200)], .agg [.lit (.string [36, 112]), .lit (.bool true), .lit (.int .i64 1), .lit (.int .i64 200)], .agg [.lit (.string [36, 123]), .lit (.bool false), .lit (.int .i64 0), .lit (.int .i64 0)], .agg [.lit (.string [36, 125]), .lit (.bool false), .lit (.int .i64 0), .lit (.int .i64 0)]]

/-- 'apodixislaw19.DefineNew': WHATEVER THE INPUT: true; the input reads as it did. -/
def defineNewSpec : ChangeSpec := { name := "defineNew", fn := fun _ => fun
  | [d1, d2] => { results := [.lit (.bool true)], args := [d1, d2] }
  | _ => none }
def defineNewRow : OpenClaim := { program := "ytmkaboegdoadhaagreatdoor", sum := "f5a2b5ab65f3cec28380131ba821bcf4d8a2326be4922e4e0ef02fcff8644bcf", func := "apodixis/apodixislaw19.DefineNew", spec := "defineNew", inPlace := ["internal/bytealg.abigen_runtime_cmpstring", "internal/bytealg.IndexByteString", "internal/bytealg.IndexString"], unfollowed := true, recurses := true, named := ["apodixis/layout.forms", "internal/bytealg.MaxLen"], plainKeys := false, apart := false, laid := [("apodixis/layout.forms", laid_apodixis_layout_forms)] }
def DefineNewSaid : Prop := defineNewRow.holds Tryz.pinned (OpenSpec.ofChange defineNewSpec)

/-- ITS FALSE NEIGHBOUR: 'it returns false'. Refute it at one input. -/
def defineNewWrong : ChangeSpec := { name := "defineNew", fn := fun _ => fun
  | [d1, d2] => { results := [.lit (.bool false)], args := [d1, d2] }
  | _ => none }
def DefineNewWrongFalsely : Prop := defineNewRow.holds Tryz.pinned (OpenSpec.ofChange defineNewWrong)

/-- 'apodixislaw19.DefineRanks': WHATEVER THE INPUT: true; the input reads as it did. -/
def defineRanksSpec : ChangeSpec := { name := "defineRanks", fn := fun _ => fun
  | [d1, d2] => { results := [.lit (.bool true)], args := [d1, d2] }
  | _ => none }
def defineRanksRow : OpenClaim := { program := "ytmkaboegdoadhaagreatdoor", sum := "f5a2b5ab65f3cec28380131ba821bcf4d8a2326be4922e4e0ef02fcff8644bcf", func := "apodixis/apodixislaw19.DefineRanks", spec := "defineRanks", inPlace := ["internal/bytealg.abigen_runtime_cmpstring", "internal/bytealg.IndexByteString", "internal/bytealg.IndexString"], unfollowed := true, recurses := true, named := ["apodixis/layout.forms", "internal/bytealg.MaxLen"], plainKeys := false, apart := false, laid := [("apodixis/layout.forms", laid_apodixis_layout_forms)] }
def DefineRanksSaid : Prop := defineRanksRow.holds Tryz.pinned (OpenSpec.ofChange defineRanksSpec)

/-- ITS FALSE NEIGHBOUR: 'it returns false'. Refute it at one input. -/
def defineRanksWrong : ChangeSpec := { name := "defineRanks", fn := fun _ => fun
  | [d1, d2] => { results := [.lit (.bool false)], args := [d1, d2] }
  | _ => none }
def DefineRanksWrongFalsely : Prop := defineRanksRow.holds Tryz.pinned (OpenSpec.ofChange defineRanksWrong)

/-- 'apodixislaw34.TruthCounters': WHATEVER THE INPUT: true; the input reads as it did. -/
def truthCountersSpec : ChangeSpec := { name := "truthCounters", fn := fun _ => fun
  | [d1, d2, d3, d4] => { results := [.lit (.bool true)], args := [d1, d2, d3, d4] }
  | _ => none }
def truthCountersRow : OpenClaim := { program := "ytmkaboegdoadhaagreatdoor", sum := "f5a2b5ab65f3cec28380131ba821bcf4d8a2326be4922e4e0ef02fcff8644bcf", func := "apodixis/apodixislaw34.TruthCounters", spec := "truthCounters", inPlace := ["internal/bytealg.abigen_runtime_cmpstring", "internal/bytealg.IndexByteString", "internal/bytealg.IndexString"], unfollowed := true, recurses := true, named := ["apodixis/layout.forms", "internal/bytealg.MaxLen"], plainKeys := false, apart := false, laid := [("apodixis/layout.forms", laid_apodixis_layout_forms)] }
def TruthCountersSaid : Prop := truthCountersRow.holds Tryz.pinned (OpenSpec.ofChange truthCountersSpec)

/-- ITS FALSE NEIGHBOUR: 'it returns false'. Refute it at one input. -/
def truthCountersWrong : ChangeSpec := { name := "truthCounters", fn := fun _ => fun
  | [d1, d2, d3, d4] => { results := [.lit (.bool false)], args := [d1, d2, d3, d4] }
  | _ => none }
def TruthCountersWrongFalsely : Prop := truthCountersRow.holds Tryz.pinned (OpenSpec.ofChange truthCountersWrong)

/-- 'apodixislaw36.StructureAxioms': WHATEVER THE INPUT: true; the input reads as it did. -/
def structureAxiomsSpec : ChangeSpec := { name := "structureAxioms", fn := fun _ => fun
  | [d1, d2, d3] => { results := [.lit (.bool true)], args := [d1, d2, d3] }
  | _ => none }
def structureAxiomsRow : OpenClaim := { program := "ytmkaboegdoadhaagreatdoor", sum := "f5a2b5ab65f3cec28380131ba821bcf4d8a2326be4922e4e0ef02fcff8644bcf", func := "apodixis/apodixislaw36.StructureAxioms", spec := "structureAxioms", inPlace := ["internal/bytealg.abigen_runtime_cmpstring", "internal/bytealg.IndexByteString", "internal/bytealg.IndexString"], unfollowed := true, recurses := true, named := ["apodixis/layout.forms", "internal/bytealg.MaxLen"], plainKeys := false, apart := false, laid := [("apodixis/layout.forms", laid_apodixis_layout_forms)] }
def StructureAxiomsSaid : Prop := structureAxiomsRow.holds Tryz.pinned (OpenSpec.ofChange structureAxiomsSpec)

/-- ITS FALSE NEIGHBOUR: 'it returns false'. Refute it at one input. -/
def structureAxiomsWrong : ChangeSpec := { name := "structureAxioms", fn := fun _ => fun
  | [d1, d2, d3] => { results := [.lit (.bool false)], args := [d1, d2, d3] }
  | _ => none }
def StructureAxiomsWrongFalsely : Prop := structureAxiomsRow.holds Tryz.pinned (OpenSpec.ofChange structureAxiomsWrong)

/-- 'apodixislaw34.TruthFound': WHATEVER THE INPUT: true; the input reads as it did. -/
def truthFoundSpec : ChangeSpec := { name := "truthFound", fn := fun _ => fun
  | [d1, d2, d3, d4, d5] => { results := [.lit (.bool true)], args := [d1, d2, d3, d4, d5] }
  | _ => none }
def truthFoundRow : OpenClaim := { program := "ytmkaboegdoadhaagreatdoor", sum := "f5a2b5ab65f3cec28380131ba821bcf4d8a2326be4922e4e0ef02fcff8644bcf", func := "apodixis/apodixislaw34.TruthFound", spec := "truthFound", inPlace := ["internal/bytealg.abigen_runtime_cmpstring", "internal/bytealg.IndexByteString", "internal/bytealg.IndexString"], unfollowed := true, recurses := true, named := ["apodixis/layout.forms", "internal/bytealg.MaxLen"], plainKeys := false, apart := false, laid := [("apodixis/layout.forms", laid_apodixis_layout_forms)] }
def TruthFoundSaid : Prop := truthFoundRow.holds Tryz.pinned (OpenSpec.ofChange truthFoundSpec)

/-- ITS FALSE NEIGHBOUR: 'it returns false'. Refute it at one input. -/
def truthFoundWrong : ChangeSpec := { name := "truthFound", fn := fun _ => fun
  | [d1, d2, d3, d4, d5] => { results := [.lit (.bool false)], args := [d1, d2, d3, d4, d5] }
  | _ => none }
def TruthFoundWrongFalsely : Prop := truthFoundRow.holds Tryz.pinned (OpenSpec.ofChange truthFoundWrong)

/- THE SECOND FORM. 'bulk': how many values and letters a reading holds, each counted each time it is reached (what is shared counts as often as it is met; a slice's spare places count too). A statement '..UptoSaid' is the law's where the arguments, and the package variables that the reading takes, are together of bulk at most 1048576: NARROWER than '..Said'. Prove '..Said' where nothing that the law and all that it calls make is longer than what came in: it says more and counts as full. Else prove '..UptoSaid'. A law counts once. -/
mutual
def uptoBulk {H : Type} : DataW H → Nat
  | .lit (.string bytes) => bytes.length + 1
  | .lit _ => 1
  | .nil => 1
  | .ptr d => uptoBulk d + 1
  | .slice elems spare => uptoBulkAll elems + uptoBulkAll spare + 1
  | .agg parts => uptoBulkAll parts + 1
  | .iface _ d => uptoBulk d + 1
  | .map entries => uptoBulkEntries entries + 1
  | .held _ => 1
def uptoBulkAll {H : Type} : List (DataW H) → Nat
  | [] => 0
  | d :: r => uptoBulk d + uptoBulkAll r
def uptoBulkEntries {H : Type} : List (Lit × DataW H) → Nat
  | [] => 0
  | x :: r => uptoBulkEntry x + uptoBulkEntries r
def uptoBulkEntry {H : Type} : Lit × DataW H → Nat
  | (.string bytes, d) => bytes.length + uptoBulk d + 1
  | (_, d) => uptoBulk d + 1
 end
def uptoSmall : (H : Type) → List (DataW H) → Bool := fun _ ds => decide (uptoBulkAll ds ≤ 1048576)
def OpenSpec.upto (s : _root_.Go.ChangeSpec) : _root_.Go.OpenSpec := { _root_.Go.OpenSpec.ofChange s with cond := some uptoSmall }

/-- 'apodixislaw19.DefineNew', WHERE WHAT IT READS IS OF BULK AT MOST 1048576: true; the input reads as it did. -/
def defineNewUptoRow : OpenClaim := { program := "ytmkaboegdoadhaagreatdoor", sum := "f5a2b5ab65f3cec28380131ba821bcf4d8a2326be4922e4e0ef02fcff8644bcf", func := "apodixis/apodixislaw19.DefineNew", spec := "defineNew", inPlace := ["internal/bytealg.abigen_runtime_cmpstring", "internal/bytealg.IndexByteString", "internal/bytealg.IndexString"], unfollowed := true, recurses := true, named := ["apodixis/layout.forms", "internal/bytealg.MaxLen"], plainKeys := false, apart := false, laid := [("apodixis/layout.forms", laid_apodixis_layout_forms)], narrowed := true }
def DefineNewUptoSaid : Prop := defineNewUptoRow.holds Tryz.pinned (OpenSpec.upto defineNewSpec)

/-- 'apodixislaw19.DefineRanks', WHERE WHAT IT READS IS OF BULK AT MOST 1048576: true; the input reads as it did. -/
def defineRanksUptoRow : OpenClaim := { program := "ytmkaboegdoadhaagreatdoor", sum := "f5a2b5ab65f3cec28380131ba821bcf4d8a2326be4922e4e0ef02fcff8644bcf", func := "apodixis/apodixislaw19.DefineRanks", spec := "defineRanks", inPlace := ["internal/bytealg.abigen_runtime_cmpstring", "internal/bytealg.IndexByteString", "internal/bytealg.IndexString"], unfollowed := true, recurses := true, named := ["apodixis/layout.forms", "internal/bytealg.MaxLen"], plainKeys := false, apart := false, laid := [("apodixis/layout.forms", laid_apodixis_layout_forms)], narrowed := true }
def DefineRanksUptoSaid : Prop := defineRanksUptoRow.holds Tryz.pinned (OpenSpec.upto defineRanksSpec)

/-- 'apodixislaw34.TruthCounters', WHERE WHAT IT READS IS OF BULK AT MOST 1048576: true; the input reads as it did. -/
def truthCountersUptoRow : OpenClaim := { program := "ytmkaboegdoadhaagreatdoor", sum := "f5a2b5ab65f3cec28380131ba821bcf4d8a2326be4922e4e0ef02fcff8644bcf", func := "apodixis/apodixislaw34.TruthCounters", spec := "truthCounters", inPlace := ["internal/bytealg.abigen_runtime_cmpstring", "internal/bytealg.IndexByteString", "internal/bytealg.IndexString"], unfollowed := true, recurses := true, named := ["apodixis/layout.forms", "internal/bytealg.MaxLen"], plainKeys := false, apart := false, laid := [("apodixis/layout.forms", laid_apodixis_layout_forms)], narrowed := true }
def TruthCountersUptoSaid : Prop := truthCountersUptoRow.holds Tryz.pinned (OpenSpec.upto truthCountersSpec)

/-- 'apodixislaw36.StructureAxioms', WHERE WHAT IT READS IS OF BULK AT MOST 1048576: true; the input reads as it did. -/
def structureAxiomsUptoRow : OpenClaim := { program := "ytmkaboegdoadhaagreatdoor", sum := "f5a2b5ab65f3cec28380131ba821bcf4d8a2326be4922e4e0ef02fcff8644bcf", func := "apodixis/apodixislaw36.StructureAxioms", spec := "structureAxioms", inPlace := ["internal/bytealg.abigen_runtime_cmpstring", "internal/bytealg.IndexByteString", "internal/bytealg.IndexString"], unfollowed := true, recurses := true, named := ["apodixis/layout.forms", "internal/bytealg.MaxLen"], plainKeys := false, apart := false, laid := [("apodixis/layout.forms", laid_apodixis_layout_forms)], narrowed := true }
def StructureAxiomsUptoSaid : Prop := structureAxiomsUptoRow.holds Tryz.pinned (OpenSpec.upto structureAxiomsSpec)

/-- 'apodixislaw34.TruthFound', WHERE WHAT IT READS IS OF BULK AT MOST 1048576: true; the input reads as it did. -/
def truthFoundUptoRow : OpenClaim := { program := "ytmkaboegdoadhaagreatdoor", sum := "f5a2b5ab65f3cec28380131ba821bcf4d8a2326be4922e4e0ef02fcff8644bcf", func := "apodixis/apodixislaw34.TruthFound", spec := "truthFound", inPlace := ["internal/bytealg.abigen_runtime_cmpstring", "internal/bytealg.IndexByteString", "internal/bytealg.IndexString"], unfollowed := true, recurses := true, named := ["apodixis/layout.forms", "internal/bytealg.MaxLen"], plainKeys := false, apart := false, laid := [("apodixis/layout.forms", laid_apodixis_layout_forms)], narrowed := true }
def TruthFoundUptoSaid : Prop := truthFoundUptoRow.holds Tryz.pinned (OpenSpec.upto truthFoundSpec)

end Rows
end Go.Proofs.YtmkaboegdoadhaaGreatDoor
