/- A part of the proof; shortened by program. -/
import Derived.Test.YtcnkdbldfpaebaaGreatDoorRows
import Derived.JoinedOf
import Derived.Test.YtcnkdbldfpaebaaGreatDoorP14
set_option maxRecDepth 100000
set_option maxHeartbeats 4000000
set_option linter.unusedSimpArgs false
set_option linter.unusedVariables false
namespace Go.Proofs.YtcnkdbldfpaebaaGreatDoor
open Go
theorem Hm {a b : Bool} (h1 : a = true) (h2 : b = true) : (a && b) = true := by rw [h1,h2]; rfl
theorem O7 : (Rows.truthSubstitutesRow.wf (OpenSpec.ofChange Rows.truthSubstitutesSpec)) = true := by kernel_rfl
theorem Iu : (laidOutB Tryz.prog) = true := by kernel_rfl
theorem O8 : (mapsRowed Tryz.prog) = true := by kernel_rfl
theorem O9 : (Tryz.f3.params.all (Tryz.prog.readableRec ·)) = true := by kernel_rfl
theorem Pa : (namedTie Tryz.prog Rows.truthSubstitutesRow.named Rows.truthSubstitutesSpec.vars) = true := by kernel_rfl
theorem Pb : ((Rows.truthSubstitutesRow.stops == [])) = true := by kernel_rfl
theorem Pc : ((Tryz.prog.stops == [])) = true := by kernel_rfl
theorem Pd : ((Rows.truthSubstitutesRow.knobs == [])) = true := by kernel_rfl
theorem Pe : ((Tryz.prog.stopKnobs == [])) = true := by kernel_rfl
theorem Pf : ((Rows.truthSubstitutesRow.inPlace == Tryz.prog.inPlace 3)) = true := by kernel_rfl
theorem N1 : ((Rows.truthSubstitutesRow.unfollowed == Tryz.prog.unfollowed 3)) = true := by kernel_rfl
theorem N2 : ((Rows.truthSubstitutesRow.recurses == Tryz.prog.recurses 3)) = true := by kernel_rfl
theorem N3 : ((Rows.truthSubstitutesRow.named == Tryz.prog.varsNamed 3)) = true := by kernel_rfl
theorem N4 : ((Rows.truthSubstitutesRow.maps == (Tryz.f3.params.toList ++ Rows.truthSubstitutesSpec.plain.varTypes Tryz.prog).any (Tryz.prog.mapsRec ·))) = true := by kernel_rfl
theorem N5 : ((Rows.truthSubstitutesRow.ifaces == (Tryz.f3.params.toList ++ Rows.truthSubstitutesSpec.plain.varTypes Tryz.prog).any (Tryz.prog.ifacesRec ·))) = true := by kernel_rfl
theorem N6 : ((Rows.truthSubstitutesRow.mapsOut == Tryz.prog.mapsAmong Tryz.f3.resultTypes.toList)) = true := by kernel_rfl
theorem N7 : ((Rows.truthSubstitutesRow.loops == (Tryz.f3.params.toList ++ Rows.truthSubstitutesSpec.plain.varTypes Tryz.prog).any (Tryz.prog.loopsFrom ·))) = true := by kernel_rfl
theorem N8 : ((Rows.truthSubstitutesRow.wideKeys == (Tryz.f3.params.toList ++ Rows.truthSubstitutesSpec.plain.varTypes Tryz.prog ++ Tryz.f3.resultTypes.toList).any (Tryz.prog.wideKeysFrom ·))) = true := by kernel_rfl
theorem N9 : (Rows.truthSubstitutesSpec.vars.all (Tryz.prog.varReadable ·)) = true := by kernel_rfl
theorem Oa : (Tryz.f3.resultTypes.all (fun t => Tryz.prog.readableRec t && decide (t < Tryz.prog.types.size))) = true := by kernel_rfl
theorem Ob : ((Rows.truthSubstitutesRow.ifacesOut == Tryz.f3.resultTypes.toList.any (Tryz.prog.ifacesRec ·))) = true := by kernel_rfl
theorem Oc : ((Rows.truthSubstitutesRow.loopsOut == Tryz.f3.resultTypes.toList.any (Tryz.prog.loopsFrom ·))) = true := by kernel_rfl
theorem Od : ((Rows.truthSubstitutesRow.plainKeys == Tryz.prog.plainKeys)) = true := by kernel_rfl
theorem Oe : (Rows.truthSubstitutesRow.shortTexts.isNone) = true := by kernel_rfl
theorem Og : (Tryz.prog.stopsHeard) = true := by kernel_rfl
theorem Oh : (Tryz.prog.mayEnter) = true := by kernel_rfl
theorem Oi : ((Rows.truthSubstitutesRow.lifted == Tryz.prog.liftsFinal)) = true := by kernel_rfl
theorem Oj : ((Tryz.prog.make == some Rows.truthSubstitutesRow.make)) = true := by kernel_rfl
theorem Ok : ((Rows.truthSubstitutesRow.kinds == (if Rows.truthSubstitutesRow.domain.isEmpty then [] else Tryz.f3.params.toList.map fun t => match Tryz.prog.underlying t with | some (.int k) => some k | _ => none))) = true := by kernel_rfl
theorem Ol : ((Rows.truthSubstitutesRow.pinned == Rows.truthSubstitutesRow.pinnedBy)) = true := by kernel_rfl
theorem Oo : ((Rows.truthSubstitutesRow.veiled == (Tryz.f3.params.toList ++ Rows.truthSubstitutesSpec.plain.varTypes Tryz.prog ++ Tryz.f3.resultTypes.toList).any (Tryz.prog.veiledRec ·))) = true := by kernel_rfl
theorem Oq : (Rows.truthSubstitutesRow.veiledFits Tryz.prog Tryz.f3.params.toList (Tryz.f3.params.toList ++ Rows.truthSubstitutesSpec.plain.varTypes Tryz.prog ++ Tryz.f3.resultTypes.toList)) = true := by kernel_rfl
theorem Pg : joinedFacts Tryz.prog 3 Tryz.f3 Rows.truthSubstitutesSpec Rows.truthSubstitutesRow = true :=
 Hm (Hm (Hm (Hm (Hm (Hm (Hm (Hm (Hm (Hm (Hm (Hm (Hm (Hm (Hm (Hm (Hm (Hm (Hm (Hm (Hm (Hm (Hm (Hm (Hm (Hm (Hm (Hm (Hm (Hm (Hm O7 Iu) O8) O9) Pa) Pb) Pc) Pd) Pe) Pf) N1) N2) N3) N4) N5) N6) N7) N8) N9) Oa) Ob) Oc) Od) Oe) Og) Oh) Oi) Oj) Ok) Ol) Oo) Oq
end Go.Proofs.YtcnkdbldfpaebaaGreatDoor
