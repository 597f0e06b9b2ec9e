/- A part of the proof; shortened by program. -/
import Derived.Test.YtadnlmhnjfmleaaGreatDoorRows
import Derived.JoinedOf
import Derived.Test.YtadnlmhnjfmleaaGreatDoorP12
set_option maxRecDepth 100000
set_option maxHeartbeats 4000000
set_option linter.unusedSimpArgs false
set_option linter.unusedVariables false
namespace Go.Proofs.YtadnlmhnjfmleaaGreatDoor
open Go
theorem Hh {a b : Bool} (h1 : a = true) (h2 : b = true) : (a && b) = true := by rw [h1,h2]; rfl
theorem Ob : (Rows.structureObjectsRow.wf (OpenSpec.ofChange Rows.structureObjectsSpec)) = true := by kernel_rfl
theorem Ia : (laidOutB Tryz.prog) = true := by kernel_rfl
theorem Oc : (mapsRowed Tryz.prog) = true := by kernel_rfl
theorem Od : (Tryz.f3.params.all (Tryz.prog.readableRec ·)) = true := by kernel_rfl
theorem Oe : (namedTie Tryz.prog Rows.structureObjectsRow.named Rows.structureObjectsSpec.vars) = true := by kernel_rfl
theorem Og : ((Rows.structureObjectsRow.stops == [])) = true := by kernel_rfl
theorem Oh : ((Tryz.prog.stops == [])) = true := by kernel_rfl
theorem Oi : ((Rows.structureObjectsRow.knobs == [])) = true := by kernel_rfl
theorem Oj : ((Tryz.prog.stopKnobs == [])) = true := by kernel_rfl
theorem Ol : ((Rows.structureObjectsRow.inPlace == Tryz.prog.inPlace 3)) = true := by kernel_rfl
theorem Nh : ((Rows.structureObjectsRow.unfollowed == Tryz.prog.unfollowed 3)) = true := by kernel_rfl
theorem Ni : ((Rows.structureObjectsRow.recurses == Tryz.prog.recurses 3)) = true := by kernel_rfl
theorem Nj : ((Rows.structureObjectsRow.named == Tryz.prog.varsNamed 3)) = true := by kernel_rfl
theorem Nk : ((Rows.structureObjectsRow.maps == (Tryz.f3.params.toList ++ Rows.structureObjectsSpec.plain.varTypes Tryz.prog).any (Tryz.prog.mapsRec ·))) = true := by kernel_rfl
theorem Nl : ((Rows.structureObjectsRow.ifaces == (Tryz.f3.params.toList ++ Rows.structureObjectsSpec.plain.varTypes Tryz.prog).any (Tryz.prog.ifacesRec ·))) = true := by kernel_rfl
theorem Nm : ((Rows.structureObjectsRow.mapsOut == Tryz.prog.mapsAmong Tryz.f3.resultTypes.toList)) = true := by kernel_rfl
theorem Nn : ((Rows.structureObjectsRow.loops == (Tryz.f3.params.toList ++ Rows.structureObjectsSpec.plain.varTypes Tryz.prog).any (Tryz.prog.loopsFrom ·))) = true := by kernel_rfl
theorem No : ((Rows.structureObjectsRow.wideKeys == (Tryz.f3.params.toList ++ Rows.structureObjectsSpec.plain.varTypes Tryz.prog ++ Tryz.f3.resultTypes.toList).any (Tryz.prog.wideKeysFrom ·))) = true := by kernel_rfl
theorem Np : (Rows.structureObjectsSpec.vars.all (Tryz.prog.varReadable ·)) = true := by kernel_rfl
theorem Nq : (Tryz.f3.resultTypes.all (fun t => Tryz.prog.readableRec t && decide (t < Tryz.prog.types.size))) = true := by kernel_rfl
theorem Nr : ((Rows.structureObjectsRow.ifacesOut == Tryz.f3.resultTypes.toList.any (Tryz.prog.ifacesRec ·))) = true := by kernel_rfl
theorem Ns : ((Rows.structureObjectsRow.loopsOut == Tryz.f3.resultTypes.toList.any (Tryz.prog.loopsFrom ·))) = true := by kernel_rfl
theorem Nt : ((Rows.structureObjectsRow.plainKeys == Tryz.prog.plainKeys)) = true := by kernel_rfl
theorem Nu : (Rows.structureObjectsRow.shortTexts.isNone) = true := by kernel_rfl
theorem Nv : (Tryz.prog.stopsHeard) = true := by kernel_rfl
theorem Nw : (Tryz.prog.mayEnter) = true := by kernel_rfl
theorem Nx : ((Rows.structureObjectsRow.lifted == Tryz.prog.liftsFinal)) = true := by kernel_rfl
theorem Ny : ((Tryz.prog.make == some Rows.structureObjectsRow.make)) = true := by kernel_rfl
theorem Nz : ((Rows.structureObjectsRow.kinds == (if Rows.structureObjectsRow.domain.isEmpty then [] else Tryz.f3.params.toList.map fun t => match Tryz.prog.underlying t with | some (.int k) => some k | _ => none))) = true := by kernel_rfl
theorem N0 : ((Rows.structureObjectsRow.pinned == Rows.structureObjectsRow.pinnedBy)) = true := by kernel_rfl
theorem N1 : ((Rows.structureObjectsRow.veiled == (Tryz.f3.params.toList ++ Rows.structureObjectsSpec.plain.varTypes Tryz.prog ++ Tryz.f3.resultTypes.toList).any (Tryz.prog.veiledRec ·))) = true := by kernel_rfl
theorem N2 : (Rows.structureObjectsRow.veiledFits Tryz.prog Tryz.f3.params.toList (Tryz.f3.params.toList ++ Rows.structureObjectsSpec.plain.varTypes Tryz.prog ++ Tryz.f3.resultTypes.toList)) = true := by kernel_rfl
theorem Oo : joinedFacts Tryz.prog 3 Tryz.f3 Rows.structureObjectsSpec Rows.structureObjectsRow = true :=
 Hh (Hh (Hh (Hh (Hh (Hh (Hh (Hh (Hh (Hh (Hh (Hh (Hh (Hh (Hh (Hh (Hh (Hh (Hh (Hh (Hh (Hh (Hh (Hh (Hh (Hh (Hh (Hh (Hh (Hh (Hh Ob Ia) Oc) Od) Oe) Og) Oh) Oi) Oj) Ol) Nh) Ni) Nj) Nk) Nl) Nm) Nn) No) Np) Nq) Nr) Ns) Nt) Nu) Nv) Nw) Nx) Ny) Nz) N0) N1) N2
end Go.Proofs.YtadnlmhnjfmleaaGreatDoor
