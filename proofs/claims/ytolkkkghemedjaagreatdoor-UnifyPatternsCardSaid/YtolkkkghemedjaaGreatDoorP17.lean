/- A part of the proof; shortened by program. -/
import Derived.Test.YtolkkkghemedjaaGreatDoorRows
import Derived.JoinedOf
import Derived.Test.YtolkkkghemedjaaGreatDoorP05
set_option maxRecDepth 100000
set_option linter.unusedSimpArgs false
set_option linter.unusedVariables false
namespace Go.Proofs.YtolkkkghemedjaaGreatDoor
open Go
set_option maxRecDepth 100000
theorem Ha {a b : Bool} (h1 : a = true) (h2 : b = true) : (a && b) = true := by rw [h1, h2]; rfl
theorem Rw : (Rows.unifyPatternsRow.wf (OpenSpec.ofChange Rows.unifyPatternsSpec)) = true := by kernel_rfl
theorem Kt : (laidOutB Tryz.prog) = true := by kernel_rfl
theorem Rx : (mapsRowed Tryz.prog) = true := by kernel_rfl
theorem Ry : (Tryz.f3.params.all (Tryz.prog.readableRec ·)) = true := by kernel_rfl
theorem Rz : (namedTie Tryz.prog Rows.unifyPatternsRow.named Rows.unifyPatternsSpec.vars) = true := by kernel_rfl
theorem R0 : ((Rows.unifyPatternsRow.stops == [])) = true := by kernel_rfl
theorem R1 : ((Tryz.prog.stops == [])) = true := by kernel_rfl
theorem R2 : ((Rows.unifyPatternsRow.knobs == [])) = true := by kernel_rfl
theorem R3 : ((Tryz.prog.stopKnobs == [])) = true := by kernel_rfl
theorem R4 : ((Rows.unifyPatternsRow.inPlace == Tryz.prog.inPlace 3)) = true := by kernel_rfl
theorem Po : ((Rows.unifyPatternsRow.unfollowed == Tryz.prog.unfollowed 3)) = true := by kernel_rfl
theorem Pp : ((Rows.unifyPatternsRow.recurses == Tryz.prog.recurses 3)) = true := by kernel_rfl
theorem Pq : ((Rows.unifyPatternsRow.named == Tryz.prog.varsNamed 3)) = true := by kernel_rfl
theorem Ps : ((Rows.unifyPatternsRow.maps == (Tryz.f3.params.toList ++ Rows.unifyPatternsSpec.plain.varTypes Tryz.prog).any (Tryz.prog.mapsRec ·))) = true := by kernel_rfl
theorem Pw : ((Rows.unifyPatternsRow.ifaces == (Tryz.f3.params.toList ++ Rows.unifyPatternsSpec.plain.varTypes Tryz.prog).any (Tryz.prog.ifacesRec ·))) = true := by kernel_rfl
theorem Px : ((Rows.unifyPatternsRow.mapsOut == Tryz.prog.mapsAmong Tryz.f3.resultTypes.toList)) = true := by kernel_rfl
theorem Py : ((Rows.unifyPatternsRow.loops == (Tryz.f3.params.toList ++ Rows.unifyPatternsSpec.plain.varTypes Tryz.prog).any (Tryz.prog.loopsFrom ·))) = true := by kernel_rfl
theorem Pz : ((Rows.unifyPatternsRow.wideKeys == (Tryz.f3.params.toList ++ Rows.unifyPatternsSpec.plain.varTypes Tryz.prog ++ Tryz.f3.resultTypes.toList).any (Tryz.prog.wideKeysFrom ·))) = true := by kernel_rfl
theorem P0 : (Rows.unifyPatternsSpec.vars.all (Tryz.prog.varReadable ·)) = true := by kernel_rfl
theorem P2 : (Tryz.f3.resultTypes.all (fun t => Tryz.prog.readableRec t && decide (t < Tryz.prog.types.size))) = true := by kernel_rfl
theorem P3 : ((Rows.unifyPatternsRow.ifacesOut == Tryz.f3.resultTypes.toList.any (Tryz.prog.ifacesRec ·))) = true := by kernel_rfl
theorem P4 : ((Rows.unifyPatternsRow.loopsOut == Tryz.f3.resultTypes.toList.any (Tryz.prog.loopsFrom ·))) = true := by kernel_rfl
theorem P5 : ((Rows.unifyPatternsRow.plainKeys == Tryz.prog.plainKeys)) = true := by kernel_rfl
theorem P6 : (Rows.unifyPatternsRow.shortTexts.isNone) = true := by kernel_rfl
theorem P7 : (Tryz.prog.stopsHeard) = true := by kernel_rfl
theorem P8 : (Tryz.prog.mayEnter) = true := by kernel_rfl
theorem P9 : ((Rows.unifyPatternsRow.lifted == Tryz.prog.liftsFinal)) = true := by kernel_rfl
theorem Qa : ((Tryz.prog.make == some Rows.unifyPatternsRow.make)) = true := by kernel_rfl
theorem Qb : ((Rows.unifyPatternsRow.kinds == (if Rows.unifyPatternsRow.domain.isEmpty then [] else Tryz.f3.params.toList.map fun t => match Tryz.prog.underlying t with | some (.int k) => some k | _ => none))) = true := by kernel_rfl
theorem Qc : ((Rows.unifyPatternsRow.pinned == Rows.unifyPatternsRow.pinnedBy)) = true := by kernel_rfl
theorem Qd : ((Rows.unifyPatternsRow.veiled == (Tryz.f3.params.toList ++ Rows.unifyPatternsSpec.plain.varTypes Tryz.prog ++ Tryz.f3.resultTypes.toList).any (Tryz.prog.veiledRec ·))) = true := by kernel_rfl
theorem Qe : (Rows.unifyPatternsRow.veiledFits Tryz.prog Tryz.f3.params.toList (Tryz.f3.params.toList ++ Rows.unifyPatternsSpec.plain.varTypes Tryz.prog ++ Tryz.f3.resultTypes.toList)) = true := by kernel_rfl
theorem R5 : joinedFacts Tryz.prog 3 Tryz.f3 Rows.unifyPatternsSpec Rows.unifyPatternsRow = true :=
 Ha (Ha (Ha (Ha (Ha (Ha (Ha (Ha (Ha (Ha (Ha (Ha (Ha (Ha (Ha (Ha (Ha (Ha (Ha (Ha (Ha (Ha (Ha (Ha (Ha (Ha (Ha (Ha (Ha (Ha (Ha Rw Kt) Rx) Ry) Rz) R0) R1) R2) R3) R4) Po) Pp) Pq) Ps) Pw) Px) Py) Pz) P0) P2) P3) P4) P5) P6) P7) P8) P9) Qa) Qb) Qc) Qd) Qe
end Go.Proofs.YtolkkkghemedjaaGreatDoor
