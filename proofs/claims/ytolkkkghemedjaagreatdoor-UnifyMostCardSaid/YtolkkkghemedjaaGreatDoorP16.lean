/- Closed facts of the row; shortened by program. -/
import Derived.JoinedOf
import Derived.Test.YtolkkkghemedjaaGreatDoorCards
import Derived.Test.YtolkkkghemedjaaGreatDoorTie
import Derived.Test.YtolkkkghemedjaaGreatDoorP14
set_option maxRecDepth 100000
set_option maxHeartbeats 4000000
set_option linter.unusedSimpArgs false
set_option linter.unusedVariables false
namespace Go.Proofs.YtolkkkghemedjaaGreatDoor
open Go
theorem Hq {a b : Bool} (h1 : a = true) (h2 : b = true) : (a && b) = true := by rw [h1,h2]; rfl
theorem Aa0 : (Rows.unifyMostRow.wf (OpenSpec.ofChange Rows.unifyMostSpec)) = true := AM.Kr
theorem Pa : (laidOutB Tryz.prog) = true := AM.Kr
theorem Aa1 : (mapsRowed Tryz.prog) = true := AM.Kr
theorem Aa2 : (Tryz.f4.params.all (Tryz.prog.readableRec ·)) = true := AM.Kr
theorem Aa3 : (namedTie Tryz.prog Rows.unifyMostRow.named Rows.unifyMostSpec.vars) = true := AM.Kr
theorem Aa4 : ((Rows.unifyMostRow.stops == [])) = true := AM.Kr
theorem Aa5 : ((Tryz.prog.stops == [])) = true := AM.Kr
theorem Aa6 : ((Rows.unifyMostRow.knobs == [])) = true := AM.Kr
theorem Aa7 : ((Tryz.prog.stopKnobs == [])) = true := AM.Kr
theorem Aa8 : ((Rows.unifyMostRow.inPlace == Tryz.prog.inPlace 4)) = true := AM.Kr
theorem Wt : ((Rows.unifyMostRow.unfollowed == Tryz.prog.unfollowed 4)) = true := AM.Kr
theorem Wu : ((Rows.unifyMostRow.recurses == Tryz.prog.recurses 4)) = true := AM.Kr
theorem Wv : ((Rows.unifyMostRow.named == Tryz.prog.varsNamed 4)) = true := AM.Kr
theorem Ww : ((Rows.unifyMostRow.maps == (Tryz.f4.params.toList ++ Rows.unifyMostSpec.plain.varTypes Tryz.prog).any (Tryz.prog.mapsRec ·))) = true := AM.Kr
theorem Wy : ((Rows.unifyMostRow.ifaces == (Tryz.f4.params.toList ++ Rows.unifyMostSpec.plain.varTypes Tryz.prog).any (Tryz.prog.ifacesRec ·))) = true := AM.Kr
theorem Wz : ((Rows.unifyMostRow.mapsOut == Tryz.prog.mapsAmong Tryz.f4.resultTypes.toList)) = true := AM.Kr
theorem W2 : ((Rows.unifyMostRow.loops == (Tryz.f4.params.toList ++ Rows.unifyMostSpec.plain.varTypes Tryz.prog).any (Tryz.prog.loopsFrom ·))) = true := AM.Kr
theorem W3 : ((Rows.unifyMostRow.wideKeys == (Tryz.f4.params.toList ++ Rows.unifyMostSpec.plain.varTypes Tryz.prog ++ Tryz.f4.resultTypes.toList).any (Tryz.prog.wideKeysFrom ·))) = true := AM.Kr
theorem W4 : (Rows.unifyMostSpec.vars.all (Tryz.prog.varReadable ·)) = true := AM.Kr
theorem W5 : (Tryz.f4.resultTypes.all (fun t => Tryz.prog.readableRec t && decide (t < Tryz.prog.types.size))) = true := AM.Kr
theorem W6 : ((Rows.unifyMostRow.ifacesOut == Tryz.f4.resultTypes.toList.any (Tryz.prog.ifacesRec ·))) = true := AM.Kr
theorem W7 : ((Rows.unifyMostRow.loopsOut == Tryz.f4.resultTypes.toList.any (Tryz.prog.loopsFrom ·))) = true := AM.Kr
theorem W8 : ((Rows.unifyMostRow.plainKeys == Tryz.prog.plainKeys)) = true := AM.Kr
theorem W9 : (Rows.unifyMostRow.shortTexts.isNone) = true := AM.Kr
theorem Xa : (Tryz.prog.stopsHeard) = true := AM.Kr
theorem Xb : (Tryz.prog.mayEnter) = true := AM.Kr
theorem Xc : ((Rows.unifyMostRow.lifted == Tryz.prog.liftsFinal)) = true := AM.Kr
theorem Xd : ((Tryz.prog.make == some Rows.unifyMostRow.make)) = true := AM.Kr
theorem Xe : ((Rows.unifyMostRow.kinds == (if Rows.unifyMostRow.domain.isEmpty then [] else Tryz.f4.params.toList.map fun t => match Tryz.prog.underlying t with | some (.int k) => some k | _ => none))) = true := AM.Kr
theorem Xg : ((Rows.unifyMostRow.pinned == Rows.unifyMostRow.pinnedBy)) = true := AM.Kr
theorem Xh : ((Rows.unifyMostRow.veiled == (Tryz.f4.params.toList ++ Rows.unifyMostSpec.plain.varTypes Tryz.prog ++ Tryz.f4.resultTypes.toList).any (Tryz.prog.veiledRec ·))) = true := AM.Kr
theorem Xi : (Rows.unifyMostRow.veiledFits Tryz.prog Tryz.f4.params.toList (Tryz.f4.params.toList ++ Rows.unifyMostSpec.plain.varTypes Tryz.prog ++ Tryz.f4.resultTypes.toList)) = true := AM.Kr
theorem Aa9 : joinedFacts Tryz.prog 4 Tryz.f4 Rows.unifyMostSpec Rows.unifyMostRow = true :=
 Hq (Hq (Hq (Hq (Hq (Hq (Hq (Hq (Hq (Hq (Hq (Hq (Hq (Hq (Hq (Hq (Hq (Hq (Hq (Hq (Hq (Hq (Hq (Hq (Hq (Hq (Hq (Hq (Hq (Hq (Hq Aa0 Pa) Aa1) Aa2) Aa3) Aa4) Aa5) Aa6) Aa7) Aa8) Wt) Wu) Wv) Ww) Wy) Wz) W2) W3) W4) W5) W6) W7) W8) W9) Xa) Xb) Xc) Xd) Xe) Xg) Xh) Xi
end Go.Proofs.YtolkkkghemedjaaGreatDoor
