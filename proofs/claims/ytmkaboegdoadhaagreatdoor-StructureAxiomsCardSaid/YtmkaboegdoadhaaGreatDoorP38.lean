/- A part of the proof; shortened by program. -/
import Derived.Test.YtmkaboegdoadhaaGreatDoorRows
import Derived.JoinedOf
import Derived.KernelRfl
import Derived.Test.YtmkaboegdoadhaaGreatDoorP13
set_option maxRecDepth 100000
set_option maxHeartbeats 4000000
set_option linter.all false
namespace Go.Proofs.YtmkaboegdoadhaaGreatDoor
open Go
open Go.AM (Kr)
theorem Ib{a b:Bool}(h1:a=true)(h2:b=true):(a&&b)=true:=by rw[h1,h2];rfl
theorem A9w:(Rows.structureAxiomsRow.wf (OpenSpec.ofChange Rows.structureAxiomsSpec))=true:=Kr
theorem NN:(laidOutB Tryz.prog)=true:=Kr
theorem VT:(mapsRowed Tryz.prog)=true:=Kr
theorem YW:(Tryz.f6.params.all (Tryz.prog.readableRec ·))=true:=Kr
theorem A9z:(namedTie Tryz.prog Rows.structureAxiomsRow.named Rows.structureAxiomsSpec.vars)=true:=Kr
theorem XB:((Rows.structureAxiomsRow.stops==[]))=true:=Kr
theorem Ys:((Tryz.prog.stops==[]))=true:=Kr
theorem A92:((Rows.structureAxiomsRow.knobs==[]))=true:=Kr
theorem A93:((Tryz.prog.stopKnobs==[]))=true:=Kr
theorem XY:((Rows.structureAxiomsRow.inPlace==Tryz.prog.inPlace 6))=true:=Kr
theorem A88:((Rows.structureAxiomsRow.unfollowed==Tryz.prog.unfollowed 6))=true:=Kr
theorem V0:((Rows.structureAxiomsRow.recurses==Tryz.prog.recurses 6))=true:=Kr
theorem YV:((Rows.structureAxiomsRow.named==Tryz.prog.varsNamed 6))=true:=Kr
theorem A9b:((Rows.structureAxiomsRow.maps==(Tryz.f6.params.toList++Rows.structureAxiomsSpec.plain.varTypes Tryz.prog).any (Tryz.prog.mapsRec ·)))=true:=Kr
theorem ZB:((Rows.structureAxiomsRow.ifaces==(Tryz.f6.params.toList++Rows.structureAxiomsSpec.plain.varTypes Tryz.prog).any (Tryz.prog.ifacesRec ·)))=true:=Kr
theorem A9d:((Rows.structureAxiomsRow.mapsOut==Tryz.prog.mapsAmong Tryz.f6.resultTypes.toList))=true:=Kr
theorem Z':((Rows.structureAxiomsRow.loops==(Tryz.f6.params.toList++Rows.structureAxiomsSpec.plain.varTypes Tryz.prog).any (Tryz.prog.loopsFrom ·)))=true:=Kr
theorem A9f:((Rows.structureAxiomsRow.wideKeys==(Tryz.f6.params.toList++Rows.structureAxiomsSpec.plain.varTypes Tryz.prog++Tryz.f6.resultTypes.toList).any (Tryz.prog.wideKeysFrom ·)))=true:=Kr
theorem YO:(Rows.structureAxiomsSpec.vars.all (Tryz.prog.varReadable ·))=true:=Kr
theorem YJ:(Tryz.f6.resultTypes.all (λt=>Tryz.prog.readableRec t&&decide (t<Tryz.prog.types.size)))=true:=Kr
theorem SA:((Rows.structureAxiomsRow.ifacesOut==Tryz.f6.resultTypes.toList.any (Tryz.prog.ifacesRec ·)))=true:=Kr
theorem A9j:((Rows.structureAxiomsRow.loopsOut==Tryz.f6.resultTypes.toList.any (Tryz.prog.loopsFrom ·)))=true:=Kr
theorem Vw:((Rows.structureAxiomsRow.plainKeys==Tryz.prog.plainKeys))=true:=Kr
theorem XW:(Rows.structureAxiomsRow.shortTexts.isNone)=true:=Kr
theorem SR:(Tryz.prog.stopsHeard)=true:=Kr
theorem SK:(Tryz.prog.mayEnter)=true:=Kr
theorem XO:((Rows.structureAxiomsRow.lifted==Tryz.prog.liftsFinal))=true:=Kr
theorem A9p:((Tryz.prog.make==some Rows.structureAxiomsRow.make))=true:=Kr
theorem A9q:((Rows.structureAxiomsRow.kinds==(if Rows.structureAxiomsRow.domain.isEmpty then[]else Tryz.f6.params.toList.map λt=>match Tryz.prog.underlying t with|some (.int k)=>some k|_=>none)))=true:=Kr
theorem Sw:((Rows.structureAxiomsRow.pinned==Rows.structureAxiomsRow.pinnedBy))=true:=Kr
theorem VW:((Rows.structureAxiomsRow.veiled==(Tryz.f6.params.toList++Rows.structureAxiomsSpec.plain.varTypes Tryz.prog++Tryz.f6.resultTypes.toList).any (Tryz.prog.veiledRec ·)))=true:=Kr
theorem Ψ:(Rows.structureAxiomsRow.veiledFits Tryz.prog Tryz.f6.params.toList (Tryz.f6.params.toList++Rows.structureAxiomsSpec.plain.varTypes Tryz.prog++Tryz.f6.resultTypes.toList))=true:=Kr
theorem UI:joinedFacts Tryz.prog 6 Tryz.f6 Rows.structureAxiomsSpec Rows.structureAxiomsRow=true:=
 Ib (Ib (Ib (Ib (Ib (Ib (Ib (Ib (Ib (Ib (Ib (Ib (Ib (Ib (Ib (Ib (Ib (Ib (Ib (Ib (Ib (Ib (Ib (Ib (Ib (Ib (Ib (Ib (Ib (Ib (Ib A9w NN) VT) YW) A9z) XB) Ys) A92) A93) XY) A88) V0) YV) A9b) ZB) A9d) Z') A9f) YO) YJ) SA) A9j) Vw) XW) SR) SK) XO) A9p) A9q) Sw) VW) Ψ
end Go.Proofs.YtmkaboegdoadhaaGreatDoor
