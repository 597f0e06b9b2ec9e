/- A part of the proof; shortened by program. -/
import Derived.Test.YtmkaboegdoadhaaGreatDoorRows
import Derived.JoinedOf
import Derived.KernelRfl
import Derived.Test.YtmkaboegdoadhaaGreatDoorQ10
set_option maxRecDepth 100000
set_option maxHeartbeats 4000000
set_option linter.unusedSimpArgs false
set_option linter.unusedVariables false
namespace Go.Proofs.YtmkaboegdoadhaaGreatDoor
open Go
theorem Ib{a b:Bool}(h1:a=true)(h2:b=true):(a&&b)=true:=by rw[h1,h2];rfl
theorem A0c:(Rows.truthCountersRow.wf (OpenSpec.ofChange Rows.truthCountersSpec))=true:=by kernel_rfl
theorem Ay0:(laidOutB Tryz.prog)=true:=by kernel_rfl
theorem A0d:(mapsRowed Tryz.prog)=true:=by kernel_rfl
theorem A0e:(Tryz.f5.params.all (Tryz.prog.readableRec ·))=true:=by kernel_rfl
theorem A0f:(namedTie Tryz.prog Rows.truthCountersRow.named Rows.truthCountersSpec.vars)=true:=by kernel_rfl
theorem A0g:((Rows.truthCountersRow.stops==[]))=true:=by kernel_rfl
theorem A0h:((Tryz.prog.stops==[]))=true:=by kernel_rfl
theorem A0i:((Rows.truthCountersRow.knobs==[]))=true:=by kernel_rfl
theorem A0j:((Tryz.prog.stopKnobs==[]))=true:=by kernel_rfl
theorem A0k:((Rows.truthCountersRow.inPlace==Tryz.prog.inPlace 5))=true:=by kernel_rfl
theorem Azm:((Rows.truthCountersRow.unfollowed==Tryz.prog.unfollowed 5))=true:=by kernel_rfl
theorem Azn:((Rows.truthCountersRow.recurses==Tryz.prog.recurses 5))=true:=by kernel_rfl
theorem Azo:((Rows.truthCountersRow.named==Tryz.prog.varsNamed 5))=true:=by kernel_rfl
theorem Azp:((Rows.truthCountersRow.maps==(Tryz.f5.params.toList++Rows.truthCountersSpec.plain.varTypes Tryz.prog).any (Tryz.prog.mapsRec ·)))=true:=by kernel_rfl
theorem Azq:((Rows.truthCountersRow.ifaces==(Tryz.f5.params.toList++Rows.truthCountersSpec.plain.varTypes Tryz.prog).any (Tryz.prog.ifacesRec ·)))=true:=by kernel_rfl
theorem Azr:((Rows.truthCountersRow.mapsOut==Tryz.prog.mapsAmong Tryz.f5.resultTypes.toList))=true:=by kernel_rfl
theorem Azs:((Rows.truthCountersRow.loops==(Tryz.f5.params.toList++Rows.truthCountersSpec.plain.varTypes Tryz.prog).any (Tryz.prog.loopsFrom ·)))=true:=by kernel_rfl
theorem Azt:((Rows.truthCountersRow.wideKeys==(Tryz.f5.params.toList++Rows.truthCountersSpec.plain.varTypes Tryz.prog++Tryz.f5.resultTypes.toList).any (Tryz.prog.wideKeysFrom ·)))=true:=by kernel_rfl
theorem Azu:(Rows.truthCountersSpec.vars.all (Tryz.prog.varReadable ·))=true:=by kernel_rfl
theorem Azv:(Tryz.f5.resultTypes.all (fun t=>Tryz.prog.readableRec t&&decide (t<Tryz.prog.types.size)))=true:=by kernel_rfl
theorem Azw:((Rows.truthCountersRow.ifacesOut==Tryz.f5.resultTypes.toList.any (Tryz.prog.ifacesRec ·)))=true:=by kernel_rfl
theorem Azx:((Rows.truthCountersRow.loopsOut==Tryz.f5.resultTypes.toList.any (Tryz.prog.loopsFrom ·)))=true:=by kernel_rfl
theorem Azy:((Rows.truthCountersRow.plainKeys==Tryz.prog.plainKeys))=true:=by kernel_rfl
theorem Azz:(Rows.truthCountersRow.shortTexts.isNone)=true:=by kernel_rfl
theorem Az0:(Tryz.prog.stopsHeard)=true:=by kernel_rfl
theorem Az1:(Tryz.prog.mayEnter)=true:=by kernel_rfl
theorem Az2:((Rows.truthCountersRow.lifted==Tryz.prog.liftsFinal))=true:=by kernel_rfl
theorem Az3:((Tryz.prog.make==some Rows.truthCountersRow.make))=true:=by kernel_rfl
theorem Az4:((Rows.truthCountersRow.kinds==(if Rows.truthCountersRow.domain.isEmpty then[]else Tryz.f5.params.toList.map fun t=>match Tryz.prog.underlying t with|some (.int k)=>some k|_=>none)))=true:=by kernel_rfl
theorem Az5:((Rows.truthCountersRow.pinned==Rows.truthCountersRow.pinnedBy))=true:=by kernel_rfl
theorem Az6:((Rows.truthCountersRow.veiled==(Tryz.f5.params.toList++Rows.truthCountersSpec.plain.varTypes Tryz.prog++Tryz.f5.resultTypes.toList).any (Tryz.prog.veiledRec ·)))=true:=by kernel_rfl
theorem Az7:(Rows.truthCountersRow.veiledFits Tryz.prog Tryz.f5.params.toList (Tryz.f5.params.toList++Rows.truthCountersSpec.plain.varTypes Tryz.prog++Tryz.f5.resultTypes.toList))=true:=by kernel_rfl
theorem A0l:joinedFacts Tryz.prog 5 Tryz.f5 Rows.truthCountersSpec Rows.truthCountersRow=true:=
 Ib (Ib (Ib (Ib (Ib (Ib (Ib (Ib (Ib (Ib (Ib (Ib (Ib (Ib (Ib (Ib (Ib (Ib (Ib (Ib (Ib (Ib (Ib (Ib (Ib (Ib (Ib (Ib (Ib (Ib (Ib A0c Ay0) A0d) A0e) A0f) A0g) A0h) A0i) A0j) A0k) Azm) Azn) Azo) Azp) Azq) Azr) Azs) Azt) Azu) Azv) Azw) Azx) Azy) Azz) Az0) Az1) Az2) Az3) Az4) Az5) Az6) Az7
end Go.Proofs.YtmkaboegdoadhaaGreatDoor
