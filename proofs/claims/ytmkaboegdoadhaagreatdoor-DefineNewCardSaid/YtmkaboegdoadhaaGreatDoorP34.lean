/- A part of the proof; shortened by program. -/
import Derived.Test.YtmkaboegdoadhaaGreatDoorRows
import Derived.JoinedOf
import Derived.Test.YtmkaboegdoadhaaGreatDoorP10
set_option maxRecDepth 100000
set_option maxHeartbeats 4000000
set_option linter.unusedSimpArgs false
set_option linter.unusedVariables false
namespace Go.Proofs.YtmkaboegdoadhaaGreatDoor
open Go
theorem Ib{a b:Bool}(h1:a=true)(h2:b=true):(a&&b)=true:=by rw[h1,h2];rfl
theorem Ac7:(Rows.defineNewRow.wf (OpenSpec.ofChange Rows.defineNewSpec))=true:=by kernel_rfl
theorem Q4:(laidOutB Tryz.prog)=true:=by kernel_rfl
theorem Ac8:(mapsRowed Tryz.prog)=true:=by kernel_rfl
theorem Ac9:(Tryz.f3.params.all (Tryz.prog.readableRec ·))=true:=by kernel_rfl
theorem Ada:(namedTie Tryz.prog Rows.defineNewRow.named Rows.defineNewSpec.vars)=true:=by kernel_rfl
theorem Adb:((Rows.defineNewRow.stops==[]))=true:=by kernel_rfl
theorem Adc:((Tryz.prog.stops==[]))=true:=by kernel_rfl
theorem Add:((Rows.defineNewRow.knobs==[]))=true:=by kernel_rfl
theorem Ade:((Tryz.prog.stopKnobs==[]))=true:=by kernel_rfl
theorem Adf:((Rows.defineNewRow.inPlace==Tryz.prog.inPlace 3))=true:=by kernel_rfl
theorem Y3:((Rows.defineNewRow.unfollowed==Tryz.prog.unfollowed 3))=true:=by kernel_rfl
theorem Y4:((Rows.defineNewRow.recurses==Tryz.prog.recurses 3))=true:=by kernel_rfl
theorem Y5:((Rows.defineNewRow.named==Tryz.prog.varsNamed 3))=true:=by kernel_rfl
theorem Y6:((Rows.defineNewRow.maps==(Tryz.f3.params.toList++Rows.defineNewSpec.plain.varTypes Tryz.prog).any (Tryz.prog.mapsRec ·)))=true:=by kernel_rfl
theorem Y7:((Rows.defineNewRow.ifaces==(Tryz.f3.params.toList++Rows.defineNewSpec.plain.varTypes Tryz.prog).any (Tryz.prog.ifacesRec ·)))=true:=by kernel_rfl
theorem Y8:((Rows.defineNewRow.mapsOut==Tryz.prog.mapsAmong Tryz.f3.resultTypes.toList))=true:=by kernel_rfl
theorem Za:((Rows.defineNewRow.loops==(Tryz.f3.params.toList++Rows.defineNewSpec.plain.varTypes Tryz.prog).any (Tryz.prog.loopsFrom ·)))=true:=by kernel_rfl
theorem Zb:((Rows.defineNewRow.wideKeys==(Tryz.f3.params.toList++Rows.defineNewSpec.plain.varTypes Tryz.prog++Tryz.f3.resultTypes.toList).any (Tryz.prog.wideKeysFrom ·)))=true:=by kernel_rfl
theorem Zc:(Rows.defineNewSpec.vars.all (Tryz.prog.varReadable ·))=true:=by kernel_rfl
theorem Zd:(Tryz.f3.resultTypes.all (fun t=>Tryz.prog.readableRec t&&decide (t<Tryz.prog.types.size)))=true:=by kernel_rfl
theorem Ze:((Rows.defineNewRow.ifacesOut==Tryz.f3.resultTypes.toList.any (Tryz.prog.ifacesRec ·)))=true:=by kernel_rfl
theorem Zf:((Rows.defineNewRow.loopsOut==Tryz.f3.resultTypes.toList.any (Tryz.prog.loopsFrom ·)))=true:=by kernel_rfl
theorem Zg:((Rows.defineNewRow.plainKeys==Tryz.prog.plainKeys))=true:=by kernel_rfl
theorem Zh:(Rows.defineNewRow.shortTexts.isNone)=true:=by kernel_rfl
theorem Zj:(Tryz.prog.stopsHeard)=true:=by kernel_rfl
theorem Zk:(Tryz.prog.mayEnter)=true:=by kernel_rfl
theorem Zl:((Rows.defineNewRow.lifted==Tryz.prog.liftsFinal))=true:=by kernel_rfl
theorem Zm:((Tryz.prog.make==some Rows.defineNewRow.make))=true:=by kernel_rfl
theorem Zn:((Rows.defineNewRow.kinds==(if Rows.defineNewRow.domain.isEmpty then[]else Tryz.f3.params.toList.map fun t=>match Tryz.prog.underlying t with|some (.int k)=>some k|_=>none)))=true:=by kernel_rfl
theorem Zo:((Rows.defineNewRow.pinned==Rows.defineNewRow.pinnedBy))=true:=by kernel_rfl
theorem Zp:((Rows.defineNewRow.veiled==(Tryz.f3.params.toList++Rows.defineNewSpec.plain.varTypes Tryz.prog++Tryz.f3.resultTypes.toList).any (Tryz.prog.veiledRec ·)))=true:=by kernel_rfl
theorem Zq:(Rows.defineNewRow.veiledFits Tryz.prog Tryz.f3.params.toList (Tryz.f3.params.toList++Rows.defineNewSpec.plain.varTypes Tryz.prog++Tryz.f3.resultTypes.toList))=true:=by kernel_rfl
theorem Adg:joinedFacts Tryz.prog 3 Tryz.f3 Rows.defineNewSpec Rows.defineNewRow=true:=
 Ib (Ib (Ib (Ib (Ib (Ib (Ib (Ib (Ib (Ib (Ib (Ib (Ib (Ib (Ib (Ib (Ib (Ib (Ib (Ib (Ib (Ib (Ib (Ib (Ib (Ib (Ib (Ib (Ib (Ib (Ib Ac7 Q4) Ac8) Ac9) Ada) Adb) Adc) Add) Ade) Adf) Y3) Y4) Y5) Y6) Y7) Y8) Za) Zb) Zc) Zd) Ze) Zf) Zg) Zh) Zj) Zk) Zl) Zm) Zn) Zo) Zp) Zq
end Go.Proofs.YtmkaboegdoadhaaGreatDoor
