/- A part. -/
import Derived.Test.YtmkaboegdoadhaaGreatDoorRows
import Derived.JoinedOf
import Derived.Test.YtmkaboegdoadhaaGreatDoorQ13
set_option maxRecDepth 100000
namespace Go.Proofs.YtmkaboegdoadhaaGreatDoor
open Go Go.AM
theorem Ib{a b:Bool}(h1:a=true)(h2:b=true):(a&&b)=true:=by rw[h1,h2];rfl
theorem Ayy:(Rows.defineRanksRow.wf (OpenSpec.ofChange Rows.defineRanksSpec))=true:=Kr
theorem Ax8:(laidOutB Tryz.prog)=true:=Kr
theorem Ayz:(mapsRowed Tryz.prog)=true:=Kr
theorem Ay0:(Tryz.f4.params.all (Tryz.prog.readableRec ·))=true:=Kr
theorem Ay1:(namedTie Tryz.prog Rows.defineRanksRow.named Rows.defineRanksSpec.vars)=true:=Kr
theorem Ay2:((Rows.defineRanksRow.stops==[]))=true:=Kr
theorem Ay3:((Tryz.prog.stops==[]))=true:=Kr
theorem Ay4:((Rows.defineRanksRow.knobs==[]))=true:=Kr
theorem Ay5:((Tryz.prog.stopKnobs==[]))=true:=Kr
theorem Ay6:((Rows.defineRanksRow.inPlace==Tryz.prog.inPlace 4))=true:=Kr
theorem Ayb:((Rows.defineRanksRow.unfollowed==Tryz.prog.unfollowed 4))=true:=Kr
theorem Ayc:((Rows.defineRanksRow.recurses==Tryz.prog.recurses 4))=true:=Kr
theorem Ayd:((Rows.defineRanksRow.named==Tryz.prog.varsNamed 4))=true:=Kr
theorem Aye:((Rows.defineRanksRow.maps==(Tryz.f4.params.toList++Rows.defineRanksSpec.plain.varTypes Tryz.prog).any (Tryz.prog.mapsRec ·)))=true:=Kr
theorem Ayf:((Rows.defineRanksRow.ifaces==(Tryz.f4.params.toList++Rows.defineRanksSpec.plain.varTypes Tryz.prog).any (Tryz.prog.ifacesRec ·)))=true:=Kr
theorem Ayg:((Rows.defineRanksRow.mapsOut==Tryz.prog.mapsAmong Tryz.f4.resultTypes.toList))=true:=Kr
theorem Ayh:((Rows.defineRanksRow.loops==(Tryz.f4.params.toList++Rows.defineRanksSpec.plain.varTypes Tryz.prog).any (Tryz.prog.loopsFrom ·)))=true:=Kr
theorem Ayi:((Rows.defineRanksRow.wideKeys==(Tryz.f4.params.toList++Rows.defineRanksSpec.plain.varTypes Tryz.prog++Tryz.f4.resultTypes.toList).any (Tryz.prog.wideKeysFrom ·)))=true:=Kr
theorem Ayj:(Rows.defineRanksSpec.vars.all (Tryz.prog.varReadable ·))=true:=Kr
theorem Ayk:(Tryz.f4.resultTypes.all (fun t=>Tryz.prog.readableRec t&&decide (t<Tryz.prog.types.size)))=true:=Kr
theorem Ayl:((Rows.defineRanksRow.ifacesOut==Tryz.f4.resultTypes.toList.any (Tryz.prog.ifacesRec ·)))=true:=Kr
theorem Aym:((Rows.defineRanksRow.loopsOut==Tryz.f4.resultTypes.toList.any (Tryz.prog.loopsFrom ·)))=true:=Kr
theorem Ayn:((Rows.defineRanksRow.plainKeys==Tryz.prog.plainKeys))=true:=Kr
theorem Ayo:(Rows.defineRanksRow.shortTexts.isNone)=true:=Kr
theorem Ayp:(Tryz.prog.stopsHeard)=true:=Kr
theorem Ayq:(Tryz.prog.mayEnter)=true:=Kr
theorem Ayr:((Rows.defineRanksRow.lifted==Tryz.prog.liftsFinal))=true:=Kr
theorem Ays:((Tryz.prog.make==some Rows.defineRanksRow.make))=true:=Kr
theorem Ayt:((Rows.defineRanksRow.kinds==(if Rows.defineRanksRow.domain.isEmpty then[]else Tryz.f4.params.toList.map fun t=>match Tryz.prog.underlying t with|some (.int k)=>some k|_=>none)))=true:=Kr
theorem Ayu:((Rows.defineRanksRow.pinned==Rows.defineRanksRow.pinnedBy))=true:=Kr
theorem Ayv:((Rows.defineRanksRow.veiled==(Tryz.f4.params.toList++Rows.defineRanksSpec.plain.varTypes Tryz.prog++Tryz.f4.resultTypes.toList).any (Tryz.prog.veiledRec ·)))=true:=Kr
theorem Ayw:(Rows.defineRanksRow.veiledFits Tryz.prog Tryz.f4.params.toList (Tryz.f4.params.toList++Rows.defineRanksSpec.plain.varTypes Tryz.prog++Tryz.f4.resultTypes.toList))=true:=Kr
theorem Ay7:joinedFacts Tryz.prog 4 Tryz.f4 Rows.defineRanksSpec Rows.defineRanksRow=true:=
 Ib (Ib (Ib (Ib (Ib (Ib (Ib (Ib (Ib (Ib (Ib (Ib (Ib (Ib (Ib (Ib (Ib (Ib (Ib (Ib (Ib (Ib (Ib (Ib (Ib (Ib (Ib (Ib (Ib (Ib (Ib Ayy Ax8) Ayz) Ay0) Ay1) Ay2) Ay3) Ay4) Ay5) Ay6) Ayb) Ayc) Ayd) Aye) Ayf) Ayg) Ayh) Ayi) Ayj) Ayk) Ayl) Aym) Ayn) Ayo) Ayp) Ayq) Ayr) Ays) Ayt) Ayu) Ayv) Ayw
end Go.Proofs.YtmkaboegdoadhaaGreatDoor
