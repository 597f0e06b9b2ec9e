/- A part. -/
import Derived.Test.YtmkaboegdoadhaaGreatDoorRows
import Derived.JoinedOf
import Derived.KernelRfl
import Derived.Test.YtmkaboegdoadhaaGreatDoorW07
set_option maxRecDepth 100000
namespace Go.Proofs.YtmkaboegdoadhaaGreatDoor
open Go
noncomputable abbrev q:=Rows.truthFoundRow
noncomputable abbrev s:=Rows.truthFoundSpec
noncomputable abbrev g:=Tryz.prog
theorem Ib{a b:Bool}(h1:a=true)(h2:b=true):(a&&b)=true:=by rw[h1,h2];rfl
theorem A6u:(q.wf (OpenSpec.ofChange s))=true:=by kernel_rfl
theorem A51:(laidOutB g)=true:=by kernel_rfl
theorem A6v:(mapsRowed g)=true:=by kernel_rfl
theorem A6w:(Tryz.f7.params.all (g.readableRec ·))=true:=by kernel_rfl
theorem A6x:(namedTie g q.named s.vars)=true:=by kernel_rfl
theorem A6y:((q.stops==[]))=true:=by kernel_rfl
theorem A6z:((g.stops==[]))=true:=by kernel_rfl
theorem A60:((q.knobs==[]))=true:=by kernel_rfl
theorem A61:((g.stopKnobs==[]))=true:=by kernel_rfl
theorem A62:((q.inPlace==g.inPlace 7))=true:=by kernel_rfl
theorem A57:((q.unfollowed==g.unfollowed 7))=true:=by kernel_rfl
theorem A58:((q.recurses==g.recurses 7))=true:=by kernel_rfl
theorem A59:((q.named==g.varsNamed 7))=true:=by kernel_rfl
theorem A6a:((q.maps==(Tryz.f7.params.toList++s.plain.varTypes g).any (g.mapsRec ·)))=true:=by kernel_rfl
theorem A6b:((q.ifaces==(Tryz.f7.params.toList++s.plain.varTypes g).any (g.ifacesRec ·)))=true:=by kernel_rfl
theorem A6c:((q.mapsOut==g.mapsAmong Tryz.f7.resultTypes.toList))=true:=by kernel_rfl
theorem A6d:((q.loops==(Tryz.f7.params.toList++s.plain.varTypes g).any (g.loopsFrom ·)))=true:=by kernel_rfl
theorem A6e:((q.wideKeys==(Tryz.f7.params.toList++s.plain.varTypes g++Tryz.f7.resultTypes.toList).any (g.wideKeysFrom ·)))=true:=by kernel_rfl
theorem A6f:(s.vars.all (g.varReadable ·))=true:=by kernel_rfl
theorem A6g:(Tryz.f7.resultTypes.all (fun t=>g.readableRec t&&decide (t<g.types.size)))=true:=by kernel_rfl
theorem A6h:((q.ifacesOut==Tryz.f7.resultTypes.toList.any (g.ifacesRec ·)))=true:=by kernel_rfl
theorem A6i:((q.loopsOut==Tryz.f7.resultTypes.toList.any (g.loopsFrom ·)))=true:=by kernel_rfl
theorem A6j:((q.plainKeys==g.plainKeys))=true:=by kernel_rfl
theorem A6k:(q.shortTexts.isNone)=true:=by kernel_rfl
theorem A6l:(g.stopsHeard)=true:=by kernel_rfl
theorem A6m:(g.mayEnter)=true:=by kernel_rfl
theorem A6n:((q.lifted==g.liftsFinal))=true:=by kernel_rfl
theorem A6o:((g.make==some q.make))=true:=by kernel_rfl
theorem A6p:((q.kinds==(if q.domain.isEmpty then[]else Tryz.f7.params.toList.map fun t=>match g.underlying t with|some (.int k)=>some k|_=>none)))=true:=by kernel_rfl
theorem A6q:((q.pinned==q.pinnedBy))=true:=by kernel_rfl
theorem A6r:((q.veiled==(Tryz.f7.params.toList++s.plain.varTypes g++Tryz.f7.resultTypes.toList).any (g.veiledRec ·)))=true:=by kernel_rfl
theorem A6s:(q.veiledFits g Tryz.f7.params.toList (Tryz.f7.params.toList++s.plain.varTypes g++Tryz.f7.resultTypes.toList))=true:=by kernel_rfl
theorem A63:joinedFacts Tryz.prog 7 Tryz.f7 Rows.truthFoundSpec Rows.truthFoundRow=true:=
 Ib (Ib (Ib (Ib (Ib (Ib (Ib (Ib (Ib (Ib (Ib (Ib (Ib (Ib (Ib (Ib (Ib (Ib (Ib (Ib (Ib (Ib (Ib (Ib (Ib (Ib (Ib (Ib (Ib (Ib (Ib A6u A51) A6v) A6w) A6x) A6y) A6z) A60) A61) A62) A57) A58) A59) A6a) A6b) A6c) A6d) A6e) A6f) A6g) A6h) A6i) A6j) A6k) A6l) A6m) A6n) A6o) A6p) A6q) A6r) A6s
end Go.Proofs.YtmkaboegdoadhaaGreatDoor
