/- The law StructureAxioms of apodixislaw36, its row and its tied card: for all arguments it returns true and leaves them as they read. The card ties the listed variable of the library to the program's text; nothing else is assumed. -/
import Derived.Test.YtmkaboegdoadhaaGreatDoorCards
import Derived.Test.YtmkaboegdoadhaaGreatDoorTie
import Derived.Test.YtmkaboegdoadhaaGreatDoorP37
import Derived.Test.YtmkaboegdoadhaaGreatDoorP38
set_option maxRecDepth 100000
set_option maxHeartbeats 4000000
set_option linter.all false
namespace Go.Proofs.YtmkaboegdoadhaaGreatDoor
open Go Go.AM Go.Proofs Go.ChangeShapes Go.WideShapes Go.ChangeAt Go.WideMaps Go.WideElems Go.RowKit
theorem own:ownKnob Tryz.prog.godebug=none:=Kr
theorem SQ(a:Os)(J:Array Value):laidMetH Tryz.prog wB ((World.doorLaid Tryz.prog 400 a).forCall (λ_ _=>0) ⟨#[],J,[]⟩).memory:=
 laidMetH_of_parts3 (fuel:=8) (laidMet_of_run' 8 Kr Kr) Kr Kr
section
open Go.ChangeShapes
variable {H:Type}{enc:TypeId×Value->H}{P:Program}{w:World}{base:Nat}{spare:Nat->Bool}{kp:Bool}
theorem Bbg{m n o:TypeId}{J:Array Value}{l:List (DataW H)}{k:List MemPlace}(h:DataW.TrodAll enc P w base spare kp [m,n,o] J.toList l k):
  ∃g i j a b c d e f,J=#[g,i,j]/\l=[a,b,c]/\k=d++e++f/\DataW.Trod enc P w base spare kp m g a d/\DataW.Trod enc P w base spare kp n i b e/\DataW.Trod enc P w base spare kp o j c f:=by
 obtain⟨g,_,a,_,d,_,v,rfl,rfl,p,s⟩:=trodAll_cons h;obtain⟨i,_,b,_,e,_,rfl,rfl,rfl,q,t⟩:=trodAll_cons s;obtain⟨j,_,c,_,f,_,rfl,rfl,rfl,r,u⟩:=trodAll_cons t;obtain⟨rfl,rfl,rfl⟩:=trodAll_nil u
 exact⟨g,i,j,a,b,c,d,e,f,by cases J;simp_all,rfl,by simp,p,q,r⟩
end
def yk:Value:=.slice none 0 0
theorem ο:laidOutB Tryz.prog=true:=NN
theorem AU{e:Type}{c:TypeId×Value->e}{t:TypeId}(g:Tryz.prog.readableRec t=true)(i:t<Tryz.prog.types.size){W f:World}{v:Value}{d:DataW e}{k:List MemPlace}
  (h:DataW.Trod c Tryz.prog W 0 (λ_=>true) true t v d k)(Q:∀b,b<W.heap.size->f.heap[b]? =W.heap[b]?)(R:∀x∈k,x.block<W.heap.size):
  DataW.Trod c Tryz.prog f 0 (λb=>decide (b<W.heap.size)) true t v d k:=
 WideElems.Trod_stays ο g i h (λx a=>by
  have a:=R x a;cases x with
  |cell b o=>exact World.cell?_of_block (w:=W) (Q b a)
  |map b=>exact Q b a) (λx a=>by simpa using R x a)
theorem Aty{W a:World}(u:a.os=W.os)(r:a.output=W.output)(Q:∀b,b<W.heap.size->a.heap[b]? =W.heap[b]?)(c:MemPlace->Prop):W.keptBut a c:=by
 refine⟨u,r,λi d=>?_⟩
 rw[Q i d]
 split<;>simp_all
theorem lifted(os:Os)(b:os.Started)(R:Type)(enc:TypeId×Value->R):
  ReturnsInHanded {} Tryz.checked os 6 .any (λw a=>(Rows.structureAxiomsSpec.pre enc Tryz.prog Tryz.f6 [] false w a/\laidMetH Tryz.prog wB w)/\sizedMet enc Tryz.prog Tryz.f6 (OpenSpec.ofChange Rows.structureAxiomsSpec) false w a)
   (Rows.structureAxiomsSpec.post enc Tryz.prog Tryz.f6 false true false false):=by
 refine returnsInHanded_of_change_and (C:=Tryz.checked) (X:=λw _=>laidMetH Tryz.prog wB w) (λ_ _ _ hh h=>h.of_heap hh) own b Kr Tryz.func6
  (ChangeSpec.witness_shaped (enc:=enc) (C:=Tryz.checked) (os:=os) (X:=λw _=>laidMetH Tryz.prog wB w) false (World.doorLaid Tryz.prog 400 os) #[.agg #[yk,yk,yk],.agg #[.int .i64 0,yk,yk],.int .u8 0] 8 rfl (World.shaped_of_RefB Kr Kr) Kr Kr Kr (SQ os _)) ?_
 intro W g a S gs m o7 L _ i T _;have o:∀(j:Nat) t v,Tryz.f6.params[j]? =some t->a[j]? =some v->Value.okWide Tryz.prog W .any g t v:=o7;have f:=L;obtain⟨p,q,r,hV,rfl,a7,a8⟩:=L;have K:DataW.TrodAll enc Tryz.prog W 0 (λ_=>true) true Tryz.f6.params.toList a.toList S p:=r
 rw[Tryz.params6]at K o;obtain⟨v0,v1,v2,d0,d1,d2,N,P,Q,rfl,rfl,rfl,E,G,J⟩:=Bbg K;obtain⟨rfl,rfl⟩:=trodVars_none hV;have c:=f.lt;rw[Tryz.params6]at i;obtain⟨d,s,k,hk,U⟩:=YL (o 0 25 v0 rfl rfl) (o 1 81 v1 rfl rfl) (o 2 5 v2 rfl rfl) E G J i;simp only[List.append_nil]at f c;refine(XZ (DY d s k hk ⟨.e,0⟩) (Zj T) U).mono λe W' ⟨he,_,n,ho,hu⟩=>?_
 subst he
 have u:∀x∈N,x.block<W.heap.size:=λx l=>c x (by simp[l])
 have y:∀x∈P,x.block<W.heap.size:=λx l=>c x (by simp[l])
 have B:∀x∈Q,x.block<W.heap.size:=λx l=>c x (by simp[l])
 refine⟨_,rfl,_,_,_,[],N++(P++Q),[],f,?_,?_,rfl,Aty ho hu n _,λh=>by cases h⟩
 ·exact trodAll_mk1 (shut_bool zO _)
 ·exact trodAll_mk3 (AU Kr (of_decide_eq_true Kr) E n u) (AU Kr (of_decide_eq_true Kr) G n y) (AU Kr (of_decide_eq_true Kr) J n B)
theorem Bad:Rows.StructureAxiomsSaid:=
 OpenClaim.holds_of_wide 6 Tryz.f6 rfl rfl rfl rfl rfl rfl rfl ⟨rfl,rfl,rfl,rfl,rfl⟩ rfl rfl rfl rfl rfl Kr Tryz.func6 UI
  (of_decide_eq_true Kr) (by unfold Func.isWrapper;first|(rw[if_pos (by decide+kernel)];kernel_rfl)|(rw[if_neg (by decide+kernel)];exact⟨rfl,rfl⟩))
  (λd a c b _=>lifted d a c b)
theorem structureAxioms_card:Rows.StructureAxiomsCardSaid:=
 Claim7.holds_tied_plain_at .later [] [.widerDeep] true (true, "fda95eac979074fe7312521db3636670d78c7c40b15a4574a5535667f3acbcc6") true
  Bad (λ_ h=>by cases h) Kr (λ_ h=>by cases h) structureAxioms_row_tie rfl ⟨rfl,rfl⟩ Kr rfl
  (λf c e b=>by
   obtain rfl:f=6:=Option.some.inj ((show Tryz.prog.funcNamed "apodixis/apodixislaw36.StructureAxioms" =some 6 by kernel_rfl).symm.trans e)|>.symm
   obtain rfl:c=Tryz.f6:=(Option.some.inj (Tryz.func6.symm.trans b)).symm
   exact⟨by kernel_rfl,λj t a=>by
    rw[Tryz.params6]at a
    have d:t=25\/t=81\/t=5:=by
     rcases j with _|_|_|j
     ·left;simpa using a.symm
     ·right;left;simpa using a.symm
     ·right;right;simpa using a.symm
     ·simp at a
    rcases d with rfl|rfl|rfl
    ·exact(show Tryz.prog.wantsStandIn 25=false by kernel_rfl)
    ·exact(show Tryz.prog.wantsStandIn 81=false by kernel_rfl)
    ·exact(show Tryz.prog.wantsStandIn 5=false by kernel_rfl)⟩)
  Kr
#print axioms structureAxioms_card
end Go.Proofs.YtmkaboegdoadhaaGreatDoor
