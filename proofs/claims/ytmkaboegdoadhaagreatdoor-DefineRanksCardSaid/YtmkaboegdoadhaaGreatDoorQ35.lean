/- The law DefineRanks of apodixislaw19, row and tied card: for every database and rules it returns true and leaves its arguments as they read. The card ties the listed library variable to the program's text. -/
import Derived.Test.YtmkaboegdoadhaaGreatDoorCards
import Derived.Test.YtmkaboegdoadhaaGreatDoorTie
import Derived.Test.YtmkaboegdoadhaaGreatDoorQ31
import Derived.Test.YtmkaboegdoadhaaGreatDoorQ34
set_option maxRecDepth 100000
namespace Go.Proofs.YtmkaboegdoadhaaGreatDoor
open Go Go.AM Go.Proofs Go.ChangeShapes Go.WideShapes Go.ChangeAt Go.WideMaps Go.WideElems Go.RowKit
theorem law4(d:Db)(r:Rs)(σ:Sto):Cv 4 [dbV d,.agg (eRs r)] σ (.bool true):=
 f4 (fun h1=>⟨(Ac1 h1).1,(Ac1 h1).2.1,fun h3=>Atk h1 h3⟩) f10a σ
theorem own:ownKnob Tryz.prog.godebug=none:=Kr
theorem Atv(os:Os)(args:Array Value):laidMetH Tryz.prog Ac6 ((World.doorLaid Tryz.prog 400 os).forCall (fun _ _=>0) ⟨#[],args,[]⟩).memory:=
 laidMetH_of_parts3 (fuel:=8) (laidMet_of_run' 8 Kr Kr) Kr Kr
section
open Go.ChangeShapes
variable {H:Type}{enc:TypeId×Value->H}{P:Program}{w:World}{base:Nat}{spare:Nat->Bool}{kp:Bool}
theorem Akl{t0 t1:TypeId}{args:Array Value}{ds:List (DataW H)}{ps:List MemPlace}(h:DataW.TrodAll enc P w base spare kp [t0,t1] args.toList ds ps):
  ∃v0 v1 d0 d1 p0 p1,args=#[v0,v1]/\ds=[d0,d1]/\ps=p0++p1/\DataW.Trod enc P w base spare kp t0 v0 d0 p0/\DataW.Trod enc P w base spare kp t1 v1 d1 p1:=by
 obtain⟨v0,_,d0,_,p0,_,ha,rfl,rfl,h0,r0⟩:=trodAll_cons h;obtain⟨v1,_,d1,_,p1,_,rfl,rfl,rfl,h1,r1⟩:=trodAll_cons r0;obtain⟨rfl,rfl,rfl⟩:=trodAll_nil r1
 exact⟨v0,v1,d0,d1,p0,p1,by cases args;simp_all,rfl,by simp,h0,h1⟩
end
def Atw:Value:=.slice none 0 0
theorem Atx:laidOutB Tryz.prog=true:=Ax8
theorem Awt{H:Type}{enc:TypeId×Value->H}{t:TypeId}(hr:Tryz.prog.readableRec t=true)(sj:t<Tryz.prog.types.size){W W':World}{v:Value}{d:DataW H}{ps:List MemPlace}
  (h:DataW.Trod enc Tryz.prog W 0 (fun _=>true) true t v d ps)(hb:∀b,b<W.heap.size->W'.heap[b]? =W.heap[b]?)(hlt:∀x∈ps,x.block<W.heap.size):
  DataW.Trod enc Tryz.prog W' 0 (fun b=>decide (b<W.heap.size)) true t v d ps:=
 WideElems.Trod_stays Atx hr sj h (fun x hx=>by
  have hx:=hlt x hx;cases x with
  |cell b o=>exact World.cell?_of_block (w:=W) (hb b hx)
  |map b=>exact hb b hx) (fun x hx=>by simpa using hlt x hx)
theorem Aty{W W':World}(h1:W'.os=W.os)(h2:W'.output=W.output)(hb:∀b,b<W.heap.size->W'.heap[b]? =W.heap[b]?)(may:MemPlace->Prop):W.keptBut W' may:=by
 refine⟨h1,h2,fun i hi=>?_⟩
 rw[hb i hi]
 split<;>simp_all
theorem lifted(os:Os)(started:os.Started)(H:Type)(enc:TypeId×Value->H):
  ReturnsInHanded {} Tryz.checked os 4 .any (fun w args=>(Rows.defineRanksSpec.pre enc Tryz.prog Tryz.f4 [] false w args/\laidMetH Tryz.prog Ac6 w)/\sizedMet enc Tryz.prog Tryz.f4 (OpenSpec.ofChange Rows.defineRanksSpec) false w args)
   (Rows.defineRanksSpec.post enc Tryz.prog Tryz.f4 false true false false):=by
 refine returnsInHanded_of_change_and (C:=Tryz.checked) (X:=fun w _=>laidMetH Tryz.prog Ac6 w) (fun _ _ _ hh h=>h.of_heap hh) own started Kr Tryz.func4
  (ChangeSpec.witness_shaped (enc:=enc) (C:=Tryz.checked) (os:=os) (X:=fun w _=>laidMetH Tryz.prog Ac6 w) false (World.doorLaid Tryz.prog 400 os) #[.agg #[Atw,Atw,Atw],.agg #[Atw,Atw]] 8 rfl (World.shaped_of_RefB Kr Kr) Kr Kr Kr (Atv os _)) ?_
 intro W base args ds gs before o7 hW _ hsz hL _;have kq:∀(j:Nat) t v,Tryz.f4.params[j]? =some t->args[j]? =some v->Value.okWide Tryz.prog W .any base t v:=o7;have hW':=hW;obtain⟨p,q,hA0,hV,rfl,hfz,hnd⟩:=hW;have hA:DataW.TrodAll enc Tryz.prog W 0 (fun _=>true) true Tryz.f4.params.toList args.toList ds p:=hA0
 rw[Tryz.params4]at hA kq;obtain⟨v0,v1,d0,d1,p0,p1,rfl,rfl,rfl,h0,h1⟩:=Akl hA;obtain⟨rfl,rfl⟩:=trodVars_none hV;have hlt:=hW'.lt;rw[Tryz.params4]at hsz;obtain⟨d,r,hR⟩:=Atu (kq 0 25 v0 rfl rfl) (kq 1 27 v1 rfl rfl) h0 h1 hsz;simp only[List.append_nil]at hW' hlt;refine(Al1 (law4 d r ⟨.e,0⟩) (Av0 hL) hR).mono fun e W' ⟨he,_,hb,ho,hu⟩=>?_
 subst he
 have hl0:∀x∈p0,x.block<W.heap.size:=fun x hx=>hlt x (by simp[hx])
 have hl1:∀x∈p1,x.block<W.heap.size:=fun x hx=>hlt x (by simp[hx])
 refine⟨_,rfl,_,_,_,[],p0++p1,[],hW',?_,?_,rfl,Aty ho hu hb _,fun h=>by cases h⟩
 ·exact trodAll_mk1 (shut_bool ut4 _)
 ·exact trodAll_mk2 (Awt Kr (of_decide_eq_true Kr) h0 hb hl0) (Awt Kr (of_decide_eq_true Kr) h1 hb hl1)
theorem Ay8:Rows.DefineRanksSaid:=
 OpenClaim.holds_of_wide 4 Tryz.f4 rfl rfl rfl rfl rfl rfl rfl ⟨rfl,rfl,rfl,rfl,rfl⟩ rfl rfl rfl rfl rfl Kr Tryz.func4 Ay7
  (of_decide_eq_true Kr) (by unfold Func.isWrapper;first|(rw[if_pos (by decide+kernel)];kernel_rfl)|(rw[if_neg (by decide+kernel)];exact⟨rfl,rfl⟩))
  (fun os started H enc _=>lifted os started H enc)
theorem defineRanks_card:Rows.DefineRanksCardSaid:=
 Claim7.holds_tied_plain_at .later [] [.widerDeep] true (true, "fda95eac979074fe7312521db3636670d78c7c40b15a4574a5535667f3acbcc6") true
  Ay8 (fun _ h=>by cases h) Kr (fun _ h=>by cases h) defineRanks_row_tie rfl ⟨rfl,rfl⟩ Kr rfl
  (fun f fn hf hfn=>by
   obtain rfl:f=4:=Option.some.inj ((show Tryz.prog.funcNamed "apodixis/apodixislaw19.DefineRanks" =some 4 by kernel_rfl).symm.trans hf)|>.symm
   obtain rfl:fn=Tryz.f4:=(Option.some.inj (Tryz.func4.symm.trans hfn)).symm
   exact⟨by kernel_rfl,fun j t ht=>by
    rw[Tryz.params4]at ht
    have h3:t=25∨t=27:=by
     rcases j with _|_|j
     ·left;simpa using ht.symm
     ·right;simpa using ht.symm
     ·simp at ht
    rcases h3 with rfl|rfl
    ·exact(show Tryz.prog.wantsStandIn 25=false by kernel_rfl)
    ·exact(show Tryz.prog.wantsStandIn 27=false by kernel_rfl)⟩)
  Kr
#print axioms defineRanks_card
end Go.Proofs.YtmkaboegdoadhaaGreatDoor
