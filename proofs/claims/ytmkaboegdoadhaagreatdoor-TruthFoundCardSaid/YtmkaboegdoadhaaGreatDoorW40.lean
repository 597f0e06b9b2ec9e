/- The law TruthFound of apodixislaw34, its row and its tied card: it returns true for all arguments and leaves them as they read; nothing is assumed. -/
import Derived.Test.YtmkaboegdoadhaaGreatDoorCards
import Derived.Test.YtmkaboegdoadhaaGreatDoorTie
import Derived.Test.YtmkaboegdoadhaaGreatDoorW34
import Derived.Test.YtmkaboegdoadhaaGreatDoorW39
set_option maxRecDepth 100000
set_option maxHeartbeats 4000000
set_option linter.unusedSimpArgs false
set_option linter.unusedVariables false
namespace Go.Proofs.YtmkaboegdoadhaaGreatDoor
open Go Go.AM Go.Proofs Go.ChangeShapes Go.WideShapes Go.ChangeAt Go.WideMaps Go.WideElems Go.RowKit
theorem own:ownKnob Tryz.prog.godebug=none:=Kr
theorem Atv(os:Os)(args:Array Value):laidMetH Tryz.prog Ac6 ((World.doorLaid Tryz.prog 400 os).forCall (fun _ _=>0) ⟨#[],args,[]⟩).memory:=
 laidMetH_of_parts3 (fuel:=8) (laidMet_of_run' 8 Kr Kr) Kr Kr
section
open Go.ChangeShapes
variable {H:Type}{enc:TypeId×Value->H}{P:Program}{w:World}{base:Nat}{spare:Nat->Bool}{kp:Bool}
theorem A7a{t0 t1 t2 t3 t4:TypeId}{args:Array Value}{ds:List (DataW H)}{ps:List MemPlace}(h:DataW.TrodAll enc P w base spare kp [t0,t1,t2,t3,t4] args.toList ds ps):
  ∃v0 v1 v2 v3 v4 d0 d1 d2 d3 d4 p0 p1 p2 p3 p4,args=#[v0,v1,v2,v3,v4]/\ds=[d0,d1,d2,d3,d4]/\ps=p0++p1++p2++p3++p4/\DataW.Trod enc P w base spare kp t0 v0 d0 p0/\DataW.Trod enc P w base spare kp t1 v1 d1 p1/\DataW.Trod enc P w base spare kp t2 v2 d2 p2/\DataW.Trod enc P w base spare kp t3 v3 d3 p3/\DataW.Trod enc P w base spare kp t4 v4 d4 p4:=by
 obtain⟨v0,_,d0,_,p0,_,ha,rfl,rfl,h0,r0⟩:=trodAll_cons h;obtain⟨v1,_,d1,_,p1,_,rfl,rfl,rfl,h1,r1⟩:=trodAll_cons r0;obtain⟨v2,_,d2,_,p2,_,rfl,rfl,rfl,h2,r2⟩:=trodAll_cons r1;obtain⟨v3,_,d3,_,p3,_,rfl,rfl,rfl,h3,r3⟩:=trodAll_cons r2;obtain⟨v4,_,d4,_,p4,_,rfl,rfl,rfl,h4,r4⟩:=trodAll_cons r3;obtain⟨rfl,rfl,rfl⟩:=trodAll_nil r4
 exact⟨v0,v1,v2,v3,v4,d0,d1,d2,d3,d4,p0,p1,p2,p3,p4,by cases args;simp_all,rfl,by simp,h0,h1,h2,h3,h4⟩
theorem A7f{t0 t1 t2 t3 t4:TypeId}{v0 v1 v2 v3 v4:Value}{d0 d1 d2 d3 d4:DataW H}{p0 p1 p2 p3 p4:List MemPlace}(h0:DataW.Trod enc P w base spare kp t0 v0 d0 p0)(h1:DataW.Trod enc P w base spare kp t1 v1 d1 p1)(h2:DataW.Trod enc P w base spare kp t2 v2 d2 p2)(h3:DataW.Trod enc P w base spare kp t3 v3 d3 p3)(h4:DataW.Trod enc P w base spare kp t4 v4 d4 p4):
  DataW.TrodAll enc P w base spare kp [t0,t1,t2,t3,t4] [v0,v1,v2,v3,v4] [d0,d1,d2,d3,d4] (p0++(p1++(p2++(p3++p4)))):=⟨p0,_,h0,trodAll_mk4 h1 h2 h3 h4,rfl⟩
end
def Atw:Value:=.slice none 0 0
theorem Atx:laidOutB Tryz.prog=true:=A51
theorem Awt{H:Type}{enc:TypeId×Value->H}{t:TypeId}(hr:Tryz.prog.readableRec t=true)(sj:t<Tryz.prog.types.size){W W':World}{v:Value}{d:DataW H}{ps:List MemPlace}
  (h:DataW.Trod enc Tryz.prog W 0 (fun _=>true) true t v d ps)(hb:∀b,b<W.heap.size->W'.heap[b]? =W.heap[b]?)(hlt:∀x∈ps,x.block<W.heap.size):
  DataW.Trod enc Tryz.prog W' 0 (fun b=>decide (b<W.heap.size)) true t v d ps:=
 WideElems.Trod_stays Atx hr sj h (fun x hx=>by
  have hx:=hlt x hx;cases x with
  |cell b o=>exact World.cell?_of_block (w:=W) (hb b hx)
  |map b=>exact hb b hx) (fun x hx=>by simpa using hlt x hx)
theorem Aty{W W':World}(h1:W'.os=W.os)(h2:W'.output=W.output)(hb:∀b,b<W.heap.size->W'.heap[b]? =W.heap[b]?)(may:MemPlace->Prop):W.keptBut W' may:=by
 refine⟨h1,h2,fun i hi=>?_⟩
 rw[hb i hi]
 split<;>simp_all
theorem lifted(os:Os)(started:os.Started)(H:Type)(enc:TypeId×Value->H):
  ReturnsInHanded {} Tryz.checked os 7 .any (fun w args=>(Rows.truthFoundSpec.pre enc Tryz.prog Tryz.f7 [] false w args/\laidMetH Tryz.prog Ac6 w)/\sizedMet enc Tryz.prog Tryz.f7 (OpenSpec.ofChange Rows.truthFoundSpec) false w args)
   (Rows.truthFoundSpec.post enc Tryz.prog Tryz.f7 false true false false):=by
 refine returnsInHanded_of_change_and (C:=Tryz.checked) (X:=fun w _=>laidMetH Tryz.prog Ac6 w) (fun _ _ _ hh h=>h.of_heap hh) own started Kr Tryz.func7
  (ChangeSpec.witness_shaped (enc:=enc) (C:=Tryz.checked) (os:=os) (X:=fun w _=>laidMetH Tryz.prog Ac6 w) false (World.doorLaid Tryz.prog 400 os) #[.agg #[Atw,Atw,Atw],.int .i64 0,Atw,Atw,.int .u8 0] 8 rfl (World.shaped_of_RefB Kr Kr) Kr Kr Kr (Atv os _)) ?_
 intro W base args ds gs before o7 hW _ hsz hL _;have kq:∀(j:Nat) t v,Tryz.f7.params[j]? =some t->args[j]? =some v->Value.okWide Tryz.prog W .any base t v:=o7;have hW':=hW;obtain⟨p,q,hA0,hV,rfl,hfz,hnd⟩:=hW;have hA:DataW.TrodAll enc Tryz.prog W 0 (fun _=>true) true Tryz.f7.params.toList args.toList ds p:=hA0
 rw[Tryz.params7]at hA kq;obtain⟨v0,v1,v2,v3,v4,d0,d1,d2,d3,d4,p0,p1,p2,p3,p4,rfl,rfl,rfl,h0,h1,h2,h3,h4⟩:=A7a hA;obtain⟨rfl,rfl⟩:=trodVars_none hV;have hlt:=hW'.lt;rw[Tryz.params7]at hsz;obtain⟨d,n,gd,l,k,hk,hR⟩:=A7j (kq 0 25 v0 rfl rfl) (kq 1 3 v1 rfl rfl) (kq 2 31 v2 rfl rfl) (kq 3 22 v3 rfl rfl) (kq 4 5 v4 rfl rfl) h0 h1 h2 h3 h4 hsz;simp only[List.append_nil]at hW' hlt;refine(Al1 (f7L d n gd l k hk ⟨.e,0⟩) (Av0 hL) hR).mono fun e W' ⟨he,_,hb,ho,hu⟩=>?_
 subst he
 have hl0:∀x∈p0,x.block<W.heap.size:=fun x hx=>hlt x (by simp[hx])
 have hl1:∀x∈p1,x.block<W.heap.size:=fun x hx=>hlt x (by simp[hx])
 have hl2:∀x∈p2,x.block<W.heap.size:=fun x hx=>hlt x (by simp[hx])
 have hl3:∀x∈p3,x.block<W.heap.size:=fun x hx=>hlt x (by simp[hx])
 have hl4:∀x∈p4,x.block<W.heap.size:=fun x hx=>hlt x (by simp[hx])
 refine⟨_,rfl,_,_,_,[],p0++(p1++(p2++(p3++p4))),[],hW',?_,?_,rfl,Aty ho hu hb _,fun h=>by cases h⟩
 ·exact trodAll_mk1 (shut_bool ut4 _)
 ·exact A7f (Awt Kr (of_decide_eq_true Kr) h0 hb hl0) (Awt Kr (of_decide_eq_true Kr) h1 hb hl1) (Awt Kr (of_decide_eq_true Kr) h2 hb hl2) (Awt Kr (of_decide_eq_true Kr) h3 hb hl3) (Awt Kr (of_decide_eq_true Kr) h4 hb hl4)
theorem A65:Rows.TruthFoundSaid:=
 OpenClaim.holds_of_wide 7 Tryz.f7 rfl rfl rfl rfl rfl rfl rfl ⟨rfl,rfl,rfl,rfl,rfl⟩ rfl rfl rfl rfl rfl Kr Tryz.func7 A63
  (of_decide_eq_true Kr) (by unfold Func.isWrapper;first|(rw[if_pos (by decide+kernel)];kernel_rfl)|(rw[if_neg (by decide+kernel)];exact⟨rfl,rfl⟩))
  (fun os started H enc _=>lifted os started H enc)
theorem truthFound_card:Rows.TruthFoundCardSaid:=
 Claim7.holds_tied_plain_at .later [] [.widerDeep] true (true, "fda95eac979074fe7312521db3636670d78c7c40b15a4574a5535667f3acbcc6") true
  A65 (fun _ h=>by cases h) Kr (fun _ h=>by cases h) truthFound_row_tie rfl ⟨rfl,rfl⟩ Kr rfl
  (fun f fn hf hfn=>by
   obtain rfl:f=7:=Option.some.inj ((show Tryz.prog.funcNamed "apodixis/apodixislaw34.TruthFound" =some 7 by kernel_rfl).symm.trans hf)|>.symm
   obtain rfl:fn=Tryz.f7:=(Option.some.inj (Tryz.func7.symm.trans hfn)).symm
   exact⟨by kernel_rfl,fun j t ht=>by
    rw[Tryz.params7]at ht
    have h3:t=25∨t=3∨t=31∨t=22∨t=5:=by
     rcases j with _|_|_|_|_|j
     ·left;simpa using ht.symm
     ·right;left;simpa using ht.symm
     ·right;right;left;simpa using ht.symm
     ·right;right;right;left;simpa using ht.symm
     ·right;right;right;right;simpa using ht.symm
     ·simp at ht
    rcases h3 with rfl|rfl|rfl|rfl|rfl
    ·exact(show Tryz.prog.wantsStandIn 25=false by kernel_rfl)
    ·exact(show Tryz.prog.wantsStandIn 3=false by kernel_rfl)
    ·exact(show Tryz.prog.wantsStandIn 31=false by kernel_rfl)
    ·exact(show Tryz.prog.wantsStandIn 22=false by kernel_rfl)
    ·exact(show Tryz.prog.wantsStandIn 5=false by kernel_rfl)⟩)
  Kr
#print axioms truthFound_card
end Go.Proofs.YtmkaboegdoadhaaGreatDoor
