/- A part of the proof; shortened by program. -/
import Derived.ChangeArms
import Derived.SizedLaws
import Derived.OpenShut
import Derived.Test.YtmkaboegdoadhaaGreatDoorP30
import Derived.LaidMore
import Derived.Stop.Joined
import Derived.Test.YtmkaboegdoadhaaGreatDoorRows
import Derived.ProofKit
import Derived.Carry
set_option maxRecDepth 100000
set_option maxHeartbeats 4000000
set_option linter.unusedSimpArgs false
set_option linter.unusedVariables false
namespace Go.AM
open Go Go.Proofs
section
variable {H:Type}{eh:TypeId×Value->H}{w:World}{hd:Bool}
def RdN(eh:TypeId×Value->H)(w:World)(hd:Bool)(n:Nat)(t:TypeId)(k:Nat)(Q:List AV->Prop):Prop:=
 ∀(cs:List Value) (x:DataW H×List MemPlace),DataW.trod eh Tryz.prog w 0 (fun _=>true) hd n t cs=some x->cs.length=k->(∀b∈x.1.weights Tryz.prog t,b<=reachBytes)->∃avs,Q avs/\RL C0 0 w avs cs/\∀v∈cs,v.oneCell=true
def H9{α:Type}(G:α->Prop)(enc:α->List AV):List AV->Prop:=fun avs=>∃a,G a/\avs=enc a
def Aqd(s:Str):Prop:=s.length<=281474976710656
theorem Ac2{n t:Nat}(ht:Tryz.prog.underlying t=some .string):RdN eh w hd n t 1 (H9 Aqd e1):=by
 intro cs x h hl hw;obtain⟨s,rfl,rfl,_⟩:=DataW.trod_string ht h
 have:=hw s.data.toList.length (by unfold DataW.weights;grind)
 exact⟨[sV s.data.toList],⟨_,by unfold Aqd;exact ai_ this (by decide),rfl⟩,by unfold RL;exact⟨by unfold sV R;exact⟨s,rfl,rfl⟩,by unfold RL;trivial⟩,fun v hv=>by rw[ao_.1 hv];rfl⟩
theorem Aof{n t:Nat}(ht:Tryz.prog.underlying t=some .bool):RdN eh w hd n t 1 (H9 (fun _=>True) fun b:Bool=>[.bool b]):=by
 intro cs x h hl hw;obtain⟨b,rfl,rfl⟩:=DataW.trod_bool ht h
 exact⟨[.bool b],⟨b,trivial,rfl⟩,by unfold RL;exact⟨by unfold R;rfl,by unfold RL;trivial⟩,fun v hv=>by rw[ao_.1 hv];rfl⟩
theorem Afz{α β:Type}{f:α->Option β}:∀{is:List α} {l:List β},is.mapM f=some l->l.length=is.length/\∀(j:Nat) (i:α),is[j]? =some i->∃a:β,f i=some a/\l[j]? =some a
 |[],l,h=>gr
 |i0::is,l,h=>by
  simp only[h_,Option.bind_eq_bind,ez_,Option.pure_def,af_]at h;obtain⟨a,h1,l',h2,rfl⟩:=h;obtain⟨k1,k2⟩:=Afz h2
  grind
theorem Xk{a:Addr}{v:Value}(h:w.cell? a=some v):a.spot=none/\w.cell? ⟨a.block,a.off,none⟩=some v:=by
 have hs:a.spot=none:=by
  cases hs:a.spot with
  |none=>rfl
  |some s=>unfold World.cell? at h;rw[hs]at h;split at h<;>simp at h
 obtain⟨b,o,s⟩:=a
 grind
theorem Vz(a:Addr)(n:Nat):(a.add n).off=a.off+n/\(a.add n).block=a.block:=by unfold Addr.add;grind
theorem Ac3{a:Addr}{k:Nat}{cs:List Value}(h:w.cells? 0 a k=some cs):cs.length=k/\∀(r:Nat) (v:Value),cs[r]? =some v->w.cell? (a.add r)=some v:=by
 unfold World.cells? at h;rw[if_pos (aq_ _)]at h;obtain⟨h1,h2⟩:=Afz h;refine⟨gr,fun r v hv=>?_⟩
 have hr:=(ae_.1 hv).1;obtain⟨b,q1,q2⟩:=h2 r r gr
 grind
theorem Af0{α:Type}{P:Nat->α->Prop}:∀{n:Nat},(∀i,i<n->∃a,P i a)->∃l:List α,l.length=n/\∀(i:Nat) (a:α),l[i]? =some a->P i a
 |0,_=>⟨[],rfl,gr⟩
 |n+1,h=>by
  obtain⟨l,h1,h2⟩:=Af0 (n:=n) fun i hi=>h i Om
  obtain⟨a,ha⟩:=h n Om
  refine⟨l++[a],by simp[h1],fun i b hb=>?_⟩
  grind
theorem Aog{α:Type}{enc:α->List AV}{k c o:Nat}(he:∀a,(enc a).length=k):∀(l:List α) (i0:Nat),(∀(i:Nat) (a:α),l[i]? =some a->∀(r:Nat) (x:AV),(enc a)[r]? =some x->∃v,w.cell? ⟨c,o+((i0+i)*k+r),none⟩=some v/\v.oneCell=true/\R C0 0 w x v)->RC C0 0 w c (l.flatMap enc) (o+i0*k)
 |[],i0,_=>by unfold List.flatMap;simp;unfold RC;trivial
 |a::l,i0,h=>by
  rw[bs_]
  have h2:=Aog he l (i0+1) fun i b hb r x hx=>by
   have:=h (i+1) b gr r x hx
   rwa[show i0+(i+1)=i0+1+i by omega]at this
  have key:∀(row:List AV) (r0:Nat),r0+row.length=k->(∀(r:Nat) (x:AV),row[r]? =some x->∃v,w.cell? ⟨c,o+(i0*k+(r0+r)),none⟩=some v/\v.oneCell=true/\R C0 0 w x v)->RC C0 0 w c (row++l.flatMap enc) (o+(i0*k+r0)):=by
   intro row
   induction row with
   |nil=>intro r0 hr _;simp at hr;subst hr;rw[bd_,show o+(i0*r0+r0)=o+(i0+1)*r0 by rw[fw_]];exact h2
   |cons x row ih=>
    intro r0 hr hx;rw[ay_];unfold RC
    refine⟨by have:=hx 0 x (by simp);grind,?_⟩
    have:=ih (r0+1) gr fun r y hy=>by
     have:=hx (r+1) y gr
     grind
    rwa[show o+(i0*k+(r0+1))=o+(i0*k+r0)+1 by omega]at this
  have:=key (enc a) 0 gr fun r x hx=>by
   have:=h 0 a (by simp) r x hx
   grind
  grind
theorem Awr:∀{l:List AV} {vs:List Value},RL C0 0 w l vs->∀(r:Nat) (x:AV),l[r]? =some x->∃v,vs[r]? =some v/\R C0 0 w x v
 |[],_,_,r,x,h=>by simp at h
 |y::l,[],h,_,_,_=>by unfold RL at h;exact h.elim
 |y::l,v::vs,h,r,x,hx=>by
  unfold RL at h;cases r with
  |zero=>simp at hx;subst hx;exact⟨v,by simp,h.1⟩
  |succ r=>simp at hx;obtain⟨u,q1,q2⟩:=Awr h.2 r x hx;exact⟨u,gr,q2⟩
theorem Wa{α:Type}{enc:α->List AV}{G:α->Prop}{n t e k:Nat}(ht:Tryz.prog.underlying t=some (.slice e))(hc:Tryz.prog.cellsOf e=k)(hk:0<k)(he:∀a,(enc a).length=k)(hE:∀m,m+1=n->RdN eh w hd m e k (H9 G enc)):
  RdN eh w hd n t 1 (H9 (fun l:List α=>∀a∈l,G a) fun l=>[slV enc k l]):=by
 intro cs x h hl hw
 rcases DataW.trod_slice ht h with⟨rfl,rfl⟩|⟨a,len,cap,elems,rest,n0,hn,rfl,rfl,_,hlc,_,hel0,hel,hsp,_⟩
 ·exact⟨[slV enc k []],⟨[],fun a h=>(by cases h),rfl⟩,by unfold RL;exact⟨by unfold slV R;grind,by unfold RL;trivial⟩,fun v hv=>by rw[ao_.1 hv];rfl⟩
 ·rw[hc]at hel hsp
  have hws:∀y∈elems,∀b∈y.1.weights Tryz.prog e,b<=reachBytes:=fun y hy b hb=>hw b (by
   unfold DataW.weights;rw[ht];refine aj_ _ (dg_ _ ?_)
   have key:∀{l:List (DataW H×List MemPlace)},y∈l->b∈DataW.weightsAll Tryz.prog e (l.map (·.1)):=by
    intro l
    induction l with
    |nil=>intro h;cases h
    |cons z l ih=>
     intro h
     show b∈z.1.weights Tryz.prog e++DataW.weightsAll Tryz.prog e (l.map (·.1))
     rcases an_.1 h with rfl|h
     ·grind
     ·grind
   exact key hy)
  obtain⟨l,hll,hlp⟩:=Af0 (n:=len) (P:=fun i a'=>G a'/\∀(r:Nat) (x:AV),(enc a')[r]? =some x->∃v,w.cell? ((a.add (i*k)).add r)=some v/\v.oneCell=true/\R C0 0 w x v) fun i hi=>by
   obtain⟨y,hy⟩:∃y,elems[i]? =some y:=⟨_,az_ Om⟩;have hb:=hel i hi;rw[hy,ez_]at hb;obtain⟨ci,hci,hti⟩:=hb;obtain⟨c1,c2⟩:=Ac3 hci;obtain⟨avs,⟨b,hGb,rfl⟩,h2,h3⟩:=hE n0 hn.symm ci y hti c1 (hws y (ab_ hy));refine⟨b,hGb,fun r x hx=>?_⟩
   obtain⟨v,q1,q2⟩:=Awr h2 r x hx;exact⟨v,c2 r v q1,h3 v (ab_ q1),q2⟩
  refine⟨[slV enc k l],⟨l,fun b hb=>?_,rfl⟩,?_,fun v hv=>by rw[ao_.1 hv];rfl⟩
  ·obtain⟨i,hi⟩:=List.getElem?_of_mem hb
   grind
  ·unfold RL
   refine⟨?_,by unfold RL;trivial⟩
   unfold slV R
   refine⟨some a,cap,by rw[hll],gr,fun q hq=>(by cases hq),by rw[Dl he],fun hh=>(by cases hh),fun ad ha=>?_⟩
   cases ha;refine⟨fun h0=>?_,fun _ hh=>Al0 _ hh,?_⟩
   ·by_cases bl:0<len
    ·obtain⟨b,hb⟩:=Ar (l:=l) (i:=0) Om;have hne:0<(enc b).length:=gr;obtain⟨x,hx⟩:=Ar hne;obtain⟨v,q1,_⟩:=(hlp 0 b hb).2 0 x hx;have:=(Xk q1).1
     simpa[Addr.add]using this
    ·have hr:=(hsp rfl).2 0 Om;obtain⟨y,hy⟩:∃y,rest[0]? =some y:=⟨_,az_ gr⟩;rw[hy,ez_]at hr;obtain⟨ci,hci,_⟩:=hr;obtain⟨c1,c2⟩:=Ac3 hci;obtain⟨v,hv⟩:=Ar (l:=ci) (i:=0) Om;have:=(Xk (c2 0 v hv)).1
     have hl0:len=0:=by omega
     subst hl0
     simpa[Addr.add]using this
   ·have:=Aog (w:=w) (c:=a.block) (o:=a.off) he l 0 fun i b hb r x hx=>by
     obtain⟨v,q1,q2,q3⟩:=(hlp i b hb).2 r x hx;have q4:=(Xk q1).2;rw[(Vz _ r).1,(Vz _ r).2,(Vz a _).1,(Vz a _).2,Nat.add_assoc]at q4
     grind
    grind
end
noncomputable def Kq (t:TypeId):Option (List (TypeId×Nat×Nat)):=match Tryz.prog.underlying t with
 |some (.struct fs)=>some (fs.toList.map fun f=>(f.type,f.offset,Tryz.prog.cellsOf f.type))
 |_=>none
def Ia:Nat->List (TypeId×Nat×Nat)->Option Nat
 |o,[]=>some o
 |o,(_,off,k)::r=>if off=o then Ia (o+k) r else none
def AllQ:List (List AV->Prop)->List AV->Prop
 |[],avs=>avs=[]
 |Q::r,avs=>∃a b,Q a/\AllQ r b/\avs=a++b
section
variable {H:Type}{eh:TypeId×Value->H}{w:World}{hd:Bool}
def RdL(eh:TypeId×Value->H)(w:World)(hd:Bool)(m:Nat):List (TypeId×Nat×Nat)->List (List AV->Prop)->Prop
 |[],[]=>True
 |(t,_,k)::r,Q::s=>RdN eh w hd m t k Q/\RdL eh w hd m r s
 |_,_=>False
theorem Nw{n t k:Nat}{fl:List (TypeId×Nat×Nat)}{Qs:List (List AV->Prop)}(hf:Kq t=some fl)(hc:Ia 0 fl=some k)(hQ:∀m,m+1=n->RdL eh w hd m fl Qs):RdN eh w hd n t k (AllQ Qs):=by
 intro cs x h hl hw;unfold Kq at hf
 split at hf
 case h_2=>cases hf
 case h_1 fs ht=>
 cases hf;obtain⟨xs,m,hm,rfl,_,hxl,hxf⟩:=DataW.trod_struct ht h;have hQ:=hQ m hm.symm
 have each:∀(j:Nat) (f:TypeId×Nat×Nat),(fs.toList.map fun f=>(f.type,f.offset,Tryz.prog.cellsOf f.type))[j]? =some f->∃y,DataW.trod eh Tryz.prog w 0 (fun _=>true) hd m f.1 ((cs.drop f.2.1).take f.2.2)=some y/\∀b∈y.1.weights Tryz.prog f.1,b<=reachBytes:=by
  intro j f hj;rw[br_,cy_]at hj;obtain⟨g,hg,rfl⟩:=hj;have hj2:=(ae_.1 hg).1
  obtain⟨y,hy⟩:∃y,xs[j]? =some y:=⟨_,az_ (by rw[hxl];simpa using hj2)⟩
  have h1:=hxf j g (by simpa using hg)
  rw[hy]at h1
  dsimp only
  refine⟨y,?_,fun b hb=>hw b ?_⟩
  ·exact h1
  unfold DataW.weights;rw[ht]
  exact DataW.weights_mem_each (P:=Tryz.prog) (j:=j) (t:=g.type) (d:=y.1) (by rw[br_,hg,ds_]) (by rw[br_,hy,ds_]) b hb
 have key:∀(fl:List (TypeId×Nat×Nat)) (Qs:List (List AV->Prop)) (o:Nat),(∀(j:Nat) (f:TypeId×Nat×Nat),fl[j]? =some f->∃y,DataW.trod eh Tryz.prog w 0 (fun _=>true) hd m f.1 ((cs.drop f.2.1).take f.2.2)=some y/\∀b∈y.1.weights Tryz.prog f.1,b<=reachBytes)->
   Ia o fl=some cs.length->RdL eh w hd m fl Qs->∃avs,AllQ Qs avs/\RL C0 0 w avs (cs.drop o)/\∀v∈cs.drop o,v.oneCell=true:=by
  intro fl
  induction fl with
  |nil=>
   intro Qs o _ hch hr;simp only[Ia,af_]at hch;subst hch;cases Qs with
   |nil=>exact⟨[],rfl,by rw[ep_];unfold RL;trivial,by rw[ep_];intro v hv;cases hv⟩
   |cons _ _=>exact hr.elim
  |cons f fl ih=>
   intro Qs o he hch hr;obtain⟨t0,off,k0⟩:=f;cases Qs with
   |nil=>exact hr.elim
   |cons Q Qs=>
    unfold Ia at hch
    split at hch
    case isFalse=>cases hch
    case isTrue ho=>
    subst ho
    have ix:∀(fl:List (TypeId×Nat×Nat)) (o e:Nat),Ia o fl=some e->o<=e:=by
     intro fl
     induction fl with
     |nil=>intro o e h;simp only[Ia,af_]at h;omega
     |cons f fl ih=>
      intro o e h;obtain⟨_,off,k⟩:=f;unfold Ia at h
      split at h
      ·have:=ih _ _ h;omega
      ·cases h
    have hle:=ix _ _ _ hch;obtain⟨y,hy,hyw⟩:=he 0 _ rfl
    obtain⟨a,ha,hra,hoa⟩:=hr.1 _ y hy (by show((cs.drop off).take k0).length=k0;rw[cb_,dp_];omega) hyw
    obtain⟨b,hb,hrb,hob⟩:=ih Qs (off+k0) (fun j f hj=>he (j+1) f (by simpa using hj)) hch hr.2
    have e0:cs.drop off=(cs.drop off).take k0++cs.drop (off+k0):=by rw[←eo_,cc_]
    refine⟨a++b,⟨a,b,ha,hb,rfl⟩,?_,?_⟩
    ·rw[e0];exact hra.append hrb
    ·rw[e0];intro v hv
     rcases bb_.1 hv with hv|hv
     ·exact hoa v hv
     ·exact hob v hv
 have:=key _ Qs 0 each (by rw[hc,hl]) hQ
 simpa using this
theorem RdN.mono{n t k:Nat}{Q Q':List AV->Prop}(h:RdN eh w hd n t k Q)(hq:∀avs,Q avs->Q' avs):RdN eh w hd n t k Q':=fun cs x h1 h2 h3=>by
 obtain⟨avs,q1,q2,q3⟩:=h cs x h1 h2 h3;exact⟨avs,hq _ q1,q2,q3⟩
end
section
variable {H:Type}{eh:TypeId×Value->H}{w:World}{hd:Bool}
theorem ut4:Tryz.prog.underlying 4=some .bool:=Kr
theorem ut9:Tryz.prog.underlying 9=some .string:=Kr
theorem ut22:Tryz.prog.underlying 22=some (.slice 9):=Kr
theorem ut23:Tryz.prog.underlying 23=some (.slice 50):=Kr
theorem ut75:Tryz.prog.underlying 47=some (.slice 74):=Kr
theorem ut76:Tryz.prog.underlying 48=some (.slice 274):=Kr
theorem ct9:Tryz.prog.cellsOf 9=1:=Kr
theorem ct78:Tryz.prog.cellsOf 50=8:=Kr
theorem ct80:Tryz.prog.cellsOf 74=3:=Kr
theorem ctP:Tryz.prog.cellsOf 274=2:=Kr
theorem fl25:Kq 25=some [(22,0,1),(22,1,1),(23,2,1)]:=Kr
theorem fl80:Kq 74=some [(9,0,1),(4,1,1),(22,2,1)]:=Kr
theorem flP:Kq 274=some [(9,0,1),(9,1,1)]:=Kr
theorem fl78:Kq 50=some [(9,0,1),(4,1,1),(47,2,1),(48,3,1),(22,4,1),(47,5,1),(48,6,1),(22,7,1)]:=Kr
def M8{α:Type}(_:α):Prop:=True
theorem O8{n:Nat}:RdN eh w hd n 22 1 (H9 (M8 (α:=List Str)) fun l=>[Af l]):=
 (Wa ut22 ct9 Om (fun _=>rfl) fun m _=>Ac2 ut9).mono fun avs ⟨l,_,h⟩=>⟨l,trivial,h⟩
theorem Avy{n:Nat}:RdN eh w hd n 274 2 (H9 M8 eP):=
 (Nw (Qs:=[H9 Aqd e1,H9 Aqd e1]) flP rfl fun m _=>⟨Ac2 ut9,Ac2 ut9,trivial⟩).mono fun avs h=>by
  obtain⟨_,_,⟨a,_,rfl⟩,⟨_,_,⟨b,_,rfl⟩,rfl,rfl⟩,rfl⟩:=h;exact⟨⟨a,b⟩,trivial,rfl⟩
theorem Aki{n:Nat}:RdN eh w hd n 48 1 (H9 (M8 (α:=List Pr)) fun l=>[slV eP 2 l]):=
 (Wa ut76 ctP Om (fun _=>rfl) fun m _=>Avy).mono fun avs ⟨l,_,h⟩=>⟨l,trivial,h⟩
theorem Ax6{n:Nat}:RdN eh w hd n 74 3 (H9 M8 eH):=
 (Nw (Qs:=[H9 Aqd e1,H9 (fun _=>True) fun b:Bool=>[.bool b],H9 (M8 (α:=List Str)) fun l=>[Af l]]) fl80 rfl fun m _=>⟨Ac2 ut9,Aof ut4,O8,trivial⟩).mono fun avs h=>by
  obtain⟨_,_,⟨a,_,rfl⟩,⟨_,_,⟨b,_,rfl⟩,⟨_,_,⟨c,_,rfl⟩,rfl,rfl⟩,rfl⟩,rfl⟩:=h;exact⟨⟨a,b,c⟩,trivial,rfl⟩
theorem Aoh{n:Nat}:RdN eh w hd n 47 1 (H9 (M8 (α:=List Hp)) fun l=>[slV eH 3 l]):=
 (Wa ut75 ct80 Om (fun _=>rfl) fun m _=>Ax6).mono fun avs ⟨l,_,h⟩=>⟨l,trivial,h⟩
theorem Atp{n:Nat}:RdN eh w hd n 50 8 (H9 M8 eF):=
 (Nw (Qs:=[H9 Aqd e1,H9 (fun _=>True) fun b:Bool=>[.bool b],H9 (M8 (α:=List Hp)) fun l=>[slV eH 3 l],H9 (M8 (α:=List Pr)) fun l=>[slV eP 2 l],H9 (M8 (α:=List Str)) fun l=>[Af l],
  H9 (M8 (α:=List Hp)) fun l=>[slV eH 3 l],H9 (M8 (α:=List Pr)) fun l=>[slV eP 2 l],H9 (M8 (α:=List Str)) fun l=>[Af l]]) fl78 rfl fun m _=>⟨Ac2 ut9,Aof ut4,Aoh,Aki,O8,Aoh,Aki,O8,trivial⟩).mono fun avs h=>by
  obtain⟨_,_,⟨a,_,rfl⟩,⟨_,_,⟨b,_,rfl⟩,⟨_,_,⟨c,_,rfl⟩,⟨_,_,⟨d,_,rfl⟩,⟨_,_,⟨e,_,rfl⟩,⟨_,_,⟨f,_,rfl⟩,⟨_,_,⟨g,_,rfl⟩,⟨_,_,⟨i,_,rfl⟩,rfl,rfl⟩,rfl⟩,rfl⟩,rfl⟩,rfl⟩,rfl⟩,rfl⟩,rfl⟩:=h;exact⟨⟨a,b,c,d,e,f,g,i⟩,trivial,rfl⟩
theorem Aqe{n:Nat}:RdN eh w hd n 23 1 (H9 (M8 (α:=List Fr)) fun l=>[slV eF 8 l]):=
 (Wa ut23 ct78 Om (fun _=>rfl) fun m _=>Atp).mono fun avs ⟨l,_,h⟩=>⟨l,trivial,h⟩
theorem rd_db{n:Nat}:RdN eh w hd n 25 3 (H9 (M8 (α:=Db)) fun d=>[Af d.consts,Af d.vars,slV eF 8 d.frames]):=
 (Nw (Qs:=[H9 (M8 (α:=List Str)) fun l=>[Af l],H9 (M8 (α:=List Str)) fun l=>[Af l],H9 (M8 (α:=List Fr)) fun l=>[slV eF 8 l]]) fl25 rfl fun m _=>⟨O8,O8,Aqe,trivial⟩).mono fun avs h=>by
  obtain⟨_,_,⟨a,_,rfl⟩,⟨_,_,⟨b,_,rfl⟩,⟨_,_,⟨c,_,rfl⟩,rfl,rfl⟩,rfl⟩,rfl⟩:=h;exact⟨⟨a,b,c⟩,trivial,rfl⟩
theorem fl27:Kq 27=some [(22,0,1),(22,1,1)]:=Kr
theorem Atq{n:Nat}:RdN eh w hd n 27 2 (H9 (M8 (α:=Rs)) eRs):=
 (Nw (Qs:=[H9 (M8 (α:=List Str)) fun l=>[Af l],H9 (M8 (α:=List Str)) fun l=>[Af l]]) fl27 rfl fun m _=>⟨O8,O8,trivial⟩).mono fun avs h=>by
  obtain⟨_,_,⟨a,_,rfl⟩,⟨_,_,⟨b,_,rfl⟩,rfl,rfl⟩,rfl⟩:=h;exact⟨⟨a,b⟩,trivial,rfl⟩
end
section
mutual
def Aht {H:Type}:DataW H->List AV
 |.lit (.string s)=>[sV s]
 |.lit (.bool b)=>[.bool b]
 |.lit (.int k n)=>[.int k n]
 |.agg ps=>Ac4 ps
 |_=>[.any]
def Ac4 {H:Type}:List (DataW H)->List AV
 |[]=>[]
 |d::r=>Aht d++Ac4 r
end
section
variable {H:Type}{eh:TypeId×Value->H}{w:World}{hd:Bool}
def RdX(eh:TypeId×Value->H)(w:World)(hd:Bool)(n:Nat)(t:TypeId)(k:Nat):Prop:=
 ∀(cs:List Value) (x:DataW H×List MemPlace),DataW.trod eh Tryz.prog w 0 (fun _=>true) hd n t cs=some x->cs.length=k->RL C0 0 w (Aht x.1) cs/\∀v∈cs,v.oneCell=true
theorem Avz{n t:Nat}(ht:Tryz.prog.underlying t=some .string):RdX eh w hd n t 1:=by
 intro cs x h hl;obtain⟨s,rfl,rfl,_⟩:=DataW.trod_string ht h
 exact⟨by rw[Aht];unfold RL;exact⟨by unfold sV R;exact⟨s,rfl,rfl⟩,by unfold RL;trivial⟩,fun v hv=>by rw[ao_.1 hv];rfl⟩
theorem Atr{n t:Nat}(ht:Tryz.prog.underlying t=some .bool):RdX eh w hd n t 1:=by
 intro cs x h hl;obtain⟨b,rfl,rfl⟩:=DataW.trod_bool ht h
 exact⟨by rw[Aht];unfold RL;exact⟨by unfold R;rfl,by unfold RL;trivial⟩,fun v hv=>by rw[ao_.1 hv];rfl⟩
theorem Aoi{n t:Nat}{k:IntKind}(ht:Tryz.prog.underlying t=some (.int k)):RdX eh w hd n t 1:=by
 intro cs x h hl;obtain⟨i,rfl,rfl,_⟩:=DataW.trod_int ht h
 exact⟨by rw[Aht];unfold RL;exact⟨by unfold R;rfl,by unfold RL;trivial⟩,fun v hv=>by rw[ao_.1 hv];rfl⟩
theorem Ac5{m:Nat}{cs:List Value}:∀(fl:List (TypeId×Nat×Nat)) (xs:List (DataW H×List MemPlace)) (o:Nat),xs.length=fl.length->
  (∀(j:Nat) (f:TypeId×Nat×Nat),fl[j]? =some f->RdX eh w hd m f.1 f.2.2/\DataW.trod eh Tryz.prog w 0 (fun _=>true) hd m f.1 ((cs.drop f.2.1).take f.2.2)=xs[j]?)->Ia o fl=some cs.length->RL C0 0 w (Ac4 (xs.map (·.1))) (cs.drop o)/\∀v∈cs.drop o,v.oneCell=true
 |[],xs,o,hxl,_,hch=>by
  simp only[Ia,af_]at hch;subst hch;rw[ey_.1 hxl]
  exact⟨by rw[ep_];show RL C0 0 w (Ac4 []) [];rw[Ac4];unfold RL;trivial,by rw[ep_];intro v hv;cases hv⟩
 |(t0,off,k0)::fl,[],o,hxl,_,_=>by simp at hxl
 |(t0,off,k0)::fl,y::xs,o,hxl,he,hch=>by
  unfold Ia at hch
  split at hch
  case isFalse=>cases hch
  case isTrue ho=>
  subst ho
  have ix:∀(fl:List (TypeId×Nat×Nat)) (o e:Nat),Ia o fl=some e->o<=e:=by
   intro fl
   induction fl with
   |nil=>intro o e h;simp only[Ia,af_]at h;omega
   |cons f fl ih=>
    intro o e h;obtain⟨_,off,k⟩:=f;unfold Ia at h
    split at h
    ·have:=ih _ _ h;omega
    ·cases h
  have hle:=ix _ _ _ hch;obtain⟨h1,h2⟩:=he 0 _ rfl
  obtain⟨hra,hoa⟩:=h1 _ y h2 (by show((cs.drop off).take k0).length=k0;rw[cb_,dp_];omega)
  obtain⟨hrb,hob⟩:=Ac5 fl xs (off+k0) (by simpa using hxl) (fun j f hj=>by have:=he (j+1) f (by simpa using hj);simpa using this) hch
  have e0:cs.drop off=(cs.drop off).take k0++cs.drop (off+k0):=by rw[←eo_,cc_]
  refine⟨?_,?_⟩
  ·rw[e0]
   show RL C0 0 w (Ac4 (y.1::xs.map (·.1))) _
   rw[Ac4];exact hra.append hrb
  ·rw[e0];intro v hv
   rcases bb_.1 hv with hv|hv
   ·exact hoa v hv
   ·exact hob v hv
theorem Al2{n t k:Nat}{fl:List (TypeId×Nat×Nat)}(hf:Kq t=some fl)(hc:Ia 0 fl=some k)(hQ:∀m,m+1=n->∀(j:Nat) (f:TypeId×Nat×Nat),fl[j]? =some f->RdX eh w hd m f.1 f.2.2):RdX eh w hd n t k:=by
 intro cs x h hl;unfold Kq at hf
 split at hf
 case h_2=>cases hf
 case h_1 fs ht=>
 cases hf;obtain⟨xs,m,hm,rfl,_,hxl,hxf⟩:=DataW.trod_struct ht h
 have:=Ac5 (cs:=cs) (eh:=eh) (w:=w) (hd:=hd) (m:=m) _ xs 0 (by rw[hxl,cx_];simp) (fun j f hj=>⟨hQ m hm.symm j f hj,by
  rw[br_,cy_]at hj;obtain⟨g,hg,rfl⟩:=hj
  dsimp only
  have h1:=hxf j g (by simpa using hg)
  exact h1⟩) (by rw[hc,hl])
 rw[db_]at this;refine⟨?_,this.2⟩;rw[Aht];exact this.1
end
end
open Go.Proofs.YtmkaboegdoadhaaGreatDoor
section
variable {H:Type}{eh:TypeId×Value->H}{w:World}{hd:Bool}
theorem ut3:Tryz.prog.underlying 3=some (.int .i64):=Kr
theorem utF:Tryz.prog.underlying 462=some (.array 10 461):=Kr
theorem ctE:Tryz.prog.cellsOf 461=4:=Kr
theorem ctF:Tryz.prog.cellsOf 462=40:=Kr
theorem flE:Kq 461=some [(9,0,1),(4,1,1),(3,2,1),(3,3,1)]:=Kr
theorem Ats{n:Nat}:RdX eh w hd n 461 4:=Al2 flE rfl fun m _ j f hj=>by
 match j,hj with
 |0,hj=>cases hj;exact Avz ut9
 |1,hj=>cases hj;exact Atr ut4
 |2,hj=>cases hj;exact Aoi ut3
 |3,hj=>cases hj;exact Aoi ut3
 |j+4,hj=>simp at hj
theorem Aqf{n:Nat}:RdX eh w hd n 462 40:=by
 intro cs x h hl;obtain⟨xs,m,_,rfl,_,hxl,hxf⟩:=DataW.trod_array utF h;rw[ctE]at hxf
 have:=Ac5 (cs:=cs) (eh:=eh) (w:=w) (hd:=hd) (m:=m) ((List.range 10).map fun i=>(461,i*4,4)) xs 0 (by rw[hxl];rfl) (fun j f hj=>by
  rw[br_,cy_]at hj;obtain⟨i,hi,rfl⟩:=hj;have kj:=(ae_.1 hi).1;rw[List.length_range]at kj;rw[List.getElem?_range kj]at hi;cases hi
  exact⟨Ats,hxf j kj⟩) (by rw[hl];rfl)
 rw[db_]at this;refine⟨?_,this.2⟩;rw[Aht];exact this.1
end
theorem Akj{w:World}{nm:String}{g:Nat}{cs:Array Value}(hn:Tryz.prog.globalNamed nm=some g)(h:w.var? Tryz.prog nm=some cs):∃T fz,w.heap[g]? =some (.cells cs T fz):=by
 unfold World.var? at h;rw[hn]at h;simp only[gq_]at h
 split at h
 ·rename_i c T fz hh;cases h;exact⟨T,fz,hh⟩
 ·cases h
theorem tFrmW:(Tryz.prog.globals[0]?).map (·.type)=some 462:=Kr
theorem Aws:Tryz.prog.globalNamed "apodixis/layout.forms" =some 0:=Kr
def Ac6:List (String×DataW Unit):=Rows.defineNewRow.laid
theorem Att:Aht (Rows.laid_apodixis_layout_forms:DataW Unit)=Ak1:=Kr
theorem Av0{W:World}(h:laidMetH Tryz.prog Ac6 W):Iw C0 0 W Ew:=by
 rw[MakeChecks.laidMetH_plain _ _ _ Kr]at h;have h6:laidMet Tryz.prog (("apodixis/layout.forms", Rows.laid_apodixis_layout_forms)::[]) W:=h;obtain⟨ps, ⟨g', t', cs, fuel, p, q, hg', ht', sg, hd, _, _⟩, _⟩:=h6;obtain rfl:=by_ (Aws.symm.trans hg');obtain rfl:=by_ (tFrmW.symm.trans ht')
 refine⟨fun g l hg=>?_,fun c P hP=>(by cases hP),fun L hL=>(by cases hL)⟩
 have hg:glW g=some l:=hg;unfold glW at hg
 split at hg
 ·rename_i hb
  have:=ac_ hb;subst this;cases hg;obtain⟨T,fz,hh⟩:=Akj Aws sg
  have hl:cs.toList.length=40:=by
   obtain⟨xs,m,_,_,hl,_⟩:=DataW.trod_array utF hd;rw[hl,ctF]
  obtain⟨h1,h2⟩:=Aqf cs.toList _ hd hl;rw[show Aht (Rows.laid_apodixis_layout_forms:DataW Unit)=Ak1 from Att]at h1
  unfold R
  exact⟨0,0,rfl,fun _=>Al0 0,fb_ hh h1 h2 fun i v hv=>by rw[bn_];simpa using hv⟩
 ·cases hg
open Go.ChangeShapes Go.WideShapes Go.ChangeAt Go.WideMaps Go.WideElems Go.RowKit
section
variable {H:Type}{eh:TypeId×Value->H}{w:World}
set_option maxRecDepth 1000000 in
theorem Akk {t k base:Nat} {fl:List (TypeId×Nat×Nat)} {v:Value} (hf:Kq t=some fl) (hk:Tryz.prog.cellsOf t=k) (hv:Value.okWide Tryz.prog w .any base t v):∃cs:Array Value,v=.agg cs/\cs.toList.length=k:=by
 unfold Kq at hf
 split at hf
 ·rename_i fs ht
  unfold Value.okWide at hv;rw[ht]at hv;obtain⟨cs,h1,h2,_⟩:=hv
  exact⟨cs,h1,by rw[←hk,←h2];simp⟩
 ·cases hf
theorem ct25:Tryz.prog.cellsOf 25=3:=Kr
theorem ct27:Tryz.prog.cellsOf 27=2:=Kr
set_option maxRecDepth 1000000 in
theorem Atu {base:Nat} {v0 v1:Value} {d0 d1:DataW H} {p0 p1:List MemPlace} {ts:List TypeId} {gs:List (DataW H)} (hv0:Value.okWide Tryz.prog w .any base 25 v0) (hv1:Value.okWide Tryz.prog w .any base 27 v1)
  (h0:DataW.Trod eh Tryz.prog w 0 (fun _=>true) true 25 v0 d0 p0) (h1:DataW.Trod eh Tryz.prog w 0 (fun _=>true) true 27 v1 d1 p1)
  (hw:(DataW.weightsEach Tryz.prog ([25,27]++ts) ([d0,d1]++gs)).all (·<=reachBytes)=true):∃(d:Db) (r:Rs),RL C0 0 w [dbV d,.agg (eRs r)] [v0,v1]:=by
 have hw':∀(j:Nat) (t:TypeId) (d:DataW H),([25,27]++ts)[j]? =some t->([d0,d1]++gs)[j]? =some d->∀b∈d.weights Tryz.prog t,b<=reachBytes:=fun j t d ht hd b hb=>by
  have:=b_.1 hw b (DataW.weights_mem_each ht hd b hb)
  simpa using this
 obtain⟨c0,rfl,l0⟩:=Akk fl25 ct25 hv0;obtain⟨c1,rfl,l1⟩:=Akk fl27 ct27 hv1;obtain⟨n0,h0⟩:=h0;obtain⟨n1,h1⟩:=h1;obtain⟨_,⟨d,_,rfl⟩,r0,o0⟩:=rd_db c0.toList _ h0 l0 (hw' 0 25 d0 rfl rfl);obtain⟨_,⟨r,_,rfl⟩,r1,o1⟩:=Atq c1.toList _ h1 l1 (hw' 1 27 d1 rfl rfl);refine⟨d,r,?_⟩;unfold RL
 refine⟨by unfold dbV R;exact⟨c0,rfl,r0,o0⟩,?_⟩
 unfold RL
 refine⟨by unfold R;exact⟨c1,rfl,r1,o1⟩,?_⟩
 unfold RL;trivial
end
end Go.AM
