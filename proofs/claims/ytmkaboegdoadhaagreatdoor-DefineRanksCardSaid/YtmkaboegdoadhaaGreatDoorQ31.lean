import Derived.ChangeArms
import Derived.SizedLaws
import Derived.OpenShut
import Derived.LaidMore
import Derived.Stop.Joined
import Derived.Test.YtmkaboegdoadhaaGreatDoorRows
import Derived.ProofKit
import Derived.Carry
import Derived.Test.YtmkaboegdoadhaaGreatDoorQ28
set_option maxRecDepth 1000000
set_option maxHeartbeats 4000000
namespace Go.AM
open Go Go.Proofs
section
variable {H:Type}{eh:TypeId×Value->H}{w:World}{hd:Bool}
def RdN(eh:TypeId×Value->H)(w:World)(hd:Bool)(n:Nat)(t:TypeId)(k:Nat)(Q:List AV->Prop):Prop:=
 ∀(cs:List Value) (x:DataW H×List MemPlace),DataW.trod eh Tryz.prog w 0 (fun _=>true) hd n t cs=some x->cs.length=k->(∀b∈x.1.weights Tryz.prog t,b<=reachBytes)->∃avs,Q avs/\RL C0 0 w avs cs/\∀v∈cs,v.oneCell=true
def H9{α:Type}(G:α->Prop)(enc:α->List AV):List AV->Prop:=fun avs=>∃a,G a/\avs=enc a
def Aqd(s:Str):Prop:=s.length<=281474976710656
theorem Ac2{n t:Nat}(ht:Tryz.prog.underlying t=some .string):RdN eh w hd n t 1 (H9 Aqd e1):=by
 intro cs x h hl hw;obtain⟨s,rfl,rfl,_⟩:=DataW.trod_string ht h
 have:=hw s.data.toList.length (by unfold DataW.weights;grind)
 exact⟨[sV s.data.toList],⟨_,by unfold Aqd;exact ai_ this (by decide),rfl⟩,by unfold RL;exact⟨by unfold sV R;exact⟨s,rfl,rfl⟩,by unfold RL;trivial⟩,fun v hv=>by rw[ao_.1 hv];rfl⟩
theorem Aof{n t:Nat}(ht:Tryz.prog.underlying t=some .bool):RdN eh w hd n t 1 (H9 (fun _=>True) fun b:Bool=>[.bool b]):=by
 intro cs x h hl hw;obtain⟨b,rfl,rfl⟩:=DataW.trod_bool ht h
 exact⟨[.bool b],⟨b,trivial,rfl⟩,by unfold RL;exact⟨by unfold R;rfl,by unfold RL;trivial⟩,fun v hv=>by rw[ao_.1 hv];rfl⟩
theorem Afz{α β:Type}{f:α->Option β}:∀{is:List α} {l:List β},is.mapM f=some l->l.length=is.length/\∀(j:Nat) (i:α),is[j]? =some i->∃a:β,f i=some a/\l[j]? =some a
 |[],l,h=>gr
 |i0::is,l,h=>by
  simp only[h_,Option.bind_eq_bind,ez_,Option.pure_def,af_]at h;obtain⟨a,h1,l',h2,rfl⟩:=h;obtain⟨k1,k2⟩:=Afz h2
  grind
theorem Xk{a:Addr}{v:Value}(h:w.cell? a=some v):a.spot=none/\w.cell? ⟨a.block,a.off,none⟩=some v:=by
 have hs:a.spot=none:=by
  cases hs:a.spot with
  |none=>rfl
  |some s=>unfold World.cell? at h;rw[hs]at h;split at h<;>simp at h
 obtain⟨b,o,s⟩:=a
 grind
theorem Vz(a:Addr)(n:Nat):(a.add n).off=a.off+n/\(a.add n).block=a.block:=by unfold Addr.add;grind
theorem Ac3{a:Addr}{k:Nat}{cs:List Value}(h:w.cells? 0 a k=some cs):cs.length=k/\∀(r:Nat) (v:Value),cs[r]? =some v->w.cell? (a.add r)=some v:=by
 unfold World.cells? at h;rw[if_pos (aq_ _)]at h;obtain⟨h1,h2⟩:=Afz h;refine⟨gr,fun r v hv=>?_⟩
 have hr:=(ae_.1 hv).1;obtain⟨b,q1,q2⟩:=h2 r r gr
 grind
theorem Af0{α:Type}{P:Nat->α->Prop}:∀{n:Nat},(∀i,i<n->∃a,P i a)->∃l:List α,l.length=n/\∀(i:Nat) (a:α),l[i]? =some a->P i a
 |0,_=>⟨[],rfl,gr⟩
 |n+1,h=>by
  obtain⟨l,h1,h2⟩:=Af0 (n:=n) fun i hi=>h i Om
  obtain⟨a,ha⟩:=h n Om
  refine⟨l++[a],by simp[h1],fun i b hb=>?_⟩
  grind
theorem Aog{α:Type}{enc:α->List AV}{k c o:Nat}(he:∀a,(enc a).length=k):∀(l:List α) (i0:Nat),(∀(i:Nat) (a:α),l[i]? =some a->∀(r:Nat) (x:AV),(enc a)[r]? =some x->∃v,w.cell? ⟨c,o+((i0+i)*k+r),none⟩=some v/\v.oneCell=true/\R C0 0 w x v)->RC C0 0 w c (l.flatMap enc) (o+i0*k)
 |[],i0,_=>by unfold List.flatMap;simp;unfold RC;trivial
 |a::l,i0,h=>by
  rw[bs_]
  have h2:=Aog he l (i0+1) fun i b hb r x hx=>by
   have:=h (i+1) b gr r x hx
   rwa[show i0+(i+1)=i0+1+i by omega]at this
  have key:∀(row:List AV) (r0:Nat),r0+row.length=k->(∀(r:Nat) (x:AV),row[r]? =some x->∃v,w.cell? ⟨c,o+(i0*k+(r0+r)),none⟩=some v/\v.oneCell=true/\R C0 0 w x v)->RC C0 0 w c (row++l.flatMap enc) (o+(i0*k+r0)):=by
   intro row
   induction row with
   |nil=>intro r0 hr _;simp at hr;subst hr;rw[bd_,show o+(i0*r0+r0)=o+(i0+1)*r0 by rw[fw_]];exact h2
   |cons x row ih=>
    intro r0 hr hx;rw[ay_];unfold RC
    refine⟨by have:=hx 0 x (by simp);grind,?_⟩
    have:=ih (r0+1) gr fun r y hy=>by
     have:=hx (r+1) y gr
     grind
    rwa[show o+(i0*k+(r0+1))=o+(i0*k+r0)+1 by omega]at this
  have:=key (enc a) 0 gr fun r x hx=>by
   have:=h 0 a (by simp) r x hx
   grind
  grind
theorem Awr:∀{l:List AV} {vs:List Value},RL C0 0 w l vs->∀(r:Nat) (x:AV),l[r]? =some x->∃v,vs[r]? =some v/\R C0 0 w x v
 |[],_,_,r,x,h=>by simp at h
 |y::l,[],h,_,_,_=>by unfold RL at h;exact h.elim
 |y::l,v::vs,h,r,x,hx=>by
  unfold RL at h;cases r with
  |zero=>simp at hx;subst hx;exact⟨v,by simp,h.1⟩
  |succ r=>simp at hx;obtain⟨u,q1,q2⟩:=Awr h.2 r x hx;exact⟨u,gr,q2⟩
theorem Wa{α:Type}{enc:α->List AV}{G:α->Prop}{n t e k:Nat}(ht:Tryz.prog.underlying t=some (.slice e))(hc:Tryz.prog.cellsOf e=k)(hk:0<k)(he:∀a,(enc a).length=k)(hE:∀m,m+1=n->RdN eh w hd m e k (H9 G enc)):
  RdN eh w hd n t 1 (H9 (fun l:List α=>∀a∈l,G a) fun l=>[slV enc k l]):=by
 intro cs x h hl hw
 rcases DataW.trod_slice ht h with⟨rfl,rfl⟩|⟨a,len,cap,elems,rest,n0,hn,rfl,rfl,_,hlc,_,hel0,hel,hsp,_⟩
 ·exact⟨[slV enc k []],⟨[],fun a h=>(by cases h),rfl⟩,by unfold RL;exact⟨by unfold slV R;grind,by unfold RL;trivial⟩,fun v hv=>by rw[ao_.1 hv];rfl⟩
 ·rw[hc]at hel hsp
  have hws:∀y∈elems,∀b∈y.1.weights Tryz.prog e,b<=reachBytes:=fun y hy b hb=>hw b (by
   unfold DataW.weights;rw[ht];refine aj_ _ (dg_ _ ?_)
   have key:∀{l:List (DataW H×List MemPlace)},y∈l->b∈DataW.weightsAll Tryz.prog e (l.map (·.1)):=by
    intro l
    induction l with
    |nil=>intro h;cases h
    |cons z l ih=>
     intro h
     show b∈z.1.weights Tryz.prog e++DataW.weightsAll Tryz.prog e (l.map (·.1))
     rcases an_.1 h with rfl|h
     ·grind
     ·grind
   exact key hy)
  obtain⟨l,hll,hlp⟩:=Af0 (n:=len) (P:=fun i a'=>G a'/\∀(r:Nat) (x:AV),(enc a')[r]? =some x->∃v,w.cell? ((a.add (i*k)).add r)=some v/\v.oneCell=true/\R C0 0 w x v) fun i hi=>by
   obtain⟨y,hy⟩:∃y,elems[i]? =some y:=⟨_,az_ Om⟩;have hb:=hel i hi;rw[hy,ez_]at hb;obtain⟨ci,hci,hti⟩:=hb;obtain⟨c1,c2⟩:=Ac3 hci;obtain⟨avs,⟨b,hGb,rfl⟩,h2,h3⟩:=hE n0 hn.symm ci y hti c1 (hws y (ab_ hy));refine⟨b,hGb,fun r x hx=>?_⟩
   obtain⟨v,q1,q2⟩:=Awr h2 r x hx;exact⟨v,c2 r v q1,h3 v (ab_ q1),q2⟩
  refine⟨[slV enc k l],⟨l,fun b hb=>?_,rfl⟩,?_,fun v hv=>by rw[ao_.1 hv];rfl⟩
  ·obtain⟨i,hi⟩:=List.getElem?_of_mem hb
   grind
  ·unfold RL
   refine⟨?_,by unfold RL;trivial⟩
   unfold slV R
   refine⟨some a,cap,by rw[hll],gr,fun q hq=>(by cases hq),by rw[Dl he],fun hh=>(by cases hh),fun ad ha=>?_⟩
   cases ha;refine⟨fun h0=>?_,fun _ hh=>Al0 _ hh,?_⟩
   ·by_cases bl:0<len
    ·obtain⟨b,hb⟩:=Ar (l:=l) (i:=0) Om;have hne:0<(enc b).length:=gr;obtain⟨x,hx⟩:=Ar hne;obtain⟨v,q1,_⟩:=(hlp 0 b hb).2 0 x hx;have:=(Xk q1).1
     simpa[Addr.add]using this
    ·have hr:=(hsp rfl).2 0 Om;obtain⟨y,hy⟩:∃y,rest[0]? =some y:=⟨_,az_ gr⟩;rw[hy,ez_]at hr;obtain⟨ci,hci,_⟩:=hr;obtain⟨c1,c2⟩:=Ac3 hci;obtain⟨v,hv⟩:=Ar (l:=ci) (i:=0) Om;have:=(Xk (c2 0 v hv)).1
     have hl0:len=0:=by omega
     subst hl0
     simpa[Addr.add]using this
   ·have:=Aog (w:=w) (c:=a.block) (o:=a.off) he l 0 fun i b hb r x hx=>by
     obtain⟨v,q1,q2,q3⟩:=(hlp i b hb).2 r x hx;have q4:=(Xk q1).2;rw[(Vz _ r).1,(Vz _ r).2,(Vz a _).1,(Vz a _).2,Nat.add_assoc]at q4
     grind
    grind
end
noncomputable def Kq (t:TypeId):Option (List (TypeId×Nat×Nat)):=match Tryz.prog.underlying t with
 |some (.struct fs)=>some (fs.toList.map fun f=>(f.type,f.offset,Tryz.prog.cellsOf f.type))
 |_=>none
def Ia:Nat->List (TypeId×Nat×Nat)->Option Nat
 |o,[]=>some o
 |o,(_,off,k)::r=>if off=o then Ia (o+k) r else none
def AllQ:List (List AV->Prop)->List AV->Prop
 |[],avs=>avs=[]
 |Q::r,avs=>∃a b,Q a/\AllQ r b/\avs=a++b
section
variable {H:Type}{eh:TypeId×Value->H}{w:World}{hd:Bool}
def RdL(eh:TypeId×Value->H)(w:World)(hd:Bool)(m:Nat):List (TypeId×Nat×Nat)->List (List AV->Prop)->Prop
 |[],[]=>True
 |(t,_,k)::r,Q::s=>RdN eh w hd m t k Q/\RdL eh w hd m r s
 |_,_=>False
theorem Nw{n t k:Nat}{fl:List (TypeId×Nat×Nat)}{Qs:List (List AV->Prop)}(hf:Kq t=some fl)(hc:Ia 0 fl=some k)(hQ:∀m,m+1=n->RdL eh w hd m fl Qs):RdN eh w hd n t k (AllQ Qs):=by
 intro cs x h hl hw;unfold Kq at hf
 split at hf
 case h_2=>cases hf
 case h_1 fs ht=>
 cases hf;obtain⟨xs,m,hm,rfl,_,hxl,hxf⟩:=DataW.trod_struct ht h;have hQ:=hQ m hm.symm
 have each:∀(j:Nat) (f:TypeId×Nat×Nat),(fs.toList.map fun f=>(f.type,f.offset,Tryz.prog.cellsOf f.type))[j]? =some f->∃y,DataW.trod eh Tryz.prog w 0 (fun _=>true) hd m f.1 ((cs.drop f.2.1).take f.2.2)=some y/\∀b∈y.1.weights Tryz.prog f.1,b<=reachBytes:=by
  intro j f hj;rw[br_,cy_]at hj;obtain⟨g,hg,rfl⟩:=hj;have hj2:=(ae_.1 hg).1
  obtain⟨y,hy⟩:∃y,xs[j]? =some y:=⟨_,az_ (by rw[hxl];simpa using hj2)⟩
  have h1:=hxf j g (by simpa using hg)
  rw[hy]at h1
  dsimp only
  refine⟨y,?_,fun b hb=>hw b ?_⟩
  ·exact h1
  unfold DataW.weights;rw[ht]
  exact DataW.weights_mem_each (P:=Tryz.prog) (j:=j) (t:=g.type) (d:=y.1) (by rw[br_,hg,ds_]) (by rw[br_,hy,ds_]) b hb
 have key:∀(fl:List (TypeId×Nat×Nat)) (Qs:List (List AV->Prop)) (o:Nat),(∀(j:Nat) (f:TypeId×Nat×Nat),fl[j]? =some f->∃y,DataW.trod eh Tryz.prog w 0 (fun _=>true) hd m f.1 ((cs.drop f.2.1).take f.2.2)=some y/\∀b∈y.1.weights Tryz.prog f.1,b<=reachBytes)->
   Ia o fl=some cs.length->RdL eh w hd m fl Qs->∃avs,AllQ Qs avs/\RL C0 0 w avs (cs.drop o)/\∀v∈cs.drop o,v.oneCell=true:=by
  intro fl
  induction fl with
  |nil=>
   intro Qs o _ hch hr;simp only[Ia,af_]at hch;subst hch;cases Qs with
   |nil=>exact⟨[],rfl,by rw[ep_];unfold RL;trivial,by rw[ep_];intro v hv;cases hv⟩
   |cons _ _=>exact hr.elim
  |cons f fl ih=>
   intro Qs o he hch hr;obtain⟨t0,off,k0⟩:=f;cases Qs with
   |nil=>exact hr.elim
   |cons Q Qs=>
    unfold Ia at hch
    split at hch
    case isFalse=>cases hch
    case isTrue ho=>
    subst ho
    have ix:∀(fl:List (TypeId×Nat×Nat)) (o e:Nat),Ia o fl=some e->o<=e:=by
     intro fl
     induction fl with
     |nil=>intro o e h;simp only[Ia,af_]at h;omega
     |cons f fl ih=>
      intro o e h;obtain⟨_,off,k⟩:=f;unfold Ia at h
      split at h
      ·have:=ih _ _ h;omega
      ·cases h
    have hle:=ix _ _ _ hch;obtain⟨y,hy,hyw⟩:=he 0 _ rfl
    obtain⟨a,ha,hra,hoa⟩:=hr.1 _ y hy (by show((cs.drop off).take k0).length=k0;rw[cb_,dp_];omega) hyw
    obtain⟨b,hb,hrb,hob⟩:=ih Qs (off+k0) (fun j f hj=>he (j+1) f (by simpa using hj)) hch hr.2
    have e0:cs.drop off=(cs.drop off).take k0++cs.drop (off+k0):=by rw[←eo_,cc_]
    refine⟨a++b,⟨a,b,ha,hb,rfl⟩,?_,?_⟩
    ·rw[e0];exact hra.append hrb
    ·rw[e0];intro v hv
     rcases bb_.1 hv with hv|hv
     ·exact hoa v hv
     ·exact hob v hv
 have:=key _ Qs 0 each (by rw[hc,hl]) hQ
 simpa using this
theorem RdN.mono{n t k:Nat}{Q Q':List AV->Prop}(h:RdN eh w hd n t k Q)(hq:∀avs,Q avs->Q' avs):RdN eh w hd n t k Q':=fun cs x h1 h2 h3=>by
 obtain⟨avs,q1,q2,q3⟩:=h cs x h1 h2 h3;exact⟨avs,hq _ q1,q2,q3⟩
end
section
variable {H:Type}{eh:TypeId×Value->H}{w:World}{hd:Bool}
theorem ut4:Tryz.prog.underlying 4=some .bool:=Kr
theorem ut9:Tryz.prog.underlying 9=some .string:=Kr
theorem ut22:Tryz.prog.underlying 22=some (.slice 9):=Kr
theorem ut23:Tryz.prog.underlying 23=some (.slice 50):=Kr
theorem ut75:Tryz.prog.underlying 47=some (.slice 74):=Kr
theorem ut76:Tryz.prog.underlying 48=some (.slice 274):=Kr
theorem ct9:Tryz.prog.cellsOf 9=1:=Kr
theorem ct78:Tryz.prog.cellsOf 50=8:=Kr
theorem ct80:Tryz.prog.cellsOf 74=3:=Kr
theorem ctP:Tryz.prog.cellsOf 274=2:=Kr
theorem fl25:Kq 25=some [(22,0,1),(22,1,1),(23,2,1)]:=Kr
theorem fl80:Kq 74=some [(9,0,1),(4,1,1),(22,2,1)]:=Kr
theorem flP:Kq 274=some [(9,0,1),(9,1,1)]:=Kr
theorem fl78:Kq 50=some [(9,0,1),(4,1,1),(47,2,1),(48,3,1),(22,4,1),(47,5,1),(48,6,1),(22,7,1)]:=Kr
def M8{α:Type}(_:α):Prop:=True
theorem O8{n:Nat}:RdN eh w hd n 22 1 (H9 (M8 (α:=List Str)) fun l=>[Af l]):=
 (Wa ut22 ct9 Om (fun _=>rfl) fun m _=>Ac2 ut9).mono fun avs ⟨l,_,h⟩=>⟨l,trivial,h⟩
theorem Avy{n:Nat}:RdN eh w hd n 274 2 (H9 M8 eP):=
 (Nw (Qs:=[H9 Aqd e1,H9 Aqd e1]) flP rfl fun m _=>⟨Ac2 ut9,Ac2 ut9,trivial⟩).mono fun avs h=>by
  obtain⟨_,_,⟨a,_,rfl⟩,⟨_,_,⟨b,_,rfl⟩,rfl,rfl⟩,rfl⟩:=h;exact⟨⟨a,b⟩,trivial,rfl⟩
theorem Aki{n:Nat}:RdN eh w hd n 48 1 (H9 (M8 (α:=List Pr)) fun l=>[slV eP 2 l]):=
 (Wa ut76 ctP Om (fun _=>rfl) fun m _=>Avy).mono fun avs ⟨l,_,h⟩=>⟨l,trivial,h⟩
theorem Ax6{n:Nat}:RdN eh w hd n 74 3 (H9 M8 eH):=
 (Nw (Qs:=[H9 Aqd e1,H9 (fun _=>True) fun b:Bool=>[.bool b],H9 (M8 (α:=List Str)) fun l=>[Af l]]) fl80 rfl fun m _=>⟨Ac2 ut9,Aof ut4,O8,trivial⟩).mono fun avs h=>by
  obtain⟨_,_,⟨a,_,rfl⟩,⟨_,_,⟨b,_,rfl⟩,⟨_,_,⟨c,_,rfl⟩,rfl,rfl⟩,rfl⟩,rfl⟩:=h;exact⟨⟨a,b,c⟩,trivial,rfl⟩
theorem Aoh{n:Nat}:RdN eh w hd n 47 1 (H9 (M8 (α:=List Hp)) fun l=>[slV eH 3 l]):=
 (Wa ut75 ct80 Om (fun _=>rfl) fun m _=>Ax6).mono fun avs ⟨l,_,h⟩=>⟨l,trivial,h⟩
theorem Atp{n:Nat}:RdN eh w hd n 50 8 (H9 M8 eF):=
 (Nw (Qs:=[H9 Aqd e1,H9 (fun _=>True) fun b:Bool=>[.bool b],H9 (M8 (α:=List Hp)) fun l=>[slV eH 3 l],H9 (M8 (α:=List Pr)) fun l=>[slV eP 2 l],H9 (M8 (α:=List Str)) fun l=>[Af l],
  H9 (M8 (α:=List Hp)) fun l=>[slV eH 3 l],H9 (M8 (α:=List Pr)) fun l=>[slV eP 2 l],H9 (M8 (α:=List Str)) fun l=>[Af l]]) fl78 rfl fun m _=>⟨Ac2 ut9,Aof ut4,Aoh,Aki,O8,Aoh,Aki,O8,trivial⟩).mono fun avs h=>by
  obtain⟨_,_,⟨a,_,rfl⟩,⟨_,_,⟨b,_,rfl⟩,⟨_,_,⟨c,_,rfl⟩,⟨_,_,⟨d,_,rfl⟩,⟨_,_,⟨e,_,rfl⟩,⟨_,_,⟨f,_,rfl⟩,⟨_,_,⟨g,_,rfl⟩,⟨_,_,⟨i,_,rfl⟩,rfl,rfl⟩,rfl⟩,rfl⟩,rfl⟩,rfl⟩,rfl⟩,rfl⟩,rfl⟩:=h;exact⟨⟨a,b,c,d,e,f,g,i⟩,trivial,rfl⟩
theorem Aqe{n:Nat}:RdN eh w hd n 23 1 (H9 (M8 (α:=List Fr)) fun l=>[slV eF 8 l]):=
 (Wa ut23 ct78 Om (fun _=>rfl) fun m _=>Atp).mono fun avs ⟨l,_,h⟩=>⟨l,trivial,h⟩
theorem rd_db{n:Nat}:RdN eh w hd n 25 3 (H9 (M8 (α:=Db)) fun d=>[Af d.consts,Af d.vars,slV eF 8 d.frames]):=
 (Nw (Qs:=[H9 (M8 (α:=List Str)) fun l=>[Af l],H9 (M8 (α:=List Str)) fun l=>[Af l],H9 (M8 (α:=List Fr)) fun l=>[slV eF 8 l]]) fl25 rfl fun m _=>⟨O8,O8,Aqe,trivial⟩).mono fun avs h=>by
  obtain⟨_,_,⟨a,_,rfl⟩,⟨_,_,⟨b,_,rfl⟩,⟨_,_,⟨c,_,rfl⟩,rfl,rfl⟩,rfl⟩,rfl⟩:=h;exact⟨⟨a,b,c⟩,trivial,rfl⟩
theorem fl27:Kq 27=some [(22,0,1),(22,1,1)]:=Kr
theorem Atq{n:Nat}:RdN eh w hd n 27 2 (H9 (M8 (α:=Rs)) eRs):=
 (Nw (Qs:=[H9 (M8 (α:=List Str)) fun l=>[Af l],H9 (M8 (α:=List Str)) fun l=>[Af l]]) fl27 rfl fun m _=>⟨O8,O8,trivial⟩).mono fun avs h=>by
  obtain⟨_,_,⟨a,_,rfl⟩,⟨_,_,⟨b,_,rfl⟩,rfl,rfl⟩,rfl⟩:=h;exact⟨⟨a,b⟩,trivial,rfl⟩
end
section
mutual
def Aht {H:Type}:DataW H->List AV
 |.lit (.string s)=>[sV s]
 |.lit (.bool b)=>[.bool b]
 |.lit (.int k n)=>[.int k n]
 |.agg ps=>Ac4 ps
 |_=>[.any]
def Ac4 {H:Type}:List (DataW H)->List AV
 |[]=>[]
 |d::r=>Aht d++Ac4 r
end
section
variable {H:Type}{eh:TypeId×Value->H}{w:World}{hd:Bool}
def RdX(eh:TypeId×Value->H)(w:World)(hd:Bool)(n:Nat)(t:TypeId)(k:Nat):Prop:=
 ∀(cs:List Value) (x:DataW H×List MemPlace),DataW.trod eh Tryz.prog w 0 (fun _=>true) hd n t cs=some x->cs.length=k->RL C0 0 w (Aht x.1) cs/\∀v∈cs,v.oneCell=true
theorem Avz{n t:Nat}(ht:Tryz.prog.underlying t=some .string):RdX eh w hd n t 1:=by
 intro cs x h hl;obtain⟨s,rfl,rfl,_⟩:=DataW.trod_string ht h
 exact⟨by rw[Aht];unfold RL;exact⟨by unfold sV R;exact⟨s,rfl,rfl⟩,by unfold RL;trivial⟩,fun v hv=>by rw[ao_.1 hv];rfl⟩
theorem Atr{n t:Nat}(ht:Tryz.prog.underlying t=some .bool):RdX eh w hd n t 1:=by
 intro cs x h hl;obtain⟨b,rfl,rfl⟩:=DataW.trod_bool ht h
 exact⟨by rw[Aht];unfold RL;exact⟨by unfold R;rfl,by unfold RL;trivial⟩,fun v hv=>by rw[ao_.1 hv];rfl⟩
theorem Aoi{n t:Nat}{k:IntKind}(ht:Tryz.prog.underlying t=some (.int k)):RdX eh w hd n t 1:=by
 intro cs x h hl;obtain⟨i,rfl,rfl,_⟩:=DataW.trod_int ht h
 exact⟨by rw[Aht];unfold RL;exact⟨by unfold R;rfl,by unfold RL;trivial⟩,fun v hv=>by rw[ao_.1 hv];rfl⟩
theorem Ac5{m:Nat}{cs:List Value}:∀(fl:List (TypeId×Nat×Nat)) (xs:List (DataW H×List MemPlace)) (o:Nat),xs.length=fl.length->
  (∀(j:Nat) (f:TypeId×Nat×Nat),fl[j]? =some f->RdX eh w hd m f.1 f.2.2/\DataW.trod eh Tryz.prog w 0 (fun _=>true) hd m f.1 ((cs.drop f.2.1).take f.2.2)=xs[j]?)->Ia o fl=some cs.length->RL C0 0 w (Ac4 (xs.map (·.1))) (cs.drop o)/\∀v∈cs.drop o,v.oneCell=true
 |[],xs,o,hxl,_,hch=>by
  simp only[Ia,af_]at hch;subst hch;rw[ey_.1 hxl]
  exact⟨by rw[ep_];show RL C0 0 w (Ac4 []) [];rw[Ac4];unfold RL;trivial,by rw[ep_];intro v hv;cases hv⟩
 |(t0,off,k0)::fl,[],o,hxl,_,_=>by simp at hxl
 |(t0,off,k0)::fl,y::xs,o,hxl,he,hch=>by
  unfold Ia at hch
  split at hch
  case isFalse=>cases hch
  case isTrue ho=>
  subst ho
  have ix:∀(fl:List (TypeId×Nat×Nat)) (o e:Nat),Ia o fl=some e->o<=e:=by
   intro fl
   induction fl with
   |nil=>intro o e h;simp only[Ia,af_]at h;omega
   |cons f fl ih=>
    intro o e h;obtain⟨_,off,k⟩:=f;unfold Ia at h
    split at h
    ·have:=ih _ _ h;omega
    ·cases h
  have hle:=ix _ _ _ hch;obtain⟨h1,h2⟩:=he 0 _ rfl
  obtain⟨hra,hoa⟩:=h1 _ y h2 (by show((cs.drop off).take k0).length=k0;rw[cb_,dp_];omega)
  obtain⟨hrb,hob⟩:=Ac5 fl xs (off+k0) (by simpa using hxl) (fun j f hj=>by have:=he (j+1) f (by simpa using hj);simpa using this) hch
  have e0:cs.drop off=(cs.drop off).take k0++cs.drop (off+k0):=by rw[←eo_,cc_]
  refine⟨?_,?_⟩
  ·rw[e0]
   show RL C0 0 w (Ac4 (y.1::xs.map (·.1))) _
   rw[Ac4];exact hra.append hrb
  ·rw[e0];intro v hv
   rcases bb_.1 hv with hv|hv
   ·exact hoa v hv
   ·exact hob v hv
theorem Al2{n t k:Nat}{fl:List (TypeId×Nat×Nat)}(hf:Kq t=some fl)(hc:Ia 0 fl=some k)(hQ:∀m,m+1=n->∀(j:Nat) (f:TypeId×Nat×Nat),fl[j]? =some f->RdX eh w hd m f.1 f.2.2):RdX eh w hd n t k:=by
 intro cs x h hl;unfold Kq at hf
 split at hf
 case h_2=>cases hf
 case h_1 fs ht=>
 cases hf;obtain⟨xs,m,hm,rfl,_,hxl,hxf⟩:=DataW.trod_struct ht h
 have:=Ac5 (cs:=cs) (eh:=eh) (w:=w) (hd:=hd) (m:=m) _ xs 0 (by rw[hxl,cx_];simp) (fun j f hj=>⟨hQ m hm.symm j f hj,by
  rw[br_,cy_]at hj;obtain⟨g,hg,rfl⟩:=hj
  dsimp only
  have h1:=hxf j g (by simpa using hg)
  exact h1⟩) (by rw[hc,hl])
 rw[db_]at this;refine⟨?_,this.2⟩;rw[Aht];exact this.1
end
end
section
variable {E:Env}{Ls:List RF}{L:RF}{nt B:Nat}{Q:Cc}{ρ:Ad}{σ:Sto}
theorem Ay9{x y:Code}(h:TXR E Ls L nt B x (Pa (TXR E Ls L nt B y Q) Q) ρ σ):TXR E Ls L nt B (.seq x y) Q ρ σ:=by
 intro n C w tm a df h0 hl hm ht st hB;refine wpIn_seq (wpIn_mono (h n C w tm a df h0 hl hm ht st hB) fun e a' w' he=>?_)
 obtain⟨x',tm',ρ',σ',C',df',h1,h2,h3,h4,hm',hB',h5⟩:=he;subst h1;cases x' with
 |normal=>
  have:=h3 n C' w' tm' a' df' (h0.ext h5) (hl.ext h5) hm' h2 h4 hB';rw[h5.stm _ h0.1]at this;exact wpIn_mono this fun e a'' w'' he=>he.from h5
 |exit id=>exact⟨.exit id,tm',ρ',σ',C',df',rfl,h2,h3,h4,hm',hB',h5⟩
 |ret=>exact⟨.ret,tm',ρ',σ',C',df',rfl,h2,h3,h4,hm',hB',h5⟩
theorem Azc{id:Nat}{c:Code}(h:TXR E Ls L nt B c (Qf id Q) ρ σ):TXR E Ls L nt B (.block id c) Q ρ σ:=by
 intro n C w tm a df h0 hl hm ht st hB;refine wpIn_block (wpIn_mono (h n C w tm a df h0 hl hm ht st hB) fun e a' w' he=>?_)
 obtain⟨x',tm',ρ',σ',C',df',h1,h2,h3,h4,hm',hB',h5⟩:=he;subst h1;cases x' with
 |normal=>exact⟨.normal,tm',ρ',σ',C',df',rfl,h2,h3,h4,hm',hB',h5⟩
 |ret=>exact⟨.ret,tm',ρ',σ',C',df',rfl,h2,h3,h4,hm',hB',h5⟩
 |exit j=>
  simp only[Qf]at h3
  by_cases hj:j=id
  ·subst hj;rw[aw_]at h3;simp only[Jj,Exit.inBlock,if_true];exact⟨.normal,tm',ρ',σ',C',df',rfl,h2,h3,h4,hm',hB',h5⟩
  ·have hb:Nat.beq j id=false:=by cases hb:Nat.beq j id with|true=>exact absurd (ac_ hb) hj|false=>rfl
   rw[hb]at h3;simp only[Jj,Exit.inBlock,if_neg hj];exact⟨.exit j,tm',ρ',σ',C',df',rfl,h2,h3,h4,hm',hB',h5⟩
theorem Azl{k:Nat}{f:Operand}{ps:Array Tmp}{assign body:Code}{cap:List AV}{ls:LS}(hbu:σ.get L.aY=some (.loop ls))(hf:Ah E ρ f=some (.fn (.func k) [] cap))
  (hit:∀tm,Has tm ρ->Hl E (⟨nx σ,tm,nt,ps,assign,body⟩::Ls) k (.yl (nx σ)::cap) (σ.new (.loop .ready)) (fun _ σ'=>∃x,σ'.get (nx σ)=some (.loop (H2 x))/\Q x ρ (σ'.kill (nx σ)))):
  TXR E Ls L nt B (.rangeFunc f ps assign body) Q ρ σ:=by
 intro n C w tm a df h0 hl hm ht st hB;have hl0:LI Ls C (nx σ) w:=hl.ext ((cf_ C B w).top hB);obtain⟨c0,r0,b1,b2,b3⟩:=st.sim.obj _ _ hbu;have hc0:=h0.2.1 c0 0 b1;subst hc0;have hV:=Be st.glob st.tmps f;rw[ht.opd hf]at hV;unfold R at hV;obtain⟨p0,lb,hV,hp0,hlb⟩:=hV
 have jk:p0=#[]:=by
  have:=hp0.length
  grind
 subst jk;refine wpIn_rangeFunc fun fn _=>?_
 obtain⟨rc,hrc⟩:∃rc:Loop,rc={ state:=.ready,pending:=none,fn,tmps:=a.tmps,params:=ps,assign,body,defers:=(C9 r0 ls).defers }:=⟨_,rfl⟩
 have jm:C9 rc .ready=rc:=by rw[hrc];rfl
 obtain⟨W1,hW1⟩:∃W1,w.alloc (.loop rc)=W1:=⟨_,rfl⟩
 have hp2:Pu w W1 (.loop rc):=by rw[←hW1];exact fa_ rfl ⟨rfl,rfl⟩
 obtain⟨s3,e5⟩:=st.sim.newLoop jm hp2
 have hnx:nx (σ.new (.loop .ready))=nx σ+1:=by rw[Ao]
 rw[←hnx]at e5
 generalize hC4:((C.setLoop (nx σ) (w.heap.size:Int) rc).add (nx σ) w.heap.size 0)=C4 at s3 e5
 have ml:C4.stm (nx σ)=(w.heap.size:Int):=by rw[←hC4];simp[Ctx.add,Ctx.setLoop]
 have gb:C4.lr (nx σ)=some rc:=by rw[←hC4];simp[Ctx.add,Ctx.setLoop]
 have gc:C4.loc (nx σ)=some (w.heap.size,0):=by rw[←hC4];simp[Ctx.add]
 have hli:Gk ⟨nx σ,tm,nt,ps,assign,body⟩ C4 (nx (σ.new (.loop .ready))) W1:=by
  refine⟨gr,fun c o hc=>?_,rc,gb,?_,?_,?_,?_,?_⟩
  ·grind
  ·have:TR C (nx σ) w tm rc.tmps:=by rw[hrc];exact st.tmps
   exact this.ext e5
  ·rw[hrc];exact st.size
  ·rw[hrc]
  ·rw[hrc]
  ·rw[hrc]
 have bp:RL C4 (nx (σ.new (.loop .ready))) W1 (.yl (nx σ)::cap) (#[Value.func (.yield w.heap.size) #[] #[]]++lb).toList:=by
  simp only[cv_,ay_,bd_];unfold RL;refine⟨?_,RL.ext e5 _ _ hlb⟩;unfold R
  grind
 have hLs:LI (⟨nx σ,tm,nt,ps,assign,body⟩::Ls) C4 (nx (σ.new (.loop .ready))) W1:=fun L hL=>by
  rcases an_.1 hL with rfl|hL
  ·exact hli
  ·exact(hl0 L hL).ext e5
 obtain⟨⟨kfn,f6,dz,ce⟩,b8⟩:=hit tm ht C4 W1 _ hLs s3 (st.glob.ext e5) bp
 have en:∀args w,(callFunc k args).run E.P w=.ok (.enter k args) w:=fun args w=>by
  have g2':kfn.name≠ "runtime.NumGoroutine" :=gr;have g3':kfn.body≠none:=gr
  simp[callFunc,f6,g2',g3']
 refine⟨w.heap.size,[],W1,{ target:=.fn (.func k) lb,args:=#[.func (.yield w.heap.size) #[] #[]] },W1,k,
  #[.func (.yield w.heap.size) #[] #[]]++lb,W1,?_,?_,fun _ _=>trivial,?_,fun hh=>(by cases hh),?_⟩
 ·rw[←hW1,hrc];show Sem.run _ (Instr.enterLoop _ _ _ _ _ (some _)) _=_;unfold Instr.enterLoop;simp only[Sem.run_bind,run_getLoop b3,run_newObj_alloc,Result.andThen,Sem.run_pure]
 ·simp only[resolve,hV]
  simp[go_sem]
 ·simp[invoke,go_sem,en]
 ·refine(callsIn_wide).2 (b8.mono fun e w₃ he=>?_)
  cases e with
  |returned x=>
   obtain⟨v₀,σ',C₃,⟨x₀,hgl,bh⟩,k1,k2,_⟩:=he;have jq:=(k2.lr (nx σ) gr).trans gb;obtain⟨c,r,g1,g2,g3⟩:=k1.obj _ _ hgl;rw[jq]at g2;cases g2;have hcl:=k2.loc _ gr _ g1;rw[gc]at hcl;cases hcl;obtain⟨m1,m2⟩:=k1.kill (nx σ)
   have hnL:¬(C₃.del (nx σ)).own w.heap.size:=fun hh=>by
    rcases hh with hh|⟨x,o,hh⟩
    ·exact k1.rdis _ _ _ g1 hh
    ·by_cases hx:x=nx σ
     ·simp[Ctx.del,hx]at hh
     ·simp[Ctx.del,hx]at hh
      exact hx (k1.inj _ _ _ _ _ hh g1)
   have t:Jb w₃ (w₃.putObj w.heap.size (.loop { C9 rc (H2 x₀)with state:=.exhausted })) w.heap.size:=gy_ g3 rfl rfl;have e6:=((e5.trans k2).trans m2).turnNew t hnL Om;rw[←B3 σ' (nx σ)]at e6;have jv:SSt E (C₃.del (nx σ)) (w₃.putObj w.heap.size (.loop { C9 rc (H2 x₀)with state:=.exhausted })) ⟨tm,nt,df,σ'.kill (nx σ)⟩ { a with defers:=[]++a.defers }:=⟨m1.turn t hnL,st.glob.ext e6,st.tmps.ext e6,st.size,st.dfs.ext e6⟩;have hBk:B<=nx (σ'.kill (nx σ)):=ai_ hB e6.next;have hE:∀e,Jj x₀=e->Kg E nt 0 B Q C w e { a with defers:=[]++a.defers } _:=fun e he=>⟨x₀,tm,ρ,_,_,_,he,ht,bh,jv,hm,hBk,e6.base hB⟩
   cases x₀ with
   |normal=>exact⟨none,_,run_endLoop (P:=E.P) g3 (by simp[C9,H2]),hE _ rfl⟩
   |ret=>exact⟨some .ret,_,run_endLoop (P:=E.P) g3 (by simp[C9,H2]),wpIn_ret (hE _ rfl)⟩
   |exit id=>exact⟨some (.exit id),_,run_endLoop (P:=E.P) g3 (by simp[C9,H2]),wpIn_exit (hE _ rfl)⟩
  |panicked _=>exact he.elim
  |outgrown=>exact he.elim
end
def rkG(m:SM Nat)(s:Str):Nat:=(m.get s).getD 0
def rkN(m:SM Nat)(t:Ax):Nat:=(Sh t).foldl (fun n x=>max n (rkG m (Mb x))) 0
def rkS(s:SM Nat×List Nat)(x:Df):SM Nat×List Nat:=(s.1.put x.label (max (rkG s.1 x.label) (rkN s.1 x.right+1)),s.2++[rkN s.1 x.right+1])
def Ax7(d:Db)(r:Rs):List Nat:=(((Ip d r).map (·.2)).foldl rkS ([],[])).2
def Azi(A:List Df)(L:List Nat)(t:Ax)(m b:Nat):Nat:=if Hk t ((A[b]?.map (·.label)).getD [])=true then max m (L.getD b 0)else m
def Ax9(A:List Df)(L:List Nat)(t:Ax)(k:Nat):Nat:=(List.range k).foldl (Azi A L t) 0
theorem Aza{m:SM Nat}{s t:Str}{v:Nat}:rkG (m.put s v) t=if t=s then v else rkG m t:=by
 unfold rkG;rw[ch_];split<;>rfl
theorem Azf{α:Type}{f:α->Nat}{c:Nat}:∀(l:List α) (n:Nat),l.foldl (fun n x=>max n (f x)) n<=c↔n<=c/\∀x∈l,f x<=c
 |[],n=>by simp
 |x::l,n=>by
  rw[ct_,Azf l]
  grind
theorem Azb{A:List Df}{L:List Nat}{t:Ax}{c:Nat}:∀(l:List Nat) (n:Nat),l.foldl (Azi A L t) n<=c↔n<=c/\∀b∈l,Hk t ((A[b]?.map (·.label)).getD [])=true->L.getD b 0<=c
 |[],n=>by simp
 |x::l,n=>by
  rw[ct_,Azb l];simp only[an_,forall_eq_or_imp];unfold Azi
  grind
theorem Azn{a b:Nat}(h:∀c,a<=c↔b<=c):a=b:=Nat.le_antisymm ((h _).2 nl) ((h _).1 nl)
theorem Azh{t:Ax}{s:Str}:Hk t s=true↔∃x∈Sh t,Mb x=s:=by
 unfold Hk;grind
structure RkI (A:List Df)(k:Nat)(s:SM Nat×List Nat):Prop where
 l:s.2.length=k
 v:∀(n:Nat) (x:Df),n<k->A[n]? =some x->rkG s.1 x.label=s.2.getD n 0
 z:∀t,(∀(n:Nat) (x:Df),n<k->A[n]? =some x->x.label≠t)->rkG s.1 t=0
theorem Azr{A:List Df}{k:Nat}{s:SM Nat×List Nat}{x:Df}(hne:∀(n:Nat) (y:Df),n<k->A[n]? =some y->y.label≠x.label)(hx:A[k]? =some x)(h:RkI A k s):RkI A (k+1) (rkS s x):=by
 have h0:=h.z x.label hne;have hl:=h.l
 refine⟨by simp[rkS,h.l],fun n y hn hy=>?_,fun t ht=>?_⟩
 ·show rkG (s.1.put _ _) _=(s.2++[_]).getD n 0
  rw[Aza,h0,Nat.max_eq_right (aq_ _)]
  by_cases hk:n=k
  ·grind
  ·rw[if_neg (hne n y Om hy),h.v n y Om hy,List.getD,List.getD,cg_ Om]
 ·show rkG (s.1.put _ _) _=0
  rw[Aza,if_neg (fun e=>ht k x Om hx e.symm)]
  exact h.z t fun n y hn hy=>ht n y Om hy
theorem Azo{A:List Df}(hne:∀(m n:Nat) (x y:Df),m<n->A[m]? =some x->A[n]? =some y->x.label≠y.label):∀k,k<=A.length->RkI A k ((A.take k).foldl rkS ([],[]))
 |0,_=>⟨rfl,fun n x h=>absurd h Om,fun t _=>rfl⟩
 |k+1,h=>by
  obtain⟨x,hx⟩:=Ar (show k<A.length by omega)
  rw[List.take_add_one,hx,Option.toList,List.foldl_append];exact Azr (fun n y hn hy=>hne n k y x hn hy hx) hx (Azo hne k Om)
theorem Azj{n:Nat}:∀(l:List Df) (s:SM Nat×List Nat),n<s.2.length->(l.foldl rkS s).2.getD n 0=s.2.getD n 0
 |[],_,_=>rfl
 |x::l,s,h=>by
  rw[ct_,Azj l _ (by simp[rkS];omega)]
  show(s.2++[_]).getD n 0=_
  grind
theorem Azt{A:List Df}(hne:∀(m n:Nat) (x y:Df),m<n->A[m]? =some x->A[n]? =some y->x.label≠y.label/\Hk x.right y.label=false)(hc:∀x∈A,Hk x.right x.label=false){a:Nat}{x:Df}(hx:A[a]? =some x):(A.foldl rkS ([],[])).2.getD a 0=Ax9 A (A.foldl rkS ([],[])).2 x.right A.length+1:=by
 have ha:=(ae_.1 hx).1;have hI:=Azo (fun m n x y q1 q2 q3=>(hne m n x y q1 q2 q3).1)
 obtain⟨s,hs⟩:∃s,(A.take a).foldl rkS ([],[])=s:=⟨_,rfl⟩;have hIa:=hI a Om;rw[hs]at hIa
 have hsp:A=A.take a++x::A.drop (a+1):=by
  rw[←A4 hx,cc_]
 have hL:A.foldl rkS ([],[])=(A.drop (a+1)).foldl rkS (rkS s x):=gr
 have hlo:∀n,n<a+1->(A.foldl rkS ([],[])).2.getD n 0=(rkS s x).2.getD n 0:=fun n hn=>by
  rw[hL];exact Azj _ _ (by simp[rkS,hIa.l];omega)
 have hva:(A.foldl rkS ([],[])).2.getD a 0=rkN s.1 x.right+1:=by
  rw[hlo a Om]
  show(s.2++[_]).getD a 0=_
  rw[←hIa.l];grind
 have hvn:∀n,n<a->(A.foldl rkS ([],[])).2.getD n 0=s.2.getD n 0:=fun n hn=>by
  rw[hlo n Om]
  show(s.2++[_]).getD n 0=_
  rw[List.getD,List.getD,cg_ (by rw[hIa.l];omega)]
 rw[hva]
 congr 1
 refine Azn fun c=>?_
 unfold rkN Ax9;rw[Azf,Azb];refine⟨fun h=>⟨aq_ _,fun b hb hh=>?_⟩,fun h=>⟨aq_ _,fun y hy=>?_⟩⟩
 ·have hb:=cw_.1 hb;obtain⟨z,hz⟩:=Ar hb;rw[hz]at hh;have hh:Hk x.right z.label=true:=hh
  rcases Nat.lt_trichotomy b a with q|q|q
  ·rw[hvn b q,←hIa.v b z q hz];obtain⟨y,hy,e⟩:=Azh.1 hh
   grind
  ·grind
  grind
 ·by_cases q:∃n z,n<a/\A[n]? =some z/\z.label=Mb y
  ·obtain⟨n,z,h1,h2,h3⟩:=q;rw[←h3,hIa.v n z h1 h2,←hvn n h1];refine h.2 n (cw_.2 Om) ?_;rw[h2];exact Azh.2 ⟨y,hy,h3.symm⟩
  ·rw[hIa.z (Mb y) fun n z h1 h2 h3=>q ⟨n,z,h1,h2,h3⟩];grind
theorem Azm{d:Db}{r:Rs}(he:∀s,Ki r.equal s=true->eqD d s=true){a:Nat}{x:Df}(hx:((Ip d r).map (·.2))[a]? =some x):(Ax7 d r).getD a 0=Ax9 ((Ip d r).map (·.2)) (Ax7 d r) x.right (Ip d r).length+1:=by
 have:=Azt (A:=(Ip d r).map (·.2)) (fun m n x y hmn hm hn=>?_) (fun x hx=>?_) hx
 ·rw[cx_]at this;exact this
 ·rw[br_]at hm hn;obtain⟨⟨i,x'⟩,hm1,rfl⟩:=cy_.1 hm;obtain⟨⟨j,y'⟩,hn1,rfl⟩:=cy_.1 hn;exact Ax1 he (Ake (ab_ hm1)).2 (Ake (ab_ hn1)).2 (Avr hmn hm1 hn1)
 ·obtain⟨⟨i,x'⟩,hm,rfl⟩:=bt_.1 hx;exact(Axz he (Ake hm).2).c
theorem Azd(d:Db)(r:Rs):(Ax7 d r).length=(Ip d r).length:=by
 have h:∀(l:List Df) (s:SM Nat×List Nat),(l.foldl rkS s).2.length=s.2.length+l.length:=fun l=>by
  induction l with
  |nil=>intro s;rfl
  |cons x l ih=>intro s;rw[ct_,ih];simp[rkS];omega
 unfold Ax7;rw[h];simp
def Aya(d:Db)(r:Rs):List Nat×Int:=if Kh d r≠0 then([],Kh d r)else(Ax7 d r,0)
theorem Azk{m:SM Nat}{s:Str}:((m.get s).map nV).getD (.int .i64 0)=nV (rkG m s):=by unfold rkG;cases m.get s<;>rfl
theorem Azg{E:Env}{Rr:Rec}{ρ:Ad}{σ:Sto}{t tys:Nat}{x y:Operand}{p q:Nat}(hi:okI E.P t=true)(hx:Ah E ρ x=some (nV p))(hy:Ah E ρ y=some (nV q)):As E Rr (.call ⟨.builtin .max,#[x,y],#[t,tys]⟩) ρ σ (nV (max p q)) σ:=by
 have h:=Aw4 (Rr:=Rr) (σ:=σ) (tys:=tys) hi hx hy;have e:max (Int.ofNat p) (Int.ofNat q)=Int.ofNat (max p q):=gr;rw[e]at h;exact h
instance:Zi 123 [.nil (.map none)]:={}
theorem f21{d r}(hD:DbB d)(hvf:d.vars.length+d.frames.length<1000000)(hH:Kh d r=0->DOk d r)(σ:Sto):
  Cv 21 [dbV d,.agg (eRs r)] σ (.tup [slV eNn 1 (Aya d r).1,iV (Aya d r).2]):=by
 have hfn:=hD.n;refine gm_ ?_;refine Mo Tryz.func21 (Ke _ _ Tryz.func21) rfl rfl fun hw hu0=>?_
 iterate  11 refine G ?_
 refine Az rfl rfl rfl rfl (f51 r _ hD hvf) ?_
 rintro _ σ1 (⟨ho,rfl,rfl⟩|⟨ho,P,mT,rfl,hB1,hP1,hm1,hm2,n1,g1⟩)
 ·have bs:Aya d r=([],Kh d r):=if_pos ho
  iterate  12 refine G ?_
  refine A0 rfl (fun h1=>?_) (fun h1=>absurd h1 (by simp[ho]))
  iterate  7 refine G ?_
  rw[bs];exact⟨_,rfl,.tup [.sv [] 1 0 none,iV (Kh d r)],σ,am_ hw ⟨gr,fun _ _=>Fe⟩,nl,.tup (.cons (.nils gr) (.cons (.same rfl) .nil)),rfl,rfl⟩
 ·have H:=hH ho;have bs:Aya d r=(Ax7 d r,0):=if_neg (fun q=>q ho)
  rw[Bm]at hP1 hm1 n1 g1;have g1:∀b,b<nx σ->σ1.get b=σ.get b:=gr
  iterate  12 refine G ?_
  refine A0 rfl gr (fun h1=>?_)
  refine G ?_;obtain⟨σ2,hσ2⟩:∃σ2,σ1.new (.cells [nS])=σ2:=⟨_,rfl⟩;have n2:nx σ2=nx σ1+1:=gr;have g2:∀b,b<nx σ1->σ2.get b=σ1.get b:=gr;have l2:σ2.get (nx σ1)=some (.cells [nS]):=gr;refine Gi fun hw1=>?_
  have hP2:=(hB1.lt hw1).1;have hB2:BkS d r P mT σ2:=hB1.of_get (g2 P hP2) (g2 mT hm2)
  iterate  2 refine G ?_
  refine O1 (Bj (n:=nx σ1) ziC rfl) ?_;refine G ?_;rw[hσ2];obtain⟨aL,haL⟩:∃aL,nx σ1=aL:=⟨_,rfl⟩;rw[haL]at l2 n2 g2 hP2 hm2⊢;obtain⟨aM,haM⟩:∃aM,nx σ2=aM:=⟨_,rfl⟩;obtain⟨σ3,hσ3⟩:∃σ3,σ2.new (.map 9 [] 0)=σ3:=⟨_,rfl⟩;have n3:nx σ3=nx σ2+1:=gr;have g3:∀b,b<nx σ2->σ3.get b=σ2.get b:=gr
  have m3:B8 nV σ3 aM []:=by rw[←hσ3,←haM];exact B8.fresh (m:=[]) (enc:=nV)
  have hB3:BkS d r P mT σ3:=hB2.of_get (g3 P Om) (g3 mT Om)
  iterate  2 refine G ?_
  refine O1 (Cd (n:=aM) Arn haM) ?_;rw[hσ3]
  iterate  2 refine G ?_
  obtain⟨aY,haY⟩:∃aY,nx σ3+1=aY:=⟨_,rfl⟩;obtain⟨σ7,hσ7⟩:∃σ7,σ3.bump.new (.loop .ready)=σ7:=⟨_,rfl⟩;have n7:nx σ7=nx σ3+2:=gr;have g7:∀b,b<nx σ3->σ7.get b=σ3.get b:=gr;have y7:σ7.get aY=some (.loop .ready):=gr;have hB7:BkS d r P mT σ7:=hB3.of_get (g7 P Om) (g7 mT Om)
  iterate  4 refine G ?_
  refine Nm rfl rfl rfl rfl (f52 (σ:=σ3) Om) ?_
  iterate  2 refine G ?_
  refine L6 rfl (fun tm htm=>?_)
  rw[hσ7,haY]
  refine et_ (f105 (L:=⟨aY,tm,Tryz.f21.ntmps,_,_,_⟩) (I:=fun n (a:SM Nat×List Nat) F τ=>∃vL,F=(fun b=>b=aL∨adr vL=some b∨b=aM)/\τ.get aY=some (.loop .ready)/\τ.get aL=some (.cells [vL])/\Own τ (aY+1) eNn 1 a.2 vL/\B8 nV τ aM a.1/\((∀s,rkG a.1 s<=a.2.length)/\a.2.length<=n)/\aY<nx τ/\∀b,b<nx σ->τ.get b=σ.get b) (J:=fun _ _=>False) (st:=fun a q=>some (rkS a q.2)) (ap_ ..) H ⟨?ext,?y⟩ ([],[]) (fun b=>b=aL∨b=aM) σ7 hB7 ⟨nS,by funext b;simp[adr],y7,(g7 _ Om).trans ((g3 _ Om).trans l2),.nil,m3.of_get (g7 _ Om),⟨fun s=>nl,aq_ _⟩,by omega,gr⟩ gr) ?pos
  case ext=>
   rintro n n' a F τ τ' ⟨vL,h1,h2,h3,h4,h5,h6,h7,h8⟩ hnn hn hg
   exact⟨vL,h1,gr,gr,h4.of_get hn (fun b q=>hg b (h4.adr_lt q).2 (by have:=(h4.adr_lt q).1;omega)),h5.of_get (hg _ Om Om),⟨h6.1,by omega⟩,by omega,gr⟩
  case y=>
   rintro n a F i x τ hni hi hch hBt ⟨vL,rfl,hyt,hlt,hot,hmt,⟨hbd,hla⟩,hyl,hgt⟩;have heq:=(Tx H.op).1;have hKx:=(Acy heq (Xi hch).1).1
   obtain⟨lr,kr,hrt⟩:∃lr kr,x.right=.node lr kr:=by cases x.right;grind
   have hE:eDf x=[sV x.label,Af x.args,Af x.dummies,sV lr,slV eT 2 kr]:=by unfold eDf;rw[hrt,Cl];rfl
   rw[hE];rw[hrt]at hKx;obtain⟨τ1,hτ1⟩:∃τ1,τ.set aY (.loop .busy)=τ1:=⟨_,rfl⟩;have nt1:nx τ1=nx τ:=gr;have gt1:∀b,b≠aY->τ1.get b=τ.get b:=gr;have yt1:τ1.get aY=some (.loop .busy):=gr;refine Azq htm rfl Kr Kr hyt gr ?_
   iterate  3 refine G ?_
   refine⟨hyt,?_⟩;rw[show τ.set aY (.loop .busy)=τ1 from hτ1]
   obtain⟨aN,haN⟩:∃aN,nx τ1=aN:=⟨_,rfl⟩;obtain⟨τ2,hτ2⟩:∃τ2,(τ1.new (.cells [.int .i64 0])).set aN (.cells [nV 0])=τ2:=⟨_,rfl⟩;have n2t:nx τ2=nx τ1+1:=gr;have g2t:∀b,b<nx τ1->τ2.get b=τ1.get b:=gr;have N2:τ2.get aN=some (.cells [nV 0]):=gr;refine Azc ?_;refine Ay9 ?_;refine Aze (Dy fun df=>B7 ?_)
   refine O1 (Bj (n:=aN) ziC haN) (O1 (sO (cs:=[.int .i64 0]) (cs':=[nV 0]) (by rw[ag_,if_pos haN.symm])) ?_)
   refine G ?_;rw[hτ2]
   have h58:Al Ew 58 [.agg [sV lr,slV eT 2 kr]] τ2 fun v σ'=>v=Awm (.node lr kr)/\σ'=τ2:=by have:=f58 (.node lr kr) τ2;rwa[Cg]at this
   refine Ay9 ?_;refine Ay9 ?_;refine Aze (Dy fun df=>B7 ?_)
   iterate  2 refine G ?_
   refine Ca h58 ?_;refine G ?_;refine Azc ?_;refine Azl (ls:=.busy) (show τ2.get aY=_ from(g2t _ Om).trans yt1) rfl (fun tm2 htm2=>?_)
   obtain⟨aZ,haZ⟩:∃aZ,nx τ2=aZ:=⟨_,rfl⟩;obtain⟨τ7,hτ7⟩:∃τ7,τ2.new (.loop .ready)=τ7:=⟨_,rfl⟩;have n7t:nx τ7=nx τ2+1:=gr;have g7t:∀b,b<nx τ2->τ7.get b=τ2.get b:=gr;have y7t:τ7.get aZ=some (.loop .ready):=gr;rw[hτ7,haZ]
   refine et_ (f110 (L:=⟨aZ,tm2,Tryz.f21.ntmps,_,_,_⟩) (mT:=aZ) (I:=fun(k:Nat) F υ=>F=(fun b=>b=aN)/\υ.get aZ=some (.loop .ready)/\υ.get aN=some (.cells [nV k])/\k<=a.2.length/\aZ<nx υ/\∀b,b<aZ->b≠aN->υ.get b=τ2.get b) (J:=fun _ _=>False) (st:=fun k z=>some (max k (rkG a.1 (Mb z)))) (ap_ ..) ⟨?ext2,?y2⟩ hKx 0 (fun b=>b=aN) τ7 ⟨rfl,y7t,(g7t _ Om).trans N2,aq_ _,by omega,fun b hb _=>g7t b Om⟩ gr Om) ?pos2
   case ext2=>
    rintro k F υ υ' ⟨h1,h2,h3,h4,h5,h6⟩ hn hg
    exact⟨h1,gr,gr,h4,by omega,gr⟩
   case y2=>
    rintro k F z υ ⟨rfl,hyu,hNu,hku,hlu,hgu⟩
    obtain⟨lk,kk,rfl⟩:∃lk kk,z=.node lk kk:=by cases z;grind
    rw[Cg];obtain⟨υ1,hυ1⟩:∃υ1,υ.set aZ (.loop .busy)=υ1:=⟨_,rfl⟩;have nu1:nx υ1=nx υ:=gr;have gu1:∀b,b≠aZ->υ1.get b=υ.get b:=gr;have yu1:υ1.get aZ=some (.loop .busy):=gr;have Nu1:υ1.get aN=some (.cells [nV k]):=(gu1 _ Om).trans hNu;have mu1:B8 nV υ1 aM a.1:=hmt.of_get gr;refine Tk htm2 rfl Kr Kr Kr hyu gr ?_
    iterate  3 refine G ?_
    refine⟨hyu,?_⟩;rw[show υ.set aZ (.loop .busy)=υ1 from hυ1]
    iterate  2 refine G ?_
    refine O1 (lO Nu1) ?_
    iterate  3 refine G ?_
    refine O1 (Ahh (u:=nV (rkG a.1 lk)) st9 Arn rfl mu1 rfl Azk) (O1 (Azg okC rfl rfl) (O1 (sO (cs':=[nV (max k (rkG a.1 lk))]) Nu1) ?_));refine G ?_
    refine⟨gr,rfl,_,⟨rfl,by rw[aa_,if_pos rfl];rfl,by rw[aa_,if_neg gr,aa_,if_pos rfl];rfl,Nat.max_le.2 ⟨hku,hbd lk⟩,gr,gr⟩,gr,fun b hb=>.inl hb,gr⟩
   case pos2=>
    intro u τ' bh;rw[Ahp]at bh;obtain⟨F',⟨_,hy9,hN9,hk9,hl9,hg9⟩,ig⟩:=bh;obtain⟨K,hK⟩:∃K,rkN a.1 x.right=K:=⟨_,rfl⟩
    have hK':(Sh (.node lr kr)).foldl (fun k z=>max k (rkG a.1 (Mb z))) 0=K:=by rw[←hK,hrt];rfl
    rw[hK']at hN9 hk9;refine⟨.normal,hy9,?_⟩;obtain⟨τ9,hτ9⟩:∃τ9,τ'.kill aZ=τ9:=⟨_,rfl⟩;rw[show τ'.kill aZ=τ9 from hτ9]
    have n9:nx τ9=nx τ':=gr;have k9:∀b,b≠aZ->τ9.get b=τ'.get b:=gr;have gz:∀b,b<nx τ1->τ9.get b=τ1.get b:=gr;have N9:τ9.get aN=some (.cells [nV K]):=(k9 _ Om).trans hN9;have y9:τ9.get aY=some (.loop .busy):=(gz _ Om).trans yt1;have l9:τ9.get aL=some (.cells [vL]):=gr
    have o9:Own τ9 (aY+1) eNn 1 a.2 vL:=hot.of_get Om (fun b q=>by have:=hot.adr_lt q;grind)
    have o8:∀b,b<=aY->adr vL≠some b:=fun b h e=>by have:=(hot.adr_lt e).1;omega
    obtain⟨vr,hmv⟩:=hmt;have m9:τ9.get aM=some (.map 9 (Cn nV a.1) vr):=gr
    obtain⟨τ10,hap,n10,jr,g10⟩:=dn_ (enc:=eNn) (sz:=1) (by':=8) (fun _=>rfl) (show aY+1<=nx τ9 by omega) o9 (K+1) (by simp only[sizeLim];omega)
    have l10:τ10.get aL=some (.cells [vL]):=(g10 _ Om (o8 _ Om)).trans l9
    have y10:τ10.get aY=some (.loop .busy):=(g10 _ Om (o8 _ Om)).trans y9
    have N10:τ10.get aN=some (.cells [nV K]):=(g10 _ Om (fun e=>by have:=(hot.adr_lt e).2;omega)).trans N9
    have m10:τ10.get aM=some (.map 9 (Cn nV a.1) vr):=(g10 _ Om (o8 _ Om)).trans m9
    obtain⟨τ11,hτ11⟩:∃τ11,τ10.set aL (.cells [.sr (nx τ9) 0 1 (a.2.length+1) none])=τ11:=⟨_,rfl⟩;have n11:nx τ11=nx τ10:=gr;have g11:∀b,b≠aL->τ11.get b=τ10.get b:=gr;have l11:τ11.get aL=some (.cells [.sr (nx τ9) 0 1 (a.2.length+1) none]):=gr;have m11:τ11.get aM=some (.map 9 (Cn nV a.1) vr):=(g11 _ Om).trans m10;refine Ay9 ?_;refine Aze (Dy fun df=>B7 ?_)
    refine O1 (lO l9) (O1 (lO N9) ?_);refine G ?_;refine Cx (Ai elC byW rfl rfl rfl) (Dv (len:=1)) rfl rfl (O1 (Av elC rfl slC rfl rfl rfl (new:=eNn (K+1)) rfl hap) (O1 (sO (cs':=[.sr (nx τ9) 0 1 (a.2.length+1) none]) l10) ?_));refine G ?_;rw[show τ10.set aL (.cells [.sr (nx τ9) 0 1 (a.2.length+1) none])=τ11 from hτ11]
    refine Aze (Dy fun df=>B7 ?_)
    iterate  6 refine G ?_
    refine O1 (Ahh (u:=nV (rkG a.1 x.label)) st9 Arn rfl ⟨vr,m11⟩ rfl Azk) (O1 (E8 ((g11 _ Om).trans N10) ldC rfl rfl) ?_);refine G ?_;refine O1 (Azg (q:=K+1) okC rfl rfl) (O1 (Gh (enc:=nV) (v:=max (rkG a.1 x.label) (K+1)) st9 Arn rfl m11 rfl rfl (fun te k1 k2=>I2 k1 k2)) ?_)
    refine G ?_
    have hrS:rkS a x=(a.1.put x.label (max (rkG a.1 x.label) (K+1)),a.2++[K+1]):=by unfold rkS;rw[hK]
    obtain⟨τ12,hτ12⟩:∃τ12,τ11.set aM (.map 9 (Cn nV (a.1.put x.label (max (rkG a.1 x.label) (K+1)))) (vr+1))=τ12:=⟨_,rfl⟩;rw[show τ11.set aM _=τ12 from hτ12]
    have n12:nx τ12=nx τ11:=gr;have g12:∀b,b≠aM->τ12.get b=τ11.get b:=gr;have iw:∀b,b<nx τ1->b≠aL->b≠aM->adr vL≠some b->τ12.get b=τ1.get b:=gr;refine⟨show τ12.get aY=_ from(g12 _ Om).trans ((g11 _ Om).trans y10),?_,?_⟩
    ·refine hBt.of_get ?_ ?_
     ·rw[aa_,if_neg gr,iw P Om Om Om (o8 _ Om),gt1 _ Om]
     ·rw[aa_,if_neg gr,iw mT Om Om Om (o8 _ Om),gt1 _ Om]
    ·show _/\∃F',_
     rw[hrS]
     refine⟨rfl,_,⟨.sr (nx τ9) 0 1 (a.2.length+1) none,rfl,by rw[aa_,if_pos rfl];rfl,?_,?_,?_,⟨fun s=>?_,?_⟩,gr,fun b hb=>?_⟩,?_⟩
     ·grind
     ·exact jr.of_get gr (fun b q=>by have:=(jr.adr_lt q).1;grind)
     ·exact⟨vr+1,gr⟩
     ·show rkG (a.1.put _ _) s<=(a.2++[K+1]).length
      have h1:=hbd x.label;have h2:=hbd s;rw[Aza,bx_,fh_]
      grind
     ·grind
     ·rw[aa_,if_neg gr,iw b Om Om Om (o8 _ Om),gt1 b Om]
      exact hgt b hb
     ·refine⟨gr,fun b hb=>?_,fun b hb hF h1 _=>?_⟩
      ·rcases hb with rfl|hb|rfl
       ·grind
       ·have hb:some (nx τ9)=some b:=hb
        grind
       grind
      ·by_cases hbY:b=aY
       ·subst hbY;rw[aa_,if_pos rfl,hyt];rfl
       grind
  case pos=>
   rintro u σ' ⟨hB9,bh⟩;rw[Ahp]at bh;obtain⟨F',⟨vL,_,hy9,hl9,ho9,_,_,hn9,hg9⟩,ig⟩:=bh
   rw[show(Ip d r).foldl (fun a q=>rkS a q.2) ([],[])=((Ip d r).map (·.2)).foldl rkS ([],[])from by rw[List.foldl_map]]at ho9
   refine⟨.normal,hy9,?_⟩;have hk9:(σ'.kill aY).get aL=some (.cells [vL]):=gr
   iterate  2 refine G ?_
   refine O1 (lO hk9) ?_
   iterate  4 refine G ?_
   have ho:Own (σ'.kill aY) (aY+1) eNn 1 (Ax7 d r) vL:=ho9.of_get gr (fun b q=>by rw[bf_,if_neg (by have:=(ho9.adr_lt q).1;omega)])
   rw[bs];exact⟨_,rfl,.tup [slV eNn 1 (Ax7 d r),iV 0],σ,am_ hw ⟨gr,gr⟩,nl,.tup (.cons (ho.fz (fun _=>rfl) (fun a ha=>hw.none Om) (A2 (fun _=>rfl) _)) (.cons (.same rfl) .nil)),rfl,rfl⟩
theorem Azs:∀(l:List Df) (s:SM Nat×List Nat),(∀t,rkG s.1 t<=s.2.length)->(∀n,s.2.getD n 0<=s.2.length)->(∀n,(l.foldl rkS s).2.getD n 0<=(l.foldl rkS s).2.length)
 |[],_,_,h=>h
 |x::l,s,h1,h2=>by
  have hN:rkN s.1 x.right<=s.2.length:=(Azf _ _).2 ⟨aq_ _,fun y _=>h1 _⟩
  refine Azs l _ (fun t=>?_) (fun n=>?_)
  ·show rkG (s.1.put _ _) t<=(s.2++[_]).length
   have:=h1 x.label;have:=h1 t;rw[Aza,bx_,fh_]
   grind
  ·show(s.2++[_]).getD n 0<=(s.2++[_]).length
   rw[bx_,fh_]
   rcases Nat.lt_trichotomy n s.2.length with q|q|q
   ·have:=h2 n
    grind
   ·grind
   grind
theorem Azp(d:Db)(r:Rs)(n:Nat):(Ax7 d r).getD n 0<=(Ip d r).length:=by
 rw[←Azd d r];exact Azs _ _ (fun t=>nl) (fun n=>nl) n
abbrev xV(x:Df)(l:Str)(k:List Ax):List AV:=[sV x.label,Af x.args,Af x.dummies,sV l,slV eT 2 k]
theorem f4{d r}(hH:W6 d 25 100=true->DbB d/\d.vars.length+d.frames.length<1000000/\(Kh d r=0->DOk d r))(hA:∀σ,Cv 10 [] σ (.bool true))(σ:Sto):
  Cv 4 [dbV d,.agg (eRs r)] σ (.bool true):=by
 refine Aj Tryz.func4 rfl rfl fun hw hu0=>?_
 refine G10 ?_
 refine Ca (f9 d 25 100 _ (by decide) (by decide)) ?_
 refine G2 ?_;refine Qh 3 _ (!fewR r) rfl rfl rfl rfl rfl (Eh rfl) (fun hg=>?_) (fun hg=>?_) ?_
 ·refine Bi rfl rfl rfl rfl (by first|rfl|(rw[hg];rfl)) noR rfl rfl (Ac ldC rfl rfl rfl) ?_
  refine Bh rfl rfl rfl (by first|rfl|(rw[hg];rfl)) rfl rfl rfl rfl (f9w r _) ?_
  refine Bi rfl rfl rfl rfl (by first|rfl|(rw[hg];rfl)) noR rfl rfl (Dc rfl) ?_
  refine G ?_;refine⟨rfl,?_,?_⟩
  ·exact sb
  ·exact rfl
 ·iterate 3 refine Of hg ?_
  refine G ?_;exact⟨rfl,sb⟩
 refine G ?_;refine Ab rfl ?_ ?_<;>intro h1
 ·refine G2 ?_;refine Ca (hA _) ?_;refine G3 ?_;exact⟨_,rfl,_,_,a_ hw nl (fun _ _=>rfl),nl,.same rfl,rfl,rfl⟩
 ·obtain⟨hD,hvf,hH⟩:DbB d/\d.vars.length+d.frames.length<1000000/\(Kh d r=0->DOk d r):=gr;have hfn:=hD.n;refine G2 ?_;refine XX 1 (l:=[(12,[.agg (eRs r)],σ,.agg (eRs r),σ),(11,[dbV d,.agg (eRs r)],σ,.tup [slV eNn 1 (Ac0 d r).1,iV (Ac0 d r).2],σ)]) ⟨f12 r σ,f11 hD hvf hH σ,trivial⟩ ?_;refine G3 ?_
  refine DT (Bq rfl rfl (Dw (by decide) Bv)) ?_
  refine G6 ?_
  refine⟨(by intro e he;simp at he;rcases he with rfl|rfl<;>exact .refl),?_⟩
  refine G ?_;refine XX 1 (l:=[(12,[.agg (eRs r)],σ,.agg (eRs r),σ),(21,[dbV d,.agg (eRs r)],σ,.tup [slV eNn 1 (Aya d r).1,iV (Aya d r).2],σ)]) ⟨f12 r σ,f21 hD hvf hH σ,trivial⟩ ?_;refine G3 ?_
  refine DT (Bq rfl rfl (Dw (by decide) Bv)) ?_
  refine G6 ?_
  refine⟨(by intro e he;simp at he;rcases he with rfl|rfl<;>exact .refl),?_⟩
  by_cases ho:Kh d r=0
  ·have H:=hH ho;have heq:=(Tx H.op).1;rw[show Ac0 d r=((Ip d r).map (·.1),0)from if_neg (fun q=>q ho),show Aya d r=(Ax7 d r,0)from if_neg (fun q=>q ho)]
   obtain⟨l,hl⟩:∃l,(Ip d r).map (·.1)=l:=⟨_,rfl⟩;obtain⟨L,hLe⟩:∃L,Ax7 d r=L:=⟨_,rfl⟩;obtain⟨A,hAe⟩:∃A,(Ip d r).map (·.2)=A:=⟨_,rfl⟩;have hll:l.length=(Ip d r).length:=gr
   have hLl:L.length=(Ip d r).length:=by rw[←hLe,Azd]
   have hlN:(Ip d r).length<=1000000:=by
    have:(Ip d r).length<=(List.range d.frames.length).length:=List.length_filterMap_le _ _
    grind
   have hmb:∀t k,Ax9 A L t k<=1000000:=fun t k=>by
    unfold Ax9;refine(Azb _ _).2 ⟨aq_ _,fun b _ _=>?_⟩
    have:=Azp d r b
    grind
   have h13:∀{k i:Nat} {x:Df} {lr:Str} {kr:List Ax},(Ip d r)[k]? =some (i,x)->x.right=.node lr kr->∀σ,Cv 13 [dbV d,.agg (eRs r),nV i] σ (.tup [.agg [sV x.label,Af x.args,Af x.dummies,sV lr,slV eT 2 kr],iV 0]):=fun{k i x lr kr} hix hrt σ=>by
    obtain⟨hin,hch⟩:=Ake (ab_ hix);have:=f13 H hin σ
    rwa[(Axz heq hch).p,show eDf x=[sV x.label,Af x.args,Af x.dummies,sV lr,slV eT 2 kr] by unfold eDf;rw[hrt,Cl];rfl]at this
   have hUd:∀{x:Df} {lr:Str} {kr:List Ax},x.right=.node lr kr->∀N,AV.unds N [sV x.label,Af x.args,Af x.dummies,sV lr,slV eT 2 kr]=true:=fun{x lr kr} hrt N=>by
    have h1:AV.unds N [sV lr,slV eT 2 kr]=true:=by rw[←Cl];exact Es _
    have h2:AV.und N (Af x.args)=true:=A2 D9 _;have h3:AV.und N (Af x.dummies)=true:=A2 D9 _;simp only[AV.unds,h2,h3]at h1⊢
    simp at h1⊢;exact⟨rfl,h1⟩
   rw[hl,hLe];refine G6 ?_;refine Qh 2 _ false rfl rfl rfl rfl rfl (Eh rfl) (fun hg=>?_) gr ?_
   ·refine Bi rfl rfl rfl rfl (by simp) noR rfl rfl (Ag rfl) ?_
    refine Bi rfl rfl rfl rfl (by simp) noR rfl rfl (Aqz (q:=0) okC rfl rfl) ?_
    refine G ?_;refine⟨rfl,?_,?_⟩
    ·exact sb
    ·rfl
   refine G ?_;refine Ab rfl gr (fun h2=>?_)
   refine G10 ?_;refine Ab rfl gr (fun h3=>?_)
   refine G9 ?_;refine Ci (fun q:Nat=>[(2,.pv [Af d.consts,Af d.vars,slV eF 8 d.frames]),(3,.pv (eRs r)),(5,slV eNn 1 l),(7,slV eNn 1 L),(58,slV eNn 1 l),(59,nV l.length),(60,nV q)]) (fun q σ0=>q<=l.length/\σ0=σ) (fun q=>l.length-q) 0 SL ⟨aq_ _,rfl⟩ ?_
   rintro k0 σ0 ⟨hk0,rfl⟩;refine G5 ?_;refine Ab rfl ?_ ?_<;>intro h4
   ·have bc:k0<l.length:=Int.ofNat_lt.1 (of_decide_eq_true h4)
    obtain⟨⟨i,x⟩,hix⟩:=Ar (show k0<(Ip d r).length by omega)
    have hi:l[k0]? =some i:=gr
    obtain⟨lr,kr,hrt⟩:∃lr kr,x.right=.node lr kr:=by cases x.right;grind
    have hAx:A[k0]? =some x:=gr;have hKx:KB x.right:=(Acy heq (Axz heq (Ake (ab_ hix)).2).p).1
    obtain⟨v0,hv0⟩:=Ar (show k0<L.length by omega)
    have hlaw:v0=Ax9 A L x.right (Ip d r).length+1:=by
     have:=Azm heq (d:=d) (r:=r) (a:=k0) (x:=x) gr
     grind
    refine G11 ?_;refine Gz 11 z5 (xV x lr kr) [(12,iV 0)] (hUd hrt _) rfl (fun hw0=>?_) ?_
    ·refine T_ED ?_;refine Amt 1 (anns:=[aR 0 1,aR 0 1,aP 0 1,aP 0 1,aP 0 1,aP 0 1,aP 0 1,aP 0 2,aE 0 1,aE 1 2,aP 2 2]) Di (Alz (l:=[(12,[.agg (eRs r)],.agg (eRs r)),(13,[dbV d,.agg (eRs r),nV i],.tup [.agg (xV x lr kr),iV 0])]) ⟨fun σ=>f12 r σ,fun σ=>h13 hix hrt σ,trivial⟩) Kr Kr ?_
     refine DF (Ac ldC rfl rfl rfl) (DF (Ac ldC rfl rfl rfl) (DF (Akg rfl rfl An5) (DF (Ag rfl) (DF (Akg rfl rfl (Avt (by decide) An5)) ?_))))
     refine DF (Ag rfl) (DF (S7 rfl rfl) (DF (S7 rfl rfl) (DT (Bu ziC) (DT (G1 (cs:=z5) (cs':=xV x lr kr) gr ldC rfl rfl rfl rfl) ?_))));refine DF (Gd rfl) (C1 ?_)
     exact⟨(by intro e he;simp at he;rcases he with rfl|rfl<;>first|exact .refl|exact K4 hw0),⟨rfl,trivial⟩,sb,rfl,rfl⟩
    refine G12 ?_;refine Ci (fun q:Nat=>[(2,.pv [Af d.consts,Af d.vars,slV eF 8 d.frames]),(3,.pv (eRs r)),(5,slV eNn 1 l),(7,slV eNn 1 L),(9,nV k0),(11,.pv (xV x lr kr)),(13,nV (Ax9 A L x.right q)),(58,slV eNn 1 l),(59,nV l.length),(60,nV k0),(73,slV eNn 1 l),(74,nV l.length),(75,nV q)]) (fun q σ2=>q<=l.length/\σ2=σ0) (fun q=>l.length-q) 0 SL ⟨aq_ _,rfl⟩ ?_
    rintro j0 σ2 ⟨hj0,rfl⟩;refine G5 ?_;refine Ab rfl ?_ ?_<;>intro h5
    ·have sd:j0<l.length:=Int.ofNat_lt.1 (of_decide_eq_true h5)
     obtain⟨⟨j,y⟩,hjy⟩:=Ar (show j0<(Ip d r).length by omega)
     have hj:l[j0]? =some j:=gr
     obtain⟨ly,ky,hyt⟩:∃lr kr,y.right=.node lr kr:=by cases y.right;grind
     have hAy:A[j0]? =some y:=gr
     obtain⟨v1,hv1⟩:=Ar (show j0<L.length by omega)
     have mj:Ax9 A L x.right (j0+1)=if Hk x.right y.label=true then max (Ax9 A L x.right j0) v1 else Ax9 A L x.right j0:=by
      unfold Ax9;rw[List.range_succ,List.foldl_append,ct_,List.foldl_nil,Azi,hAy,List.getD,hv1];rfl
     have r8:Cv 14 [.agg [sV lr,slV eT 2 kr],sV y.label] σ2 (.bool (Hk x.right y.label)):=by
      have:=f14 hKx y.label σ2
      rwa[show En x.right=.agg [sV lr,slV eT 2 kr] by rw[hrt,Cg]]at this
     refine G11 ?_;refine Gz 16 z5 (xV y ly ky) [(17,iV 0)] (hUd hyt _) rfl (fun hw0=>?_) ?_
     ·refine T_ED ?_;refine Amt 1 (anns:=[aR 0 1,aR 0 1,aP 0 1,aP 0 1,aP 0 1,aP 0 1,aP 0 1,aP 0 2,aE 0 1,aE 1 2,aP 2 2]) Di (Alz (l:=[(12,[.agg (eRs r)],.agg (eRs r)),(13,[dbV d,.agg (eRs r),nV j],.tup [.agg (xV y ly ky),iV 0])]) ⟨fun σ=>f12 r σ,fun σ=>h13 hjy hyt σ,trivial⟩) Kr Kr ?_
      refine DF (Ac ldC rfl rfl rfl) (DF (Ac ldC rfl rfl rfl) (DF (Akg rfl rfl An5) (DF (Ag rfl) (DF (Akg rfl rfl (Avt (by decide) An5)) ?_))))
      refine DF (Ag rfl) (DF (S7 rfl rfl) (DF (S7 rfl rfl) (DT (Bu ziC) (DT (G1 (cs:=z5) (cs':=xV y ly ky) gr ldC rfl rfl rfl rfl) ?_))));refine DF (Gd rfl) (C1 ?_)
      exact⟨(by intro e he;simp at he;rcases he with rfl|rfl<;>first|exact .refl|exact K4 hw0),⟨rfl,trivial⟩,sb,rfl,rfl⟩
     refine G6 ?_;refine Ca r8 ?_;refine G ?_;refine Ab rfl ?_ ?_<;>intro h6
     ·rw[if_pos h6]at mj;refine G6 ?_;refine O1 (Azg okC rfl rfl) ?_;refine G6 ?_
      exact⟨j0+1,gr,⟨rfl,rfl,rfl,rfl,rfl,rfl,by rw[mj];rfl,rfl,rfl,rfl,rfl,rfl,rfl,trivial⟩,gr,rfl⟩
     ·rw[if_neg gr]at mj;refine G5 ?_
      exact⟨j0+1,gr,⟨rfl,rfl,rfl,rfl,rfl,rfl,by rw[mj];rfl,rfl,rfl,rfl,rfl,rfl,rfl,trivial⟩,gr,rfl⟩
    ·have hge:j0=(Ip d r).length:=gr;subst hge;refine G8 ?_;refine O1 (D3 (q:=1) okC rfl rfl gr) ?_;refine G2 ?_;refine Ab rfl gr (fun h6=>?_)
     refine G5 ?_;exact⟨k0+1,gr,SL,gr,rfl⟩
   ·refine G3 ?_;refine Ca (hA _) ?_;refine G3 ?_;exact⟨_,rfl,_,_,a_ hw nl (fun _ _=>rfl),nl,.same rfl,rfl,rfl⟩
  ·rw[show Ac0 d r=([],Kh d r)from if_pos ho,show Aya d r=([],Kh d r)from if_pos ho]
   refine G6 ?_;refine TOr 2 ?_ (fun hg=>?_) ?_
   rotate_left
   ·iterate 2 refine Gn hg ?_
    exact Ez
   refine G ?_;refine Ab rfl ?_ ?_<;>intro h2
   ·refine G6 ?_;refine Hq 1 _ true rfl rfl rfl rfl rfl (Eh rfl) (fun hg=>?_) gr ?_
    ·refine Bh rfl rfl rfl (by simp) rfl rfl rfl rfl (hA _) ?_
     refine G ?_;refine⟨rfl,?_,?_⟩
     ·exact sb
     ·exact rfl
    refine G3 ?_
    exact⟨_,rfl,_,_,a_ hw nl (fun _ _=>rfl),nl,.same rfl,by first|rfl|(simp;rfl),rfl⟩
   grind
open Go.Proofs.YtmkaboegdoadhaaGreatDoor
section
variable {H:Type}{eh:TypeId×Value->H}{w:World}{hd:Bool}
theorem ut3:Tryz.prog.underlying 3=some (.int .i64):=Kr
theorem utF:Tryz.prog.underlying 462=some (.array 10 461):=Kr
theorem ctE:Tryz.prog.cellsOf 461=4:=Kr
theorem ctF:Tryz.prog.cellsOf 462=40:=Kr
theorem flE:Kq 461=some [(9,0,1),(4,1,1),(3,2,1),(3,3,1)]:=Kr
theorem Ats{n:Nat}:RdX eh w hd n 461 4:=Al2 flE rfl fun m _ j f hj=>by
 match j,hj with
 |0,hj=>cases hj;exact Avz ut9
 |1,hj=>cases hj;exact Atr ut4
 |2,hj=>cases hj;exact Aoi ut3
 |3,hj=>cases hj;exact Aoi ut3
 |j+4,hj=>simp at hj
theorem Aqf{n:Nat}:RdX eh w hd n 462 40:=by
 intro cs x h hl;obtain⟨xs,m,_,rfl,_,hxl,hxf⟩:=DataW.trod_array utF h;rw[ctE]at hxf
 have:=Ac5 (cs:=cs) (eh:=eh) (w:=w) (hd:=hd) (m:=m) ((List.range 10).map fun i=>(461,i*4,4)) xs 0 (by rw[hxl];rfl) (fun j f hj=>by
  rw[br_,cy_]at hj;obtain⟨i,hi,rfl⟩:=hj;have kj:=(ae_.1 hi).1;rw[List.length_range]at kj;rw[List.getElem?_range kj]at hi;cases hi
  exact⟨Ats,hxf j kj⟩) (by rw[hl];rfl)
 rw[db_]at this;refine⟨?_,this.2⟩;rw[Aht];exact this.1
end
theorem Akj{w:World}{nm:String}{g:Nat}{cs:Array Value}(hn:Tryz.prog.globalNamed nm=some g)(h:w.var? Tryz.prog nm=some cs):∃T fz,w.heap[g]? =some (.cells cs T fz):=by
 unfold World.var? at h;rw[hn]at h;simp only[gq_]at h
 split at h
 ·rename_i c T fz hh;cases h;exact⟨T,fz,hh⟩
 ·cases h
theorem tFrmW:(Tryz.prog.globals[0]?).map (·.type)=some 462:=Kr
theorem Aws:Tryz.prog.globalNamed "apodixis/layout.forms" =some 0:=Kr
def Ac6:List (String×DataW Unit):=Rows.defineRanksRow.laid
theorem Att:Aht (Rows.laid_apodixis_layout_forms:DataW Unit)=Ak1:=Kr
theorem Av0{W:World}(h:laidMetH Tryz.prog Ac6 W):Iw C0 0 W Ew:=by
 rw[MakeChecks.laidMetH_plain _ _ _ Kr]at h;have h6:laidMet Tryz.prog (("apodixis/layout.forms", Rows.laid_apodixis_layout_forms)::[]) W:=h;obtain⟨ps, ⟨g', t', cs, fuel, p, q, hg', ht', sg, hd, _, _⟩, _⟩:=h6;obtain rfl:=by_ (Aws.symm.trans hg');obtain rfl:=by_ (tFrmW.symm.trans ht')
 refine⟨fun g l hg=>?_,fun c P hP=>(by cases hP),fun L hL=>(by cases hL)⟩
 have hg:glW g=some l:=hg;unfold glW at hg
 split at hg
 ·rename_i hb
  have:=ac_ hb;subst this;cases hg;obtain⟨T,fz,hh⟩:=Akj Aws sg
  have hl:cs.toList.length=40:=by
   obtain⟨xs,m,_,_,hl,_⟩:=DataW.trod_array utF hd;rw[hl,ctF]
  obtain⟨h1,h2⟩:=Aqf cs.toList _ hd hl;rw[show Aht (Rows.laid_apodixis_layout_forms:DataW Unit)=Ak1 from Att]at h1
  unfold R
  exact⟨0,0,rfl,fun _=>Al0 0,fb_ hh h1 h2 fun i v hv=>by rw[bn_];simpa using hv⟩
 ·cases hg
open Go.ChangeShapes Go.WideShapes Go.ChangeAt Go.WideMaps Go.WideElems Go.RowKit
section
variable {H:Type}{eh:TypeId×Value->H}{w:World}
theorem Akk{t k base:Nat}{fl:List (TypeId×Nat×Nat)}{v:Value}(hf:Kq t=some fl)(hk:Tryz.prog.cellsOf t=k) (hv:Value.okWide Tryz.prog w .any base t v):∃cs:Array Value,v=.agg cs/\cs.toList.length=k:=by
 unfold Kq at hf
 split at hf
 ·rename_i fs ht
  unfold Value.okWide at hv;rw[ht]at hv;obtain⟨cs,h1,h2,_⟩:=hv
  exact⟨cs,h1,by rw[←hk,←h2];simp⟩
 ·cases hf
theorem ct25:Tryz.prog.cellsOf 25=3:=Kr
theorem ct27:Tryz.prog.cellsOf 27=2:=Kr
theorem Atu{base:Nat}{v0 v1:Value}{d0 d1:DataW H}{p0 p1:List MemPlace}{ts:List TypeId}{gs:List (DataW H)}(hv0:Value.okWide Tryz.prog w .any base 25 v0)(hv1:Value.okWide Tryz.prog w .any base 27 v1)
  (h0:DataW.Trod eh Tryz.prog w 0 (fun _=>true) true 25 v0 d0 p0) (h1:DataW.Trod eh Tryz.prog w 0 (fun _=>true) true 27 v1 d1 p1)
  (hw:(DataW.weightsEach Tryz.prog ([25,27]++ts) ([d0,d1]++gs)).all (·<=reachBytes)=true):∃(d:Db) (r:Rs),RL C0 0 w [dbV d,.agg (eRs r)] [v0,v1]:=by
 have hw':∀(j:Nat) (t:TypeId) (d:DataW H),([25,27]++ts)[j]? =some t->([d0,d1]++gs)[j]? =some d->∀b∈d.weights Tryz.prog t,b<=reachBytes:=fun j t d ht hd b hb=>by
  have:=b_.1 hw b (DataW.weights_mem_each ht hd b hb)
  simpa using this
 obtain⟨c0,rfl,l0⟩:=Akk fl25 ct25 hv0;obtain⟨c1,rfl,l1⟩:=Akk fl27 ct27 hv1;obtain⟨n0,h0⟩:=h0;obtain⟨n1,h1⟩:=h1;obtain⟨_,⟨d,_,rfl⟩,r0,o0⟩:=rd_db c0.toList _ h0 l0 (hw' 0 25 d0 rfl rfl);obtain⟨_,⟨r,_,rfl⟩,r1,o1⟩:=Atq c1.toList _ h1 l1 (hw' 1 27 d1 rfl rfl);refine⟨d,r,?_⟩;unfold RL
 refine⟨by unfold dbV R;exact⟨c0,rfl,r0,o0⟩,?_⟩
 unfold RL
 refine⟨by unfold R;exact⟨c1,rfl,r1,o1⟩,?_⟩
 unfold RL;trivial
end
end Go.AM
