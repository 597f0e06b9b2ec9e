/- A part of the proof; shortened by program. -/
import Derived.ChangeArms
import Derived.SizedLaws
import Derived.OpenShut
import Derived.Test.YtmkaboegdoadhaaGreatDoorP30
import Derived.LaidMore
import Derived.Stop.Joined
import Derived.Test.YtmkaboegdoadhaaGreatDoorRows
import Derived.ProofKit
import Derived.Carry
set_option maxRecDepth 100000
set_option maxHeartbeats 4000000
set_option linter.all false
namespace Go.AM
open Go Go.Proofs
section
variable {H:Type}{eh:TypeId×Value->H}{w:World}{hd:Bool}
def eK(B:TypeId×Value->H)(w:World)(g:Bool)(n:Nat)(t:TypeId)(k:Nat)(Q:List I->Prop):Prop:=
 ∀(c:List Value) (x:DataW H×List MemPlace),DataW.trod B Tryz.prog w 0 (λ_=>true) g n t c=some x->c.length=k->(∀b∈x.1.weights Tryz.prog t,b<=reachBytes)->∃a,Q a/\RL C0 0 w a c/\∀v∈c,v.oneCell=true
def H9{C:Type}(G:C->Prop)(c:C->List I):List I->Prop:=λb=>∃a,G a/\b=c a
def nZ(s:aH):Prop:=s.length<=281474976710656
theorem qD{n t:Nat}(m:Tryz.prog.underlying t=some .string):eK eh w hd n t 1 (H9 nZ e1):=by
 intro c x h d b;obtain⟨s,rfl,rfl,_⟩:=DataW.trod_string m h
 have:=b s.data.toList.length (by unfold DataW.weights;grind)
 exact⟨[sV s.data.toList],⟨_,by unfold nZ;exact bD this zD,rfl⟩,by unfold RL;exact⟨by unfold sV R;exact⟨s,rfl,rfl⟩,by unfold RL;trivial⟩,λv a=>by rw[cI.1 a];rfl⟩
theorem RA{n t:Nat}(m:Tryz.prog.underlying t=some .bool):eK eh w hd n t 1 (H9 (λ_=>True) λb:Bool=>[.bool b]):=by
 intro c x h d e;obtain⟨b,rfl,rfl⟩:=DataW.trod_bool m h
 exact⟨[.bool b],⟨b,trivial,rfl⟩,by unfold RL;exact⟨by unfold R;rfl,by unfold RL;trivial⟩,λv a=>by rw[cI.1 a];rfl⟩
theorem AR{n t:Nat}(m:Tryz.prog.underlying t=some (.int .i64)):eK eh w hd n t 1 (H9 (λ_=>True) λa:Int=>[D a]):=by
 intro c x h d e;obtain⟨i,rfl,rfl,_⟩:=DataW.trod_int m h
 exact⟨[D i],⟨i,trivial,rfl⟩,by unfold RL;exact⟨by unfold D R;rfl,by unfold RL;trivial⟩,λv b=>by rw[cI.1 b];rfl⟩
theorem Afz{C J:Type}{f:C->Option J}:∀{b:List C} {l:List J},b.mapM f=some l->l.length=b.length/\∀(j:Nat) (i:C),b[j]? =some i->∃a:J,f i=some a/\l[j]? =some a
 |[],l,h=>Z
 |e::b,l,h=>by
  simp only[h_,Option.bind_eq_bind,FP,Option.pure_def,bH]at h;obtain⟨a,d,m,c,rfl⟩:=h;obtain⟨g,k⟩:=Afz c
  grind
theorem Xk{a:Addr}{v:Value}(h:w.cell? a=some v):a.spot=none/\w.cell? ⟨a.block,a.off,none⟩=some v:=by
 have c:a.spot=none:=by
  cases c:a.spot with
  |none=>rfl
  |some s=>unfold World.cell? at h;rw[c]at h;split at h<;>simp at h
 obtain⟨b,o,s⟩:=a
 grind
theorem Vz(a:Addr)(n:Nat):(a.add n).off=a.off+n/\(a.add n).block=a.block:=by unfold Addr.add;grind
theorem OQ{a:Addr}{k:Nat}{c:List Value}(h:w.cells? 0 a k=some c):c.length=k/\∀(r:Nat) (v:Value),c[r]? =some v->w.cell? (a.add r)=some v:=by
 unfold World.cells? at h;rw[if_pos (bU _)]at h;obtain⟨f,d⟩:=Afz h;refine⟨Z,λr v e=>?_⟩
 have g:=(bQ.1 e).1;obtain⟨b,i,j⟩:=d r r Z
 grind
theorem Af0{C:Type}{P:Nat->C->Prop}:∀{n:Nat},(∀i,i<n->∃a,P i a)->∃l:List C,l.length=n/\∀(i:Nat) (a:C),l[i]? =some a->P i a
 |0,_=>⟨[],rfl,Z⟩
 |n+1,h=>by
  obtain⟨l,c,d⟩:=Af0 (n:=n) λi g=>h i z
  obtain⟨a,e⟩:=h n z
  refine⟨l++[a],by simp[c],λi b f=>?_⟩
  grind
theorem Aog{C:Type}{f:C->List I}{k c o:Nat}(p:∀a,(f a).length=k):∀(l:List C) (d:Nat),(∀(i:Nat) (a:C),l[i]? =some a->∀(r:Nat) (x:I),(f a)[r]? =some x->∃v,w.cell? ⟨c,o+((d+i)*k+r),none⟩=some v/\v.oneCell=true/\R C0 0 w x v)->RC C0 0 w c (l.flatMap f) (o+d*k)
 |[],d,_=>by unfold List.flatMap;simp;unfold RC;trivial
 |a::l,d,h=>by
  rw[ej]
  have q:=Aog p l (d+1) λi b t r x j=>by
   have:=h (i+1) b Z r x j
   rwa[show d+(i+1)=d+1+i by omega]at this
  have n:∀(e:List I) (g:Nat),g+e.length=k->(∀(r:Nat) (x:I),e[r]? =some x->∃v,w.cell? ⟨c,o+(d*k+(g+r)),none⟩=some v/\v.oneCell=true/\R C0 0 w x v)->RC C0 0 w c (e++l.flatMap f) (o+(d*k+g)):=by
   intro e
   induction e with
   |nil=>intro g m _;simp at m;subst m;rw[fK,show o+(d*g+g)=o+(d+1)*g by rw[ya]];exact q
   |cons x e s=>
    intro g m j;rw[dL];unfold RC
    refine⟨by have:=j 0 x zS;grind,?_⟩
    have:=s (g+1) Z λr y u=>by
     have:=j (r+1) y Z
     grind
    rwa[show o+(d*k+(g+1))=o+(d*k+g)+1 by omega]at this
  have:=n (f a) 0 Z λr x j=>by
   have:=h 0 a zS r x j
   grind
  grind
theorem Awr:∀{l:List I} {b:List Value},RL C0 0 w l b->∀(r:Nat) (x:I),l[r]? =some x->∃v,b[r]? =some v/\R C0 0 w x v
 |[],_,_,r,x,h=>by simp at h
 |y::l,[],h,_,_,_=>by unfold RL at h;exact h.elim
 |y::l,v::b,h,r,x,a=>by
  unfold RL at h;cases r with
  |zero=>simp at a;subst a;exact⟨v,by simp,h.1⟩
  |succ r=>simp at a;obtain⟨u,d,c⟩:=Awr h.2 r x a;exact⟨u,Z,c⟩
theorem Wa{α:Type}{enc:α->List I}{G:α->Prop}{n t e k:Nat}(ht:Tryz.prog.underlying t=some (.slice e))(hc:Tryz.prog.cellsOf e=k)(hk:0<k)(he:∀a,(enc a).length=k)(hE:∀m,m+1=n->eK eh w hd m e k (H9 G enc)):
  eK eh w hd n t 1 (H9 (λl:List α=>∀a∈l,G a) λl=>[aD enc k l]):=by
 intro cs x h hl hw
 rcases DataW.trod_slice ht h with⟨rfl,rfl⟩|⟨a,j,N,d,K,n0,hn,rfl,rfl,_,ae,_,aa,u,C,_⟩
 ·exact⟨[aD enc k []],⟨[],λa h=>(by cases h),rfl⟩,by unfold RL;exact⟨by unfold aD R;grind,by unfold RL;trivial⟩,λv E=>by rw[cI.1 E];rfl⟩
 ·rw[hc]at u C
  have a8:∀y∈d,∀b∈y.1.weights Tryz.prog e,b<=reachBytes:=λy p b f=>hw b (by
   unfold DataW.weights;rw[ht];refine ch _ (rQ _ ?_)
   have a9:∀{l:List (DataW H×List MemPlace)},y∈l->b∈DataW.weightsAll Tryz.prog e (l.map (·.1)):=by
    intro l
    induction l with
    |nil=>intro h;cases h
    |cons af l ih=>
     intro h
     show b∈af.1.weights Tryz.prog e++DataW.weightsAll Tryz.prog e (l.map (·.1))
     rcases bN.1 h with rfl|h
     ·grind
     ·grind
   exact a9 p)
  obtain⟨l,W,B⟩:=Af0 (n:=j) (P:=λi a'=>G a'/\∀(r:Nat) (x:I),(enc a')[r]? =some x->∃v,w.cell? ((a.add (i*k)).add r)=some v/\v.oneCell=true/\R C0 0 w x v) λi hi=>by
   obtain⟨y,p⟩:∃y,d[i]? =some y:=⟨_,fF z⟩;have f:=u i hi;rw[p,FP]at f;obtain⟨Q,g,a7⟩:=f;obtain⟨c1,L⟩:=OQ g;obtain⟨ac,⟨b,S,rfl⟩,h2,h3⟩:=hE n0 hn.symm Q y a7 c1 (a8 y (bA p));refine⟨b,S,λr x J=>?_⟩
   obtain⟨v,s,q2⟩:=Awr h2 r x J;exact⟨v,L r v s,h3 v (bA s),q2⟩
  refine⟨[aD enc k l],⟨l,λb f=>?_,rfl⟩,?_,λv E=>by rw[cI.1 E];rfl⟩
  ·obtain⟨i,hi⟩:=List.getElem?_of_mem f
   grind
  ·unfold RL
   refine⟨?_,by unfold RL;trivial⟩
   unfold aD R
   refine⟨some a,N,by rw[W],Z,λq hq=>(by cases hq),by rw[Dl he],λT=>(by cases T),λad ha=>?_⟩
   cases ha;refine⟨λh0=>?_,λ_ T=>BG _ T,?_⟩
   ·by_cases bl:0<j
    ·obtain⟨b,f⟩:=Ar (l:=l) (i:=0) z;have X:0<(enc b).length:=Z;obtain⟨x,J⟩:=Ar X;obtain⟨v,s,_⟩:=(B 0 b f).2 0 x J;have:=(Xk s).1
     simpa[Addr.add]using this
    ·have hr:=(C rfl).2 0 z;obtain⟨y,p⟩:∃y,K[0]? =some y:=⟨_,fF Z⟩;rw[p,FP]at hr;obtain⟨Q,g,_⟩:=hr;obtain⟨c1,L⟩:=OQ g;obtain⟨v,E⟩:=Ar (l:=Q) (i:=0) z;have:=(Xk (L 0 v E)).1
     have U:j=0:=by omega
     subst U
     simpa[Addr.add]using this
   ·have:=Aog (w:=w) (c:=a.block) (o:=a.off) he l 0 λi b f r x J=>by
     obtain⟨v,s,q2,q3⟩:=(B i b f).2 r x J;have q4:=(Xk s).2;rw[(Vz _ r).1,(Vz _ r).2,(Vz a _).1,(Vz a _).2,Nat.add_assoc]at q4
     grind
    grind
end
noncomputable def Kq (t:TypeId):Option (List (TypeId×Nat×Nat)):=match Tryz.prog.underlying t with
 |some (.struct a)=>some (a.toList.map λf=>(f.type,f.offset,Tryz.prog.cellsOf f.type))
 |_=>none
def Ia:Nat->List (TypeId×Nat×Nat)->Option Nat
 |o,[]=>some o
 |o,(_,a,k)::r=>if a=o then Ia (o+k) r else none
def AllQ:List (List I->Prop)->List I->Prop
 |[],c=>c=[]
 |Q::r,c=>∃a b,Q a/\AllQ r b/\c=a++b
section
variable {H:Type}{eh:TypeId×Value->H}{w:World}{hd:Bool}
def RdL(B:TypeId×Value->H)(w:World)(g:Bool)(m:Nat):List (TypeId×Nat×Nat)->List (List I->Prop)->Prop
 |[],[]=>True
 |(t,_,k)::r,Q::s=>eK B w g m t k Q/\RdL B w g m r s
 |_,_=>False
theorem Nw{n t k:Nat}{q:List (TypeId×Nat×Nat)}{Qs:List (List I->Prop)}(N:Kq t=some q)(hc:Ia 0 q=some k)(G:∀m,m+1=n->RdL eh w hd m q Qs):eK eh w hd n t k (AllQ Qs):=by
 intro l x h hl hw;unfold Kq at N
 split at N
 case h_2=>cases N
 case h_1 fs ht=>
 cases N;obtain⟨xs,m,hm,rfl,_,W,U⟩:=DataW.trod_struct ht h;have G:=G m hm.symm
 have s:∀(j:Nat) (f:TypeId×Nat×Nat),(fs.toList.map λf=>(f.type,f.offset,Tryz.prog.cellsOf f.type))[j]? =some f->∃y,DataW.trod eh Tryz.prog w 0 (λ_=>true) hd m f.1 ((l.drop f.2.1).take f.2.2)=some y/\∀b∈y.1.weights Tryz.prog f.1,b<=reachBytes:=by
  intro j f C;rw[eC,pR]at C;obtain⟨g,H,rfl⟩:=C;have K:=(bQ.1 H).1
  obtain⟨y,E⟩:∃y,xs[j]? =some y:=⟨_,fF (by rw[W];simpa using K)⟩
  have h1:=U j g (by simpa using H)
  rw[E]at h1
  dsimp only
  refine⟨y,?_,λb J=>hw b ?_⟩
  ·exact h1
  unfold DataW.weights;rw[ht]
  exact DataW.weights_mem_each (P:=Tryz.prog) (j:=j) (t:=g.type) (d:=y.1) (by rw[eC,H,mH]) (by rw[eC,E,mH]) b J
 have a7:∀(q:List (TypeId×Nat×Nat)) (Qs:List (List I->Prop)) (o:Nat),(∀(j:Nat) (f:TypeId×Nat×Nat),q[j]? =some f->∃y,DataW.trod eh Tryz.prog w 0 (λ_=>true) hd m f.1 ((l.drop f.2.1).take f.2.2)=some y/\∀b∈y.1.weights Tryz.prog f.1,b<=reachBytes)->
   Ia o q=some l.length->RdL eh w hd m q Qs->∃r,AllQ Qs r/\RL C0 0 w r (l.drop o)/\∀v∈l.drop o,v.oneCell=true:=by
  intro q
  induction q with
  |nil=>
   intro Qs o _ c u;simp only[Ia,bH]at c;subst c;cases Qs with
   |nil=>exact⟨[],rfl,by rw[qQ];unfold RL;trivial,by rw[qQ];intro v p;cases p⟩
   |cons _ _=>exact u.elim
  |cons f q ih=>
   intro Qs o he c u;obtain⟨t0,i,B⟩:=f;cases Qs with
   |nil=>exact u.elim
   |cons Q Qs=>
    unfold Ia at c
    split at c
    case isFalse=>cases c
    case isTrue ho=>
    subst ho
    have ix:∀(q:List (TypeId×Nat×Nat)) (o e:Nat),Ia o q=some e->o<=e:=by
     intro q
     induction q with
     |nil=>intro o e h;simp only[Ia,bH]at h;omega
     |cons f q ih=>
      intro o e h;obtain⟨_,i,k⟩:=f;unfold Ia at h
      split at h
      ·have:=ih _ _ h;omega
      ·cases h
    have a8:=ix _ _ _ c;obtain⟨y,E,X⟩:=he 0 _ rfl
    obtain⟨a,ha,S,L⟩:=u.1 _ y E (by show((l.drop i).take B).length=B;rw[gC,oV];omega) X
    obtain⟨b,J,T,R⟩:=ih Qs (i+B) (λj f C=>he (j+1) f (by simpa using C)) c u.2
    have e0:l.drop i=(l.drop i).take B++l.drop (i+B):=by rw[<-rU,gK]
    refine⟨a++b,⟨a,b,ha,J,rfl⟩,?_,?_⟩
    ·rw[e0];exact S.append T
    ·rw[e0];intro v p
     rcases dW.1 p with p|p
     ·exact L v p
     ·exact R v p
 have:=a7 _ Qs 0 s (by rw[hc,hl]) G
 simpa using this
theorem eK.mono{n t k:Nat}{Q v:List I->Prop}(h:eK eh w hd n t k Q)(o:∀a,Q a->v a):eK eh w hd n t k v:=λb x c d e=>by
 obtain⟨a,f,g,i⟩:=h b x c d e;exact⟨a,o _ f,g,i⟩
end
section
variable {H:Type}{eh:TypeId×Value->H}{w:World}{hd:Bool}
theorem zO:Tryz.prog.underlying 4=some .bool:=Kr
theorem oF:Tryz.prog.underlying 9=some .string:=Kr
theorem IT:Tryz.prog.underlying 22=some (.slice 9):=Kr
theorem JF:Tryz.prog.underlying 23=some (.slice 50):=Kr
theorem FJ:Tryz.prog.underlying 47=some (.slice 74):=Kr
theorem I8:Tryz.prog.underlying 48=some (.slice 274):=Kr
theorem TN:Tryz.prog.cellsOf 9=1:=Kr
theorem F8:Tryz.prog.cellsOf 50=8:=Kr
theorem GS:Tryz.prog.cellsOf 74=3:=Kr
theorem TE:Tryz.prog.cellsOf 274=2:=Kr
theorem xa:Kq 25=some [(22,0,1),(22,1,1),(23,2,1)]:=Kr
theorem BV:Kq 74=some [(9,0,1),(4,1,1),(22,2,1)]:=Kr
theorem Zg:Kq 274=some [(9,0,1),(9,1,1)]:=Kr
theorem IS:Kq 50=some [(9,0,1),(4,1,1),(47,2,1),(48,3,1),(22,4,1),(47,5,1),(48,6,1),(22,7,1)]:=Kr
def M8{α:Type}(_:α):Prop:=True
theorem O8{n:Nat}:eK eh w hd n 22 1 (H9 (M8 (α:=List aH)) λl=>[Af l]):=
 (Wa IT TN z zF λm _=>qD oF).mono λa ⟨l,_,h⟩=>⟨l,trivial,h⟩
theorem UH{n:Nat}:eK eh w hd n 274 2 (H9 M8 eP):=
 (Nw (Qs:=[H9 nZ e1,H9 nZ e1]) Zg rfl λm _=>⟨qD oF,qD oF,trivial⟩).mono λc h=>by
  obtain⟨_,_,⟨a,_,rfl⟩,⟨_,_,⟨b,_,rfl⟩,rfl,rfl⟩,rfl⟩:=h;exact⟨⟨a,b⟩,trivial,rfl⟩
theorem KK{n:Nat}:eK eh w hd n 48 1 (H9 (M8 (α:=List Pr)) λl=>[aD eP 2 l]):=
 (Wa I8 TE z zF λm _=>UH).mono λa ⟨l,_,h⟩=>⟨l,trivial,h⟩
theorem Ax6{n:Nat}:eK eh w hd n 74 3 (H9 M8 eH):=
 (Nw (Qs:=[H9 nZ e1,H9 (λ_=>True) λb:Bool=>[.bool b],H9 (M8 (α:=List aH)) λl=>[Af l]]) BV rfl λm _=>⟨qD oF,RA zO,O8,trivial⟩).mono λd h=>by
  obtain⟨_,_,⟨a,_,rfl⟩,⟨_,_,⟨b,_,rfl⟩,⟨_,_,⟨c,_,rfl⟩,rfl,rfl⟩,rfl⟩,rfl⟩:=h;exact⟨⟨a,b,c⟩,trivial,rfl⟩
theorem NH{n:Nat}:eK eh w hd n 47 1 (H9 (M8 (α:=List Hp)) λl=>[aD eH 3 l]):=
 (Wa FJ GS z zF λm _=>Ax6).mono λa ⟨l,_,h⟩=>⟨l,trivial,h⟩
theorem ξ{n:Nat}:eK eh w hd n 50 8 (H9 M8 eF):=
 (Nw (Qs:=[H9 nZ e1,H9 (λ_=>True) λb:Bool=>[.bool b],H9 (M8 (α:=List Hp)) λl=>[aD eH 3 l],H9 (M8 (α:=List Pr)) λl=>[aD eP 2 l],H9 (M8 (α:=List aH)) λl=>[Af l],
  H9 (M8 (α:=List Hp)) λl=>[aD eH 3 l],H9 (M8 (α:=List Pr)) λl=>[aD eP 2 l],H9 (M8 (α:=List aH)) λl=>[Af l]]) IS rfl λm _=>⟨qD oF,RA zO,NH,KK,O8,NH,KK,O8,trivial⟩).mono λj h=>by
  obtain⟨_,_,⟨a,_,rfl⟩,⟨_,_,⟨b,_,rfl⟩,⟨_,_,⟨c,_,rfl⟩,⟨_,_,⟨d,_,rfl⟩,⟨_,_,⟨e,_,rfl⟩,⟨_,_,⟨f,_,rfl⟩,⟨_,_,⟨g,_,rfl⟩,⟨_,_,⟨i,_,rfl⟩,rfl,rfl⟩,rfl⟩,rfl⟩,rfl⟩,rfl⟩,rfl⟩,rfl⟩,rfl⟩:=h;exact⟨⟨a,b,c,d,e,f,g,i⟩,trivial,rfl⟩
theorem Aqe{n:Nat}:eK eh w hd n 23 1 (H9 (M8 (α:=List Fr)) λl=>[aD eF 8 l]):=
 (Wa JF F8 z zF λm _=>ξ).mono λa ⟨l,_,h⟩=>⟨l,trivial,h⟩
theorem t3{n:Nat}:eK eh w hd n 25 3 (H9 (M8 (α:=Db)) λd=>[Af d.consts,Af d.vars,aD eF 8 d.frames]):=
 (Nw (Qs:=[H9 (M8 (α:=List aH)) λl=>[Af l],H9 (M8 (α:=List aH)) λl=>[Af l],H9 (M8 (α:=List Fr)) λl=>[aD eF 8 l]]) xa rfl λm _=>⟨O8,O8,Aqe,trivial⟩).mono λe h=>by
  obtain⟨_,_,⟨a,_,rfl⟩,⟨_,_,⟨b,_,rfl⟩,⟨_,_,⟨c,_,rfl⟩,rfl,rfl⟩,rfl⟩,rfl⟩:=h;exact⟨⟨a,b,c⟩,trivial,rfl⟩
end
section
mutual
def lC {H:Type}:DataW H->List I
 |.lit (.string s)=>[sV s]
 |.lit (.bool b)=>[.bool b]
 |.lit (.int k n)=>[.int k n]
 |.agg ps=>qU ps
 |_=>[.any]
def qU {H:Type}:List (DataW H)->List I
 |[]=>[]
 |d::r=>lC d++qU r
end
section
variable {H:Type}{eh:TypeId×Value->H}{w:World}{hd:Bool}
def oG(B:TypeId×Value->H)(w:World)(g:Bool)(n:Nat)(t:TypeId)(k:Nat):Prop:=
 ∀(a:List Value) (x:DataW H×List MemPlace),DataW.trod B Tryz.prog w 0 (λ_=>true) g n t a=some x->a.length=k->RL C0 0 w (lC x.1) a/\∀v∈a,v.oneCell=true
theorem YG{n t:Nat}(m:Tryz.prog.underlying t=some .string):oG eh w hd n t 1:=by
 intro b x h c;obtain⟨s,rfl,rfl,_⟩:=DataW.trod_string m h
 exact⟨by rw[lC];unfold RL;exact⟨by unfold sV R;exact⟨s,rfl,rfl⟩,by unfold RL;trivial⟩,λv a=>by rw[cI.1 a];rfl⟩
theorem WE{n t:Nat}(m:Tryz.prog.underlying t=some .bool):oG eh w hd n t 1:=by
 intro c x h d;obtain⟨b,rfl,rfl⟩:=DataW.trod_bool m h
 exact⟨by rw[lC];unfold RL;exact⟨by unfold R;rfl,by unfold RL;trivial⟩,λv a=>by rw[cI.1 a];rfl⟩
theorem RX{n t:Nat}{k:IntKind}(m:Tryz.prog.underlying t=some (.int k)):oG eh w hd n t 1:=by
 intro b x h c;obtain⟨i,rfl,rfl,_⟩:=DataW.trod_int m h
 exact⟨by rw[lC];unfold RL;exact⟨by unfold R;rfl,by unfold RL;trivial⟩,λv a=>by rw[cI.1 a];rfl⟩
theorem Ac5{m:Nat}{cs:List Value}:∀(c:List (TypeId×Nat×Nat)) (i:List (DataW H×List MemPlace)) (o:Nat),i.length=c.length->
  (∀(j:Nat) (f:TypeId×Nat×Nat),c[j]? =some f->oG eh w hd m f.1 f.2.2/\DataW.trod eh Tryz.prog w 0 (λ_=>true) hd m f.1 ((cs.drop f.2.1).take f.2.2)=i[j]?)->Ia o c=some cs.length->RL C0 0 w (qU (i.map (·.1))) (cs.drop o)/\∀v∈cs.drop o,v.oneCell=true
 |[],i,o,d,_,a=>by
  simp only[Ia,bH]at a;subst a;rw[FQ.1 d]
  exact⟨by rw[qQ];show RL C0 0 w (qU []) [];rw[qU];unfold RL;trivial,by rw[qQ];intro v g;cases g⟩
 |(K,b,l)::c,[],o,d,_,_=>by simp at d
 |(K,b,l)::c,y::i,o,d,t,a=>by
  unfold Ia at a
  split at a
  case isFalse=>cases a
  case isTrue E=>
  subst E
  have J:∀(c:List (TypeId×Nat×Nat)) (o e:Nat),Ia o c=some e->o<=e:=by
   intro c
   induction c with
   |nil=>intro o e h;simp only[Ia,bH]at h;omega
   |cons f c G=>
    intro o e h;obtain⟨_,b,k⟩:=f;unfold Ia at h
    split at h
    ·have:=G _ _ h;omega
    ·cases h
  have C:=J _ _ _ a;obtain⟨u,x⟩:=t 0 _ rfl
  obtain⟨q,n⟩:=u _ y x (by show((cs.drop b).take l).length=l;rw[gC,oV];omega)
  obtain⟨r,p⟩:=Ac5 c i (b+l) (by simpa using d) (λj f B=>by have:=t (j+1) f (by simpa using B);simpa using this) a
  have s:cs.drop b=(cs.drop b).take l++cs.drop (b+l):=by rw[<-rU,gK]
  refine⟨?_,?_⟩
  ·rw[s]
   show RL C0 0 w (qU (y.1::i.map (·.1))) _
   rw[qU];exact q.append r
  ·rw[s];intro v g
   rcases dW.1 g with g|g
   ·exact n v g
   ·exact p v g
theorem Al2{n t k:Nat}{q:List (TypeId×Nat×Nat)}(N:Kq t=some q)(P:Ia 0 q=some k)(y:∀m,m+1=n->∀(j:Nat) (f:TypeId×Nat×Nat),q[j]? =some f->oG eh w hd m f.1 f.2.2):oG eh w hd n t k:=by
 intro cs x h e;unfold Kq at N
 split at N
 case h_2=>cases N
 case h_1 p l=>
 cases N;obtain⟨o,m,i,rfl,_,c,b⟩:=DataW.trod_struct l h
 have:=Ac5 (cs:=cs) (eh:=eh) (w:=w) (hd:=hd) (m:=m) _ o 0 (by rw[c,jT];simp) (λj f a=>⟨y m i.symm j f a,by
  rw[eC,pR]at a;obtain⟨g,H,rfl⟩:=a
  dsimp only
  have d:=b j g (by simpa using H)
  exact d⟩) (by rw[P,e])
 rw[kn]at this;refine⟨?_,this.2⟩;rw[lC];exact this.1
end
end
end Go.AM
