/- A part of the proof; shortened by program. -/
import Derived.Test.YtmkaboegdoadhaaGreatDoorP20
set_option maxRecDepth 100000
set_option maxHeartbeats 4000000
set_option linter.all false
namespace Go.AM
open Go Go.Proofs
theorem xQ{g R N X S J}(h:cM g R N X S J)(bn:S.sets.length<=1000000):Al M 151 [.pr X.c 0] J λ_ Q=>∃X',cM g R N X' S.open' Q/\Lk X J X' Q:=by
 have hN:=h.lo .c _ rfl;have a8:=h.lv;have a7:=h.lm
 have C:bm X.vS≠some X.c:=λe=>by cases h.inj .s .c X.c e rfl
 have o:bm X.vI≠some X.c:=λe=>by cases h.inj .i .c X.c e rfl
 obtain⟨T,qm,n1,K,t⟩:=jB (by':=24) O0 z h.sets nS (by simp only[az];omega)
 have y:=(t X.c hN.2 C).trans h.cl
 generalize f:T.set X.c (.cells [Af g.sorts,aD eR 4 g.rules,.mp X.mR,Af R,.sr (O J) 0 1 (X.vals.length+1) none,X.vI,.mp X.mD])=d
 have n2:O d=O J+1:=by rw[<-f,Aq,n1]
 have n:d.get X.c=some (.cells [Af g.sorts,aD eR 4 g.rules,.mp X.mR,Af R,.sr (O J) 0 1 (X.vals.length+1) none,X.vI,.mp X.mD]):=by rw[<-f,aU,if_pos rfl]
 have u:∀c,c≠X.c->d.get c=T.get c:=λc r=>by rw[<-f,aU,if_neg r]
 obtain⟨k,i⟩:=zE (d.new (.map 351 [] 0))
 have n3:O k=O J+2:=by rw[<-i,Ao,n2]
 have q:∀c,c<O d->k.get c=d.get c:=λc r=>by rw[<-i,a5,if_neg z]
 have E:k.get (O d)=some (.map 351 [] 0):=by rw[<-i,a5,if_pos rfl]
 have P:∀a,bm X.vI=some a->a<O J:=λa j=>(h.lo .i a j).2
 have x:∀a,bm X.vI=some a->bm X.vS≠some a:=λa j e=>by cases h.inj .s .i a e j
 have v:aW k N uR 1 X.ms X.vI:=h.is.of_get z λa j=>by
  have:=P a j
  rw[q a z,u a (λe=>o (by rw[j,e])),t a this (x a j)]
 obtain⟨W,nk,n4,p,l⟩:=jB (by':=8) Z6 z v (O d) (by simp only[az];omega)
 have s:O k=O d+1:=by omega
 rw[s]at nk p n4 l;have B:=(l X.c z o).trans ((q X.c z).trans n)
 have w:aW W N eV 1 (X.vals++[nS]) (.sr (O J) 0 1 (X.vals.length+1) none):=K.of_get z λa j=>by
  cases j
  rw[l _ z (λe=>by have:=P _ e;omega),q _ z,u _ z]
 have dk:=h.openS (m:=O d) (b:=O d+1) (U:=W.set X.c (.cells ((X.more (O J) (O d) (O d+1)).cells g R))) z z (by rw[Aq];omega) (by rw[aU,if_pos rfl])
  (w.of_get (by rw[Aq];exact Y) λa j=>by cases j;rw[aU,if_neg z])
  (p.of_get (by rw[Aq];exact Y) λa j=>by cases j;rw[aU,if_neg z])
  ⟨0,by rw[aU,if_neg z,l _ z (λe=>by have:=P _ e;omega)];exact E⟩
  (λc r h1 h2 h3=>by rw[aU,if_neg h1,l c z h3,q c z,u c h1,t c r h2])
 refine Aj Tryz.func151 rfl rfl λhw a9=>?_
 refine G6 ?_;refine A (lO h.cl) (Cx (Ai aJ bM rfl rfl rfl) (Dv (len:=1)) rfl rfl (A (Av aJ rfl bF rfl rfl rfl (new:=eV nS) rfl qm) ?_));refine G2 ?_;refine A (sO (cs':=[Af g.sorts,aD eR 4 g.rules,.mp X.mR,Af R,.sr (O J) 0 1 (X.vals.length+1) none,X.vI,.mp X.mD]) y) ?_;refine G ?_;rw[f];refine sG ?_;refine G5 ?_;refine A (lO n) (A (Gx yH) ?_);rw[i];refine Cx (Ai aJ bM rfl rfl rfl) (Dv (len:=1)) rfl rfl (A (Av aJ rfl bF rfl rfl rfl (new:=uR (O d)) rfl nk) ?_);refine G2 ?_;refine A (sO (cs':=(X.more (O J) (O d) (O d+1)).cells g R) B) ?_;refine G ?_;intro L
 exact⟨[],rfl,_,_,a_ L Y zN,by rw[Aq];omega,.same rfl,_,dk.1,dk.2⟩
section
variable {g:Gr}{text:List aH}{N:Nat}{X:Cp}{S:Ch}{J:F}
theorem j'(s):D4 M.P 232 (.agg (c7 s))=some (KE.k (sk s)):=by
 obtain⟨a,b,c⟩:=s
 kernel_rfl
theorem cM.doneS(h:cM g text N X S J){s}{E:GM Kk Bool}{ver}(f:∀y,(y∈S.done->E.get (sk y)=some true)/\(y∉S.done->E.get (sk y)=none)):
  cM g text N X { S with done:=s::S.done } (J.set X.mD (.map 232 (Hi bE (E.put (sk s) true)) ver))/\Lk X J X (J.set X.mD (.map 232 (Hi bE (E.put (sk s) true)) ver)):=by
 have c:∀t a,X.loc t=some a->t≠.d->(J.set X.mD (.map 232 (Hi bE (E.put (sk s) true)) ver)).get a=J.get a:=λt a j n=>by
  rw[aU,if_neg (λe=>n (h.inj t .d a j (by rw[e];rfl)))]
 refine⟨⟨h.inj,λt a j=>by rw[Aq];exact h.lo t a j,(c .c _ rfl zS).trans h.cl,h.sets.of_get (by rw[Aq];exact Y) λa i=>c .s a i zS,h.is.of_get (by rw[Aq];exact Y) λa i=>c .i a i zS,h.lv,h.lm,λk l u o m=>?_,λk l u o m=>(h.mps k l u o m).of_get (c (.m k) u m zS),?_⟩,⟨rfl,rfl,rfl,by rw[Aq];exact Y,λt a j=>.inl ⟨t,j⟩,λb v r=>by rw[aU,if_neg (λe=>r .d (by rw[e];rfl))]⟩⟩
 ·exact(h.vals k l u o m).of_get (by rw[Aq];exact Y) λa i=>c (.v k) a (by show(X.vals[k]?).bind bm=_;rw[m];exact i) zS
 ·refine⟨E.put (sk s) true,⟨ver,by rw[aU,if_pos rfl]⟩,λy=>?_⟩
  rw[tV]
  by_cases p:y=s
  ·subst p;simp
  ·rw[if_neg (λe=>p (K0.1 e))]
   refine⟨λd=>(f y).1 ?_,λd=>(f y).2 λq=>d (ch _ q)⟩
   rcases bN.1 d with d|d
   ·exact absurd d p
   ·exact d
end
theorem Qz{j k}:∀{l:List It} {S:Ch},(S.set k).length<=((S.adds j l).set k).length
 |[],_=>Y
 |x::l,S=>by
  show _<=(((S.add j x).adds j l).set k).length
  exact bD Ts Qz
theorem JQ{g s k}:∀{f i:Nat} {S:Ch},(S.set k).length<=((fP g s f i S).set k).length
 |0,_,_=>Y
 |f+1,i,S=>by
  unfold fP
  split
  ·exact Y
  ·exact bD Yd JQ
theorem YP{g n j k x S}:(S.set k).length<=((Dj g n j x S).set k).length:=by
 unfold Dj
 split
 ·split
  ·exact Y
  ·show(({ S with done:=(iY g x.1,x.2.2,j)::S.done }:Ch).set k).length<=_
   exact JQ
 ·split
  ·exact Y
  ·split
   ·exact bD Qz Ts
   ·exact Qz
theorem tB{f J Rr t s T r x y u d}[DecidableEq d][KE d]{m}{k:d}(L:cq M.P t=some (s,.bool false,T,false))(W:Ah M f x=some (.mp r))(K:eW s bE J r m)(B:Ah M f y=some u)(X:D4 M.P s u=some (KE.k k)):
  As M Rr (.lookup t x y false) f J (.bool ((m.get k).getD false)) J:=by
 have:=OF (Rr:=Rr) L W K B X
 have e:((m.get k).map bE).getD (.bool false)=.bool ((m.get k).getD false):=by cases m.get k<;>rfl
 grind
theorem PK{j}:∀{l:List It} {S:Ch},(S.adds j l).done=S.done
 |[],_=>rfl
 |x::l,S=>by show((S.add j x).adds j l).done=_;rw[PK,GU]
theorem ZH{g j n}(h:j<=n):Cu g j<=Cu g n:=Nat.mul_le_mul_left _ (Nat.mul_le_mul_left _ (Nat.succ_le_succ h))
theorem DX{g R N n X S J rv}(h:cM g R N X S J)(hr:pP g rv X J)(al:Gj g S){j}(hj:j<S.sets.length)(hn:S.sets.length<=n+1)(hb:Cu g n<=30000000)(hR:g.rules.length<=1000000):Al M 153 [.pr X.c 0,nV j] J λ_ J'=>∃X',cM g R N X' (cls g n j (Cu g n+1) 0 S) J'/\Lk X J X' J':=by
 refine Aj Tryz.func153 rfl rfl λhw d5=>?_
 refine G5 ?_;refine Ci (λq:Nat×Ch=>[(0,.pr X.c 0),(1,nV j),(4,nV q.1)]) (λq K=>∃w,cM g R N w q.2 K/\Lk X J w K/\Gj g q.2/\q.2.sets.length=S.sets.length/\q.1<=(q.2.set j).length/\q.1<=Cu g n/\cls g n j (Cu g n+1-q.1) q.1 q.2=cls g n j (Cu g n+1) 0 S) (λq=>Cu g n+1-q.1) (0,S) SL ⟨X,h,Lk.refl _ _,al,rfl,bU _,bU _,rfl⟩ ?_
 rintro⟨d,b⟩ K ⟨w,B,m,L,i,P,a9,C⟩;have i:b.sets.length=S.sets.length:=i;have P:d<=(b.set j).length:=P;have a9:d<=Cu g n:=a9;have C:cls g n j (Cu g n+1-d) d b=cls g n j (Cu g n+1) 0 S:=C;have B:cM g R N w b K:=B;have L:Gj g b:=L
 have E:j<b.sets.length:=by omega
 obtain⟨l,hl⟩:=Ar E
 obtain⟨v,hv⟩:=Ar (show j<w.vals.length by rw[B.lv];exact E)
 have U:=(bQ.1 hv).1;have cd:=oT hl;rw[cd]at P;have bf:=B.vals _ l v hl hv;obtain⟨aS,tS,_,d9,ap,a8⟩:=B.sets.sr U
 have t:K.get X.c=some (.cells [Af g.sorts,aD eR 4 g.rules,.mp w.mR,Af R,.sr aS 0 1 w.vals.length none,w.vI,.mp w.mD]):=by rw[<-ap,<-m.c];exact B.cl
 have ay:l.length<=Cu g n:=by have:=(L.set (j:=j)).bound (n:=n) z;grind
 have ac:∀r,Cz 1 false (eV v++r)=some v:=λr=>by
  rcases bf with⟨_,rfl|rfl⟩|⟨a,tl,_,_,rfl,_⟩<;>rfl
 refine G7 ?_;refine A (lO t) ?_;refine G ?_;refine A (Br aJ rfl rfl U) (A (Dg O0 aG rfl a8 hv ac) (A (Bf bF rfl bf.lenA.1 bf.lenA.2) ?_));refine G2 ?_;refine Ab rfl ?_ ?_<;>intro h1
 ·have bc:d<l.length:=Z;obtain⟨x,hx⟩:=Ar bc;obtain⟨a,tl,_,_,aq,ak⟩:=bf.sr bc
  have u:Vm g j x:=L _ l hl|>.2 x (fA.2 ⟨_,hx⟩)
  obtain⟨MD,⟨vD,a7⟩,dh⟩:=B.done;have c:=OG (n:=n) (x:=x) L u
  have dt:cls g n j (Cu g n+1-(d+1)) (d+1) (Dj g n j x b)=cls g n j (Cu g n+1) 0 S:=by
   rw[<-C,show Cu g n+1-d=(Cu g n+1-(d+1))+1 by omega]
   simp only[cls,cd,hx]
  have y:d+1<=((Dj g n j x b).set j).length:=by
   have:=YP (g:=g) (n:=n) (j:=j) (x:=x) (S:=b) (k:=j)
   grind
  refine G8 ?_;refine A (lO t) ?_;refine G ?_;refine A (Br aJ rfl rfl U) (A (Dg O0 aG rfl a8 hv ac) ?_);refine G ?_;refine A (Br aJ (show _=some (I.sr a 0 3 l.length none)from congrArg some aq) rfl bc) (A (Dg Rx aG rfl ak hx λ_=>rfl) ?_)
  refine G6 ?_;refine Ca (show Al M 188 [.pr X.c 0,jD x] K _ from qT g X.c j x _ K t u) ?_
  refine G3 ?_;refine Ho bG aG rfl zF rfl (A7 (F5 _)) rfl rfl ?_
  refine G9 ?_;refine Ab rfl ?_ ?_<;>intro h2
  ·have bx:dC g x=none:=by cases hh:dC g x with|none=>rfl|some p=>rw[hh]at h2;simp at h2
   obtain⟨r,am⟩:=Ar u.1
   have d4:iY g x.1=r.sort:=by unfold iY;rw[am]
   obtain⟨f,T⟩:∃f:Sp,(r.sort,x.2.2,j)=f:=⟨_,rfl⟩
   have ao:c7 f=[sV r.sort,nV x.2.2,nV j]:=by rw[<-T];rfl
   refine Gz 8 [.str [],.int .i64 0,.int .i64 0] (c7 f) [] rfl rfl (λW=>?_) ?_
   ·refine XX 1 (l:=[]) trivial ?_;refine G4 ?_
    refine V (lO t) (V (Bp Ii rfl rfl zD rfl) ?_)
    refine G4 ?_
    refine V (Bp Ii rfl rfl zD rfl) ?_
    refine G3 ?_
    refine DT (Bu bG) (DT (G1 (cs:=[.str [],.int .i64 0,.int .i64 0]) (cs':=c7 f) Z aG rfl rfl rfl (by rw[ao];rfl)) ?_)
    refine G ?_
    exact⟨(by intro e he;simp at he;rcases he with rfl|rfl<;>first|exact .refl|exact K4 W),trivial,sb,rfl,rfl⟩
   refine G2 ?_;refine X0 ?_;refine G3 ?_;refine V (lO t) ?_;refine G ?_;refine V (tB Va rfl ⟨vD,a7⟩ rfl (j' f)) ?_;refine G ?_;refine⟨rfl,rfl,?_⟩;refine Ab rfl ?_ ?_<;>intro h3
   ·have Q:f∈b.done:=Classical.byContradiction Z
    have eS:Dj g n j x b=b:=by unfold Dj;grind
    refine G6 ?_;refine⟨(d+1,Dj g n j x b),Z,SL,w,Z,m,c.ok,c.len.trans i,y,Z,dt⟩
   ·have Q:f∉b.done:=Z
    have eS:Dj g n j x b=fP g f (Cu g n+1) 0 { b with done:=f::b.done }:=by unfold Dj;grind
    obtain⟨af,ag⟩:=B.doneS (s:=f) (ver:=vD+1) dh
    have an:f.2.1<=f.2.2:=by rw[<-T];exact u.2.2
    have cx:f.2.2=j:=by rw[<-T]
    refine G2 ?_;refine XS (l:=[]) trivial ?_;refine G3 ?_;refine V (lO t) ?_;refine G ?_
    refine DT (K7 (v:=true) Va rfl a7 rfl (j' f) rfl (λte h1 h2=>by simp[Je,h1,h2])) ?_
    refine G4 ?_;refine Az rfl rfl rfl rfl (show Al M 189 [.pr X.c 0,.agg (c7 f)] _ _ from m.c▸Bb af f L an Z Z hb) ?_
    rintro u1 J1 ⟨ae,hZ,o⟩;refine G6 ?_;refine⟨(d+1,Dj g n j x b),Z,SL,ae,Z,m.trans (ag.trans o),c.ok,c.len.trans i,y,Z,dt⟩
  ·obtain⟨p,hp⟩:∃p,dC g x=some p:=by cases hh:dC g x with|none=>rw[hh]at h2;simp at h2|some p=>exact⟨p,rfl⟩
   have aw:x.2.1<=30000000:=bD (bD u.2.1 W9) (bD (IA u.1) hb)
   have aa:kM (dC g x)=p.sort:=by rw[hp];rfl
   have aj:Cu g j<=30000000:=bD (ZH z) hb;refine G3 ?_;refine A (Ac aG rfl rfl (Nt _)) (A (Ko (q:=[]) aV rfl rfl) ?_);refine G2 ?_;refine Ab rfl ?_ ?_<;>intro h3
   ·have bz:p.sort≠[]:=Z;refine G4 ?_;refine A (Ac aG rfl rfl (Nt _)) ?_;refine G ?_;refine Az rfl rfl rfl rfl (show Al M 152 [.pr X.c 0,sV (kM (dC g x)),nV j] K _ from m.c▸wU B (hr.lk m) _ E L aj hR) ?_
    rintro u1 J1 ⟨ae,hZ,o⟩;obtain⟨ME,⟨vE,ai⟩,ar⟩:=hZ.done
    have qp:J1.get X.c=some (.cells (ae.cells g R)):=by rw[<-(m.trans o).c];exact hZ.cl
    have ax:(b.pred g (kM (dC g x)) j).done=b.done:=PK;refine G2 ?_;refine X0 ?_;refine G3 ?_;refine V (lO qp) ?_;refine G ?_;refine V (Ac aG rfl rfl (Nt _)) ?_;refine G3 ?_;refine V (tB Va rfl ⟨vE,ai⟩ rfl (j' (kM (dC g x),j,j))) ?_;refine G ?_;refine⟨rfl,rfl,?_⟩;refine Ab rfl ?_ ?_<;>intro h4
    ·have Q:(p.sort,j,j)∈(b.pred g p.sort j).done:=Classical.byContradiction Z
     have eS:Dj g n j x b=(b.pred g p.sort j).add j (i' x):=by unfold Dj;grind
     rw[aa]at hZ;have ib:Gj g (b.pred g p.sort j):=L.adds Vn;refine G3 ?_
     refine A (Bp Ii rfl rfl zD rfl) ?_
     refine G ?_
     refine A (Bp Ii rfl rfl zD rfl) ?_
     refine G2 ?_
     refine A (Bp Ii rfl rfl zD rfl) ?_
     refine G ?_
     refine A (G0 zx Ii rfl rfl) (Az rfl rfl rfl rfl (show Al M 187 [.pr X.c 0,nV j,jD (i' x)] J1 _ from(m.trans o).c▸lD hZ (i' x) (by show j<(b.adds j _).sets.length;rw[pI];exact E) (bD ((ib.set (j:=j)).bound (n:=n) z) hb)) ?_)
     rintro u2 J2 ⟨au,hV,ah⟩;refine G6 ?_;refine⟨(d+1,Dj g n j x b),Z,SL,au,Z,(m.trans o).trans ah,c.ok,c.len.trans i,y,Z,dt⟩
    ·have Q:(p.sort,j,j)∉b.done:=Z
     have eS:Dj g n j x b=b.pred g p.sort j:=by unfold Dj;grind
     rw[aa]at hZ;refine G6 ?_;refine⟨(d+1,Dj g n j x b),Z,SL,ae,Z,m.trans o,c.ok,c.len.trans i,y,Z,dt⟩
   ·have he:p.sort=[]:=Z
    have eS:Dj g n j x b=b:=by unfold Dj;grind
    refine G6 ?_;refine⟨(d+1,Dj g n j x b),Z,SL,w,Z,m,c.ok,c.len.trans i,y,Z,dt⟩
 ·have bj:l.length<=d:=Z
  have ma:b=cls g n j (Cu g n+1) 0 S:=by
   rw[<-C,show Cu g n+1-d=(Cu g n-d)+1 by omega]
   simp only[cls,cd,List.getElem?_eq_none_iff.2 bj]
  refine Bo λW=>?_
  refine G ?_;exact⟨[],rfl,_,_,a_ W Y zN,m.n,.same rfl,w,Z,m⟩
theorem cM.below{g R N X S J U}(h:cM g R N X S J)(x:Below (O J) J U):cM g R N X S U:=by
 have b:∀t a,X.loc t=some a->U.get a=J.get a:=λt a d=>x.2 a (h.lo t a d).2
 refine⟨h.inj,λt a d=>⟨(h.lo t a d).1,cC (h.lo t a d).2 x.1⟩,(b .c _ rfl).trans h.cl,h.sets.of_get x.1 λa c=>b .s a c,h.is.of_get x.1 λa c=>b .i a c,h.lv,h.lm,λk l u f e=>(h.vals k l u f e).of_get x.1 λa c=>b (.v k) a (by show(X.vals[k]?).bind bm=_;grind),λk l u f e=>(h.mps k l u f e).of_get (b (.m k) u e),h.done.of_get (b .d _ rfl)⟩
theorem Lk.below{g R N X S J U}(h:cM g R N X S J)(x:Below (O J) J U):Lk X J X U:=⟨rfl,rfl,rfl,x.1,λt a d=>.inl ⟨t,d⟩,λb c _=>x.2 b c⟩
theorem TL{g l a}:(Ma g l a).length<=l.length:=List.length_filterMap_le _ _
theorem YI{g}{l:List It}{sym i x}(h:l[i]? =some x):Ma g (l.take (i+1)) sym=Ma g (l.take i) sym++(lY g sym x).toList:=by
 have e:l.take (i+1)=l.take i++[x]:=by rw[List.take_add_one,h];rfl
 unfold Ma
 grind
theorem UZ{g a x y}(h:lY g a x=some y):y=i' x/\∃p,dC g x=some p:=by
 unfold lY at h
 grind
def EP:Option Pt->aH
 |some p=>p.symbol
 |none=>[]
theorem SJ(o):Cz 1 false ((tM o).drop 0)=some (sV (EP o)):=by cases o<;>rfl
theorem OL{g a x}:(lY g a x).isSome=((dC g x).isSome&&decide (kM (dC g x)=[])&&decide (EP (dC g x)=a)):=by
 unfold lY;cases dC g x with
 |none=>rfl
 |some p=>
  show(if p.sort=[]/\p.symbol=a then some (i' x)else none).isSome=(true&&decide (p.sort=[])&&decide (p.symbol=a))
  by_cases b:p.sort=[]<;>by_cases c:p.symbol=a<;>simp[b,c]
theorem UA{g n}:Cu g n<=Cu g (n+1):=Nat.mul_le_mul_left _ (Nat.mul_le_mul_left _ z)
theorem Io{g R N X S J}(h:cM g R N X S J){j}(hj:S.sets.length=j+1)(an:j<R.length)(K:Gj g S)(E:Cu g (j+1)<=30000000)(bn:S.sets.length<=1000000):Al M 154 [.pr X.c 0,nV j] J λv J'=>match S.scan g R j with
  |none=>v=.bool false/\∃X',cM g R N X' S J'/\Lk X J X' J'
  |some aC=>v=.bool true/\∃X',cM g R N X' aC J'/\Lk X J X' J':=by
 obtain⟨sym,iw⟩:=Ar an;have np:R.getD j []=sym:=Z;have C:Cu g j<=30000000:=bD UA E
 obtain⟨l,T⟩:=Ar (show j<S.sets.length by omega)
 obtain⟨v,hv⟩:=Ar (show j<X.vals.length by rw[h.lv];omega)
 have ae:=(bQ.1 hv).1;have bf:=h.vals _ l v T hv;obtain⟨aS,tS,_,kf,ar,ak⟩:=h.sets.sr ae
 have aj:J.get X.c=some (.cells [Af g.sorts,aD eR 4 g.rules,.mp X.mR,Af R,.sr aS 0 1 X.vals.length none,X.vI,.mp X.mD]):=by rw[<-ar];exact h.cl
 have ao:l.length<=30000000:=bD ((K _ l T).bound (n:=j) Y) C
 have aq:∀r,Cz 1 false (eV v++r)=some v:=λr=>by
  rcases bf with⟨_,rfl|rfl⟩|⟨a,tl,_,_,rfl,_⟩<;>rfl
 refine Aj Tryz.func154 rfl rfl λhw j0=>?_
 iterate 14 refine G ?_
 refine A (lO aj) ?_;refine G ?_;refine A (Br aJ rfl rfl ae) (A (Dg O0 aG rfl ak hv aq) (A (Bf bF rfl bf.lenA.1 bf.lenA.2) ?_));refine G3 ?_;refine Ci (λq:Nat×I=>[(0,.pr X.c 0),(1,nV j),(5,q.2),(18,v),(19,nV l.length),(20,nV q.1)]) (λq o=>q.1<=l.length/\Below (O J) J o/\aW o (O J) jH 3 (Ma g (l.take q.1) sym) q.2) (λq=>l.length-q.1) (0,nS) SL ⟨bU _,mE,.nil⟩ ?_
 rintro⟨L,u⟩ o ⟨a9,f,m⟩;have a9:L<=l.length:=a9;have f:Below (O J) J o:=f;have hY:cM g R N X S o:=h.below f;have ap:(Ma g (l.take L) sym).length<=30000000:=bD TL (bD Z ao);have m:aW o (O J) jH 3 (Ma g (l.take L) sym) u:=m;refine G5 ?_;refine Ab rfl ?_ ?_<;>intro h1
 ·have bc:L<l.length:=Z;obtain⟨x,hx⟩:=Ar bc;obtain⟨a,tl,_,_,au,al⟩:=(hY.vals _ l v T hv).sr bc;have W:Vm g j x:=(K _ l T).2 x (fA.2 ⟨_,hx⟩);have aa:=YI (g:=g) (sym:=sym) hx;have nq:o.get X.c=_:=hY.cl;refine G5 ?_;refine A (Br aJ (show _=some (I.sr a 0 3 l.length none)from congrArg some au) rfl bc) (A (Dg Rx aG rfl al hx λ_=>rfl) ?_)
  refine G6 ?_;refine Ca (show Al M 188 [.pr X.c 0,jD x] o _ from qT g X.c j x _ o nq W) ?_
  refine G3 ?_;refine Ho bG aG rfl zF rfl (A7 (F5 _)) rfl rfl ?_
  refine G2 ?_;refine Gg [(47,.bool ((dC g x).isSome&&decide (kM (dC g x)=[])&&decide (EP (dC g x)=sym)))] ?_ ?_
  ·rcases fI ((dC g x).isSome)with c|c
   ·rcases fI (decide (kM (dC g x)=[]))with d|d
    ·refine X0 ?_;refine G3 ?_;refine Xn (Ac aG rfl rfl (Nt _)) ?_;refine G4 ?_;refine Xn (Ac aG rfl rfl (SJ _)) ?_;refine G3 ?_;refine Xn (lO nq) ?_;refine G6 ?_;exact⟨rfl,rfl,⟨⟨Cb,trivial⟩,sb,rfl⟩⟩
    ·refine X0 ?_;refine G3 ?_;refine Xn (Ac aG rfl rfl (Nt _)) ?_;refine Wn (w:=R2 d c) (H5 (q:=[]) aV rfl rfl) (V (A3 rfl (R2 d c) rfl) (V Oq (Wx (w:=R2 d c) (Wx (w:=R2 d c) (Wx (w:=R2 d c) (Wx (w:=R2 d c) (Wx (w:=R2 d c) ?_)))))));refine Wx (w:=R2 d c) (Wx (w:=R2 d c) (Wx (w:=R2 d c) (Wx (w:=R2 d c) (Wx (w:=R2 d c) (V (Au rfl (R2 d c) rfl) (C1 ?_))))));exact⟨rfl,rfl,⟨⟨congrArg (λb=>some (I.bool b)) (R2 d c),trivial⟩,sb,rfl⟩⟩
   ·refine X0 ?_;refine V Oq (V Oq (Wx (w:=R1 c) (Wx (w:=R1 c) (Wx (w:=R1 c) (V (Au rfl (R1 c) rfl) (V Oq (Wx (w:=R1 c) ?_)))))));refine Wx (w:=R1 c) (Wx (w:=R1 c) (Wx (w:=R1 c) (Wx (w:=R1 c) (Wx (w:=R1 c) (Wx (w:=R1 c) (Wx (w:=R1 c) (Wx (w:=R1 c) ?_)))))));refine Wx (w:=R1 c) (V (Au rfl (R1 c) rfl) (C1 ?_));exact⟨rfl,rfl,⟨⟨congrArg (λb=>some (I.bool b)) (R1 c),trivial⟩,sb,rfl⟩⟩
  refine Ab rfl ?_ ?_<;>intro s
  ·rw[<-OL]at s;obtain⟨x',af⟩:=gV.1 s;obtain⟨ay,p,hp⟩:=UZ af;subst ay;have dg:x.2.1<=30000000:=bD (bD W.2.1 W9) (bD (IA (n:=j) W.1) C);have bz:=(h.lo .c _ rfl)
   obtain⟨J1,ai,n1,ij,g1⟩:=jB (by':=24) Rx f.1 m (i' x) (by simp only[az];omega)
   refine G2 ?_
   refine A (Bp Ii rfl rfl zD rfl) ?_
   refine G ?_
   refine A (Bp Ii rfl rfl zD rfl) ?_
   refine G2 ?_
   refine A (Bp Ii rfl rfl zD rfl) ?_
   refine G ?_;refine A (G0 zx Ii rfl rfl) (Cx (Ai aJ bM rfl rfl rfl) (Dv (len:=1)) rfl rfl (A (Av aJ rfl bF rfl rfl rfl (new:=jH (i' x)) rfl ai) ?_));refine G6 ?_
   refine⟨(L+1,.sr (O o) 0 3 ((Ma g (l.take L) sym).length+1) none),Z,SL,bc,⟨by have:=f.1;omega,λb C=>by rw[g1 b (by have:=f.1;omega) (λe=>by have:=m.adr_lt e;omega),f.2 b C]⟩,Z⟩
  ·rw[<-OL]at s
   have af:lY g sym x=none:=by cases hh:lY g sym x with|none=>rfl|some _=>rw[hh]at s;cases s
   refine G5 ?_;refine⟨(L+1,u),Z,SL,bc,f,Z⟩
 ·have bj:l.length<=L:=Z;have aa:l.take L=l:=dG bj;rw[aa]at m ap;refine G5 ?_;refine A (Bf bF rfl m.lenA.1 m.lenA.2) ?_;refine G2 ?_;refine Ab rfl ?_ ?_<;>intro s
  ·have fj:Ma g l sym=[]:=oD Z;refine G4 ?_;refine Bo λaw=>?_
   refine G ?_;refine⟨_,rfl,_,_,a_ aw Y zN,f.1,.same rfl,?_⟩
   have e:S.scan g R j=none:=by unfold Ch.scan;rw[oT T,np,fj]
   rw[e];exact⟨rfl,X,hY,Lk.below h f⟩
  ·have gz:Ma g l sym≠[]:=Z;refine G4 ?_;refine Az rfl rfl rfl rfl (xQ hY z) ?_;rintro u1 J1 ⟨Y1,ah,i⟩
   have U:aW J1 (O J) jH 3 (Ma g l sym) u:=m.of_get i.n λb C=>i.fr b (m.adr_lt C).2 λt ht=>by have:=(h.lo t b ht).2;have:=(m.adr_lt C).1;omega
   refine G5 ?_;refine A (Bf bF rfl U.lenA.1 U.lenA.2) ?_;refine G3 ?_;refine Bz (Ma g l sym).length (λP=>[(0,.pr X.c 0),(1,nV j),(65,u),(66,nV (Ma g l sym).length),(67,nV P)]) (λP J2=>aW J2 (O J) jH 3 (Ma g l sym) u/\(∀b,O J<=b->b<O J1->(∀t,Y1.loc t≠some b)->J2.get b=J1.get b)/\∃bx,cM g R N bx (S.open'.adds (j+1) ((Ma g l sym).take P)) J2/\Lk Y1 J1 bx J2) SL ⟨U,λ_ _ _ _=>rfl,Y1,ah,Lk.refl _ _⟩ ?_
   rintro P J2 ey ⟨ac,d4,Y2,Q,k⟩;refine G5 ?_;refine Ab rfl ?_ ?_<;>intro h3
   ·have bv:P<(Ma g l sym).length:=Z;obtain⟨x2,ag⟩:=Ar bv;obtain⟨a2,jc,d9,cx,qq,qv⟩:=ac.sr bv
    have am:j+1<(S.open'.adds (j+1) ((Ma g l sym).take P)).sets.length:=by rw[pI];show j+1<(S.sets++[[]]).length;simp[hj]
    have ib:Gj g (S.open'.adds (j+1) ((Ma g l sym).take P)):=(EL K).adds λy hy=>QN (K _ l T).2 y (kJ hy)
    refine G5 ?_;refine A (Br aJ (show _=some (I.sr a2 0 3 (Ma g l sym).length none)from congrArg some qq) rfl bv) (A (Dg Rx aG rfl qv ag λ_=>rfl) ?_)
    refine G7 ?_;refine Az rfl rfl rfl rfl (show Al M 187 [.pr X.c 0,nV (j+1),jD x2] J2 _ from(i.trans k).c▸lD Q x2 am (bD ((ib.set (j:=j+1)).bound (n:=j+1) Y) E)) ?_
    rintro u3 J3 ⟨d5,hZ,B⟩;refine G5 ?_;rw[<-M1 ag]at hZ
    have a8:∀b,O J<=b->b<O J1->(∀t,Y1.loc t≠some b)->∀t,Y2.loc t≠some b:=λb h1 s h3 t ht=>by
     rcases k.sub t b ht with⟨w,hw⟩|hw
     ·exact h3 w hw
     ·omega
    refine⟨bv,SL,ac.of_get B.n λb C=>?_,λb h1 s h3=>?_,d5,hZ,k.trans B⟩
    ·have E:=(m.adr_lt C);have db:=i.n
     exact B.fr b (by have:=k.n;omega) (a8 b E.1 z λt ht=>by
      rcases i.sub t b ht with⟨w,hw⟩|hw
      ·have:=(h.lo w b hw).2;omega
      ·omega)
    ·rw[B.fr b (by have:=k.n;omega) (a8 b h1 s h3)];grind
   ·have ba:(Ma g l sym).length<=P:=Z;rw[dG ba]at Q;refine G5 ?_;refine Bo λax=>?_
    refine G ?_;have a7:=((Lk.below h f).trans i).trans k;refine⟨_,rfl,_,_,a_ ax Y zN,a7.n,.same rfl,?_⟩
    have e:S.scan g R j=some (S.open'.adds (j+1) (Ma g l sym)):=by
     unfold Ch.scan;rw[oT T,np]
     grind
    rw[e];exact⟨rfl,Y2,Q,a7⟩
theorem EA(r J):Cv 120 [.agg (eR r)] J (.bool true):=by
 refine Aj Tryz.func120 rfl rfl λb a=>?_
 refine cD ?_;exact⟨_,rfl,_,_,a_ b Y zN,Y,.same rfl,rfl,rfl⟩
theorem Q0{E f J a t n T x v e cs}(L:gN E.P t=some (T,e))(W:Ah E f x=some v)(P:v.cellsN T=some cs)(S:O J=n):As E a (.box t x) f J (.pr n 0) (J.new (.cells cs)):=by subst S;exact zi L W P
theorem BD{f J a t T r x y e U u C b}{m:SM C}{s}(c:Fs M.P 9=true)(L:cq M.P t=some (9,U,T,e))(W:Ah M f x=some (.mp r))(K:B8 b J r m)(B:Ah M f y=some (sV s))(d:((m.get s).map b).getD U=u):
  As M a (.lookup t x y false) f J u J:=by subst d;exact W4 c L W K B
def Mv(g:Gr)(i:Nat)(s:aH):List Nat:=(List.range i).filter λk=>decide (iY g k=s)
theorem YQ{g i s}:(Mv g i s).length<=i:=by
 unfold Mv
 grind
theorem YA{g i s r}(h:g.rules[i]? =some r):Mv g (i+1) s=if s=r.sort then Mv g i s++[i]else Mv g i s:=by
 unfold Mv
 have e:iY g i=r.sort:=by unfold iY;rw[h]
 rw[List.range_succ,zj]
 grind
structure RB (g:Gr)(N i mR:Nat)(rv:SM I)(J:F):Prop where
 map:B8 (λv:I=>v) J mR rv
 lo:∀s v a,rv.get s=some v->bm v=some a->N<=a/\a<O J
 inj:∀s t v w a,rv.get s=some v->rv.get t=some w->bm v=some a->bm w=some a->s=t
 get:∀s,match rv.get s with|none=>Mv g i s=[]|some v=>aW J 0 eN 1 (Mv g i s) v
theorem RB.start{g N b J}(h:J.get b=some (.map 9 [] 0)):RB g N 0 b [] J:=⟨⟨0,h⟩,λs v a h=>(by cases h),λs t v w a h=>(by cases h),λs=>rfl⟩
theorem RB.own{g N i b l J}(h:RB g N i b l J)(s):∃v,((l.get s=none/\v=nS)\/l.get s=some v)/\aW J 0 eN 1 (Mv g i s) v/\True:=by
 have:=h.get s;cases a:l.get s with
 |none=>rw[a]at this;exact⟨_,.inl ⟨rfl,rfl⟩,by rw[this];exact .nil,trivial⟩
 |some v=>rw[a]at this;exact⟨v,.inr rfl,this,trivial⟩
theorem RB.step{g N i n k l J m r v}(h:RB g N i n l J)(y:g.rules[i]? =some r)(K:n<N)(R:N<=O J)(b:(l.get r.sort=none/\v=nS)\/l.get r.sort=some v)(B:O m=O J+1)
  (x:aW m 0 eN 1 (Mv g i r.sort++[i]) (.sr (O J) 0 1 ((Mv g i r.sort).length+1) none))(q:∀a,a<O J->bm v≠some a->m.get a=J.get a):
  RB g N (i+1) n (l.put r.sort (.sr (O J) 0 1 ((Mv g i r.sort).length+1) none)) (m.set n (.map 9 (Cn (λv:I=>v) (l.put r.sort (.sr (O J) 0 1 ((Mv g i r.sort).length+1) none))) k)):=by
 refine⟨⟨k,Z⟩,λs w a c d=>?_,λs t w p a c f d o=>?_,λs=>?_⟩
 ·rw[Aq];rw[dP]at c
  split at c
  ·cases c;cases d;omega
  ·have:=h.lo s w a c d;omega
 ·rw[dP]at c f
  split at c<;>split at f
  ·grind
  ·cases c;cases d;have:=h.lo t p _ f o;omega
  ·cases f;cases o;have:=h.lo s w _ c d;omega
  ·exact h.inj s t w p a c f d o
 ·rw[dP,YA y]
  by_cases e:s=r.sort
  ·subst e;rw[if_pos rfl,if_pos rfl]
   exact x.of_get Z λa d=>by cases d;grind
  ·rw[if_neg e,if_neg e];have:=h.get s;cases c:l.get s with
   |none=>rw[c]at this;exact this
   |some w=>
    rw[c]at this;refine this.of_get Z λa d=>?_
    have u:=h.lo s w a c d;rw[aU,if_neg z,q a u.2 λj=>?_]
    rcases b with⟨_,rfl⟩|b
    ·cases j
    ·exact e (h.inj _ _ _ _ _ c b d j)
theorem RB.rls{g N b l J X}(h:RB g N g.rules.length b l J)(W:X.mR=b)(K:b<O J)(d:∀t a,X.loc t=some a->a<N/\a≠b):pP g l X J:=by
 refine⟨by rw[W];exact h.map,λa c=>?_,h.get⟩
 rcases c with rfl|⟨s,v,e,f⟩
 ·grind
 ·have:=h.lo s v a e f
  grind
theorem LB{g n m}(h:n<=m):Cu g n<=Cu g m:=Nat.mul_le_mul_left _ (Nat.mul_le_mul_left _ z)
abbrev jM(c:Nat):Cp:=⟨c+2,c,c+1,nS,nS,[],[]⟩
theorem X0.loc_lt{c t a}(h:(jM c).loc t=some a):a<c+3/\a≠c:=by
 cases t with
 |c=>have h:c+2=a:=gL h;omega
 |d=>have h:c+1=a:=gL h;omega
 |s=>cases h
 |i=>cases h
 |v j=>cases j<;>cases h
 |m j=>cases j<;>cases h
theorem X0.chS{g R c J}(n:J.get (c+1)=some (.map 232 [] 0))(P:J.get (c+2)=some (.cells ((jM c).cells g R)))(S:c+3<=O J):cM g R c (jM c) ⟨[],[]⟩ J:=by
 refine⟨λt u a b e=>?_,λt a b=>?_,P,.nil,.nil,rfl,rfl,λj l v o=>Z,λj l m o=>Z,⟨[],⟨0,n⟩,λx=>⟨λh=>(by cases h),λ_=>rfl⟩⟩⟩
 ·cases t<;>cases u<;>first|rfl|(cases b;cases e;done)|(cases b;done)|(cases e;done)|(rename_i j;cases j<;>cases b;done)|(rename_i j;cases j<;>cases e;done)|(rename_i j k;cases j<;>cases b)|(have f:c+2=a:=gL b;have h2:c+1=a:=gL e;omega)|(have f:c+1=a:=gL b;have h2:c+2=a:=gL e;omega)
 ·have f:=X0.loc_lt b;cases t with
  |c=>have h:c+2=a:=gL b;omega
  |d=>have h:c+1=a:=gL b;omega
  |s=>cases b
  |i=>cases b
  |v j=>cases j<;>cases b
  |m j=>cases j<;>cases b
theorem X0.blw{c X J e U}(x:Below c J e)(S:c+3<=O e)(h:Lk (jM c) e X U):Below c J U:=⟨bD x.1 h.n,λb f=>by
 rw[h.fr b z λt a=>?_,x.2 b f]
 cases t with
 |c=>have:=gL a;simp[jM]at this;omega
 |d=>have:=gL a;simp[jM]at this;omega
 |s=>cases a
 |i=>cases a
 |v j=>cases j<;>cases a
 |m j=>cases j<;>cases a⟩
theorem BK(g c R J)(hb:Cu g R.length<=30000000)(hR:g.rules.length<=1000000)(hl:R.length<1000000):Al M 119 [gY g,sV c,Af R,.fn (.func 120) [] []] J λv J'=>∃X rv,v=.pr X.c 0/\cM g R (O J) X (Ej g c R) J'/\pP g rv X J'/\Below (O J) J J':=by
 obtain⟨o,ac⟩:=zE (((J.new (.map 9 [] 0)).new (.map 232 [] 0)).new (.cells ((jM (O J)).cells g R)));have ao:o.get (O J)=some (.map 9 [] 0):=Z;have am:o.get (O J+1)=some (.map 232 [] 0):=Z;have al:o.get (O J+2)=some (.cells ((jM (O J)).cells g R)):=Z;have au:O o=O J+3:=Z
 have af:Below (O J) J o:=⟨by omega,Z⟩
 refine Aj Tryz.func119 rfl rfl λhw aw=>?_
 refine G8 ?_;refine A (Gx sS) ?_;refine G ?_;refine A (Cd (n:=O J+1) Va (Ao _ _)) ?_;refine G ?_;refine A (Q0 (n:=O J+2) (cs:=(jM (O J)).cells g R) aG rfl rfl Z) ?_;refine G2 ?_;rw[ac];refine G9 ?_
 refine Bz g.rules.length (λu=>[(1,sV c),(2,Af R),(3,.fn (.func 120) [] []),(9,.pr (O J+2) 0),(20,aD eR 4 g.rules),(21,nV g.rules.length),(22,nV u)]) (λu m=>∃rv,RB g (O J+3) u (O J) rv m/\Below (O J) J m/\m.get (O J+1)=some (.map 232 [] 0)/\m.get (O J+2)=some (.cells ((jM (O J)).cells g R))/\O J+3<=O m) SL ⟨[],RB.start ao,af,am,al,by omega⟩ ?_
 rintro u m an ⟨rv,d,k,a8,h,x⟩;refine G5 ?_;refine Ab rfl ?_ ?_<;>intro h1
 ·have bc:u<g.rules.length:=Z;obtain⟨r,hr⟩:=Ar bc;refine G7 ?_;refine A (Ac aG rfl rfl (A6 (Qy r) _)) (Rn bG aG rfl rfl zF rfl zF rfl (A7 (Qy r)) rfl rfl rfl ?_)
  refine G5 ?_;refine Ca (EA r m) ?_;refine G ?_;refine Ab rfl ?_ ?_<;>intro h2
  ·obtain⟨v,hv,bf,_⟩:=d.own r.sort;obtain⟨ax,hM⟩:=d.map
   obtain⟨o,ak,n1,ap,g1⟩:=jB (by':=8) Ep (bU _) bf u (by simp only[az];have:=YQ (g:=g) (i:=u) (s:=r.sort);omega)
   have C:∀b,b<O J+3->bm v≠some b:=λb hb e=>by
    rcases hv with⟨_,rfl⟩|hv
    ·cases e
    ·have:=(d.lo _ _ _ hv e).1;omega
   have ai:=(g1 (O J) z (C _ z)).trans hM;have ar:=(g1 (O J+1) z (C _ z)).trans a8;have qw:=(g1 (O J+2) z (C _ z)).trans h;have aa:((rv.get r.sort).map λv:I=>v).getD nS=v:=Z
   refine L4 (Rr:=Dk []) (anns:=[⟨.pure,0,1⟩,⟨.pure,0,1⟩,⟨.pure,0,1⟩,⟨.read,0,1⟩,⟨.pure,0,1⟩,⟨.read,0,1⟩,⟨.pure,0,0⟩,⟨.pure,0,0⟩,⟨.pure,0,0⟩,⟨.read,0,0⟩,⟨.pure,0,0⟩,⟨.read,0,0⟩,⟨.read,0,0⟩,⟨.pure,0,0⟩,⟨.pure,0,0⟩,⟨.eff,0,1⟩,⟨.eff,1,2⟩]) Di (Bw (l:=[]) trivial) Kr ?_;refine G3 ?_;refine V (lO h) ?_;refine G5 ?_;refine V (lO h) ?_;refine G2 ?_;refine V (BD bI sS rfl d.map rfl aa) ?_;refine G ?_
   refine V (Ai aJ bM rfl rfl rfl) (DT (Av aJ rfl bF rfl rfl rfl (new:=eN u) rfl ak) (DT (Gh (v:=.sr (O m) 0 1 ((Mv g u r.sort).length+1) none) bI sS rfl ai rfl rfl (λte k1 k2=>by unfold Je;rw[k2];rfl)) ?_))
   refine G ?_
   refine⟨⟨trivial,trivial,trivial,(λs p=>by simp at p;rcases p with rfl|rfl;exact⟨_,E8 h (aG (t:=160)) rfl rfl⟩;exact⟨_,E8 qw (aG (t:=160)) rfl rfl⟩),trivial,(λs p=>⟨_,Ac (aG (t:=9)) rfl rfl rfl⟩),trivial,trivial,trivial,(λs p=>by simp at p;subst p;exact⟨_,E8 h (aG (t:=160)) rfl rfl⟩),trivial,(λs p=>⟨_,Ac (aG (t:=9)) rfl rfl rfl⟩),(λs p=>by simp at p;subst p;exact⟨_,BD bI sS rfl d.map rfl aa⟩),trivial,trivial,trivial,trivial,trivial⟩,?_⟩
   refine G4 ?_;refine⟨bc,SL,_,d.step hr z x hv n1 ap g1,⟨Z,λb hb=>?_⟩,?_,?_,Z⟩
   ·rw[aU,if_neg Z,g1 b z (C b z),k.2 b hb]
   ·grind
   grind
  ·cases h2
 ·have bj:g.rules.length=u:=Nat.le_antisymm Z an;subst bj;have qx:cM g R (O J) (jM (O J)) ⟨[],[]⟩ m:=X0.chS a8 h x;have B:=d.rls (X:=(jM (O J))) rfl z (λt a ht=>X0.loc_lt ht)
  refine G4 ?_;refine Az rfl rfl rfl rfl (xQ qx (bU _)) ?_;rintro u1 o ⟨X1,aj,L⟩;have qz:Gj g (Ch.open' ⟨[],[]⟩):=EL λj l hj=>Z
  refine G5 ?_
  refine Az rfl rfl rfl rfl (show Al M 152 [.pr (O J+2) 0,sV c,nV 0] o _ from(show X1.c=O J+2 from L.c)▸wU aj (B.lk L) c (j:=0) (by show 0<([]++[[]]).length;simp) qz (bD (LB (bU _)) hb) hR) ?_
  rintro u2 J2 ⟨X2,P,ag⟩;have P:cM g R (O J) X2 (xX g c) J2:=P;have qy:=L.trans ag;refine G6 ?_;refine Ci (λq:Nat×Ch=>[(2,Af R),(9,.pr (O J+2) 0),(12,nV q.1)]) (λq U=>∃a7,cM g R (O J) a7 q.2 U/\Lk (jM (O J)) m a7 U/\Gj g q.2/\q.2.sets.length=q.1+1/\q.1<=R.length/\Aji g R (R.length+1-q.1) q.1 q.2=Ej g c R) (λq=>R.length-q.1) (0,xX g c) SL ⟨X2,P,qy,OE.1,OE.2,bU _,rfl⟩ ?_
  rintro⟨j,S⟩ U ⟨a7,hY,hL,y,bl,a9,f⟩;have hY:cM g R (O J) a7 S U:=hY;have y:Gj g S:=y;have bl:S.sets.length=j+1:=bl;have a9:j<=R.length:=a9;have f:Aji g R (R.length+1-j) j S=Ej g c R:=f;have hk:=Asd (n:=R.length) (j:=j) (Cu g R.length+1) 0 S y;refine G6 ?_;refine Az rfl rfl rfl rfl (show Al M 153 [.pr (O J+2) 0,nV j] U _ from(show a7.c=O J+2 from hL.c)▸DX (n:=R.length) hY (B.lk hL) y (j:=j) z z hb hR) ?_
  rintro u3 U1 ⟨ae,hZ,ah⟩;have E:=hL.trans ah
  have nw:(cls g R.length j (Cu g R.length+1) 0 S).sets.length=j+1:=by rw[hk.len];exact bl
  refine G ?_
  rw[show R.length+1-j=(R.length-j)+1 by omega]at f
  simp only[Aji]at f
  by_cases w:j=R.length
  ·rw[if_pos w]at f;have f:cls g R.length j (Cu g R.length+1) 0 S=Ej g c R:=f;refine G6 ?_
   have hd:decide ((Int.ofNat j)=Int.ofNat R.length)=true:=decide_eq_true (by rw[w])
   rw[hd];refine G ?_;refine Co rfl rfl rfl rfl rfl rfl (Co rfl rfl rfl rfl rfl rfl (Co rfl rfl rfl rfl rfl rfl (Co rfl rfl rfl rfl rfl rfl (A (A3 rfl rfl rfl) ?_))));refine G ?_;refine Ab rfl (λh2=>?_) Z
   refine G5 ?_;refine Bo λT=>?_
   refine G ?_;rw[f]at hZ
   exact⟨_,rfl,_,_,a_ T Y zN,bD k.1 E.n,.same (by show Nat.blt (O J+2) _=true;exact Ce (by have:=E.n;omega)),ae,rv,by rw[show ae.c=O J+2 from E.c];rfl,hZ,B.lk E,X0.blw k x E⟩
  ·have ql:j<R.length:=by omega
   rw[if_neg w]at f;refine G6 ?_;have hd:decide ((Int.ofNat j)=Int.ofNat R.length)=false:=decide_eq_false (λe=>w (gI e))
   rw[hd];refine G ?_;refine Bi rfl rfl rfl rfl rfl bT rfl rfl (Ag rfl) (Bi rfl rfl rfl rfl rfl bT rfl rfl (Ag rfl) (AY rfl rfl rfl rfl rfl rfl rfl rfl (show Al M 154 [.pr (O J+2) 0,nV j] U1 _ from(show ae.c=O J+2 from E.c)▸Io hZ nw ql hk.ok (bD (LB z) hb) z) ?_))
   intro u4 U2 hp;cases Q:(cls g R.length j (Cu g R.length+1) 0 S).scan g R j with
   |none=>
    rw[Q]at hp f;have f:cls g R.length j (Cu g R.length+1) 0 S=Ej g c R:=f;obtain⟨rfl,W,hW,N⟩:=hp;have K:=E.trans N;refine Bi rfl rfl rfl rfl rfl bT rfl rfl (Dc rfl) (A (Au rfl rfl rfl) ?_);refine G ?_;refine Ab rfl (λh2=>?_) Z
    refine G5 ?_;refine Bo λT=>?_
    refine G ?_;rw[f]at hW
    exact⟨_,rfl,_,_,a_ T Y zN,bD k.1 K.n,.same (by show Nat.blt (O J+2) _=true;exact Ce (by have:=K.n;omega)),W,rv,by rw[show W.c=O J+2 from K.c];rfl,hW,B.lk K,X0.blw k x K⟩
   |some aC=>
    rw[Q]at hp f;obtain⟨rfl,W,hW,N⟩:=hp;have K:=E.trans N;have aq:=ZR hk.ok Q;refine Bi rfl rfl rfl rfl rfl bT rfl rfl (Dc rfl) (A (Au rfl rfl rfl) ?_);refine G ?_;refine Ab rfl Z (λh2=>?_)
    refine G6 ?_;refine⟨(j+1,aC),Z,SL,W,hW,K,aq.1,Z,Z,Z⟩
abbrev y8:=Int×Int×Int×Int
instance:KE y8 where
 k p:=.agg [.int .i64 p.1,.int .i64 p.2.1,.int .i64 p.2.2.1,.int .i64 p.2.2.2]
 eq a b:=by
  obtain⟨s,x,y,c⟩:=a;obtain⟨t,u,v,w⟩:=b;simp only[aQ.eq,aQ.eqs,Nn,Ed]
  grind
def lk(r d a t:Nat):y8:=(.ofNat r,.ofNat d,.ofNat a,.ofNat t)
theorem Axn{r d a t y b x c}:lk r d a t=lk y b x c↔r=y/\d=b/\a=x/\t=c:=by
 simp only[lk,cE]
 grind
theorem rY(r d a t):D4 M.P 386 (.agg [nV r,nV d,nV a,nV t])=some (KE.k (lk r d a t)):=Kr
def Vo(g:Gr)(k:List Sp)(R:List aH)(J:F)(m:Nat):Prop:=∃c:GM y8 Bool,eW 386 bE J m c/\∀r d a t b,c.get (lk r d a t)=some b->b=ldP k R t ((du g r).drop d) a
theorem Vo.of_get{g k R J U m}(h:Vo g k R J m)(H:U.get m=J.get m):Vo g k R U m:=by
 obtain⟨a,b,c⟩:=h;exact⟨a,b.of_get H,c⟩
theorem Vo.put{g k R}{J:F}{m r d a t c}{E:GM y8 Bool}{b}(h:∀r d a t b,E.get (lk r d a t)=some b->b=ldP k R t ((du g r).drop d) a)(Q:b=ldP k R t ((du g r).drop d) a):Vo g k R (J.set m (.map 386 (Hi bE (E.put (lk r d a t) b)) c)) m:=by
 refine⟨_,eW.put,λn l i o j f=>?_⟩
 rw[tV]at f
 split at f
 ·rename_i e
  obtain⟨rfl,rfl,rfl,rfl⟩:=Axn.1 e
  grind
 grind
structure gM (mT:Nat)(J J':F):Prop where
 n:O J<=O J'
 g:∀b,b<O J->b≠mT->J'.get b=J.get b
theorem gM.refl{q J}:gM q J J:=⟨Y,λ_ _ _=>rfl⟩
theorem gM.trans{q J U p}(h:gM q J U)(k:gM q U p):gM q J p:=⟨bD h.n k.n,λb a c=>by rw[k.g b (cC a h.n) c,h.g b a c]⟩
theorem gM.set{q J o}:gM q J (J.set q o):=⟨Z,Z⟩
structure ee (g:Gr)(text:List aH)(D:List Sp)(X:Cp)(P mN mT:Nat)(lv:I)(J:F):Prop where
 pk:J.get P=some (.cells [.pr X.c 0,.mp mN,lv,.mp mT])
 cl:J.get X.c=some (.cells (X.cells g text))
 dn:sF 232 sk D J X.mD
 rs:Vo g D text J mT
 lt:P<O J/\X.c<O J/\X.mD<O J/\mT<O J
section
variable {g:Gr}{text:List aH}{D:List Sp}{X:Cp}{P mN mT:Nat}{lv:I}{J J':F}
theorem ee.ne(h:ee g text D X P mN mT lv J):P≠mT/\X.c≠mT/\X.mD≠mT:=by
 obtain⟨b,⟨v,d⟩,_⟩:=h.rs;obtain⟨c,⟨f,a⟩,_⟩:=h.dn;refine⟨λe=>?_,λe=>?_,λe=>?_⟩
 ·have:=h.pk;grind
 ·have:=h.cl;grind
 grind
theorem ee.keep(h:ee g text D X P mN mT lv J)(N:gM mT J J')(w:Vo g D text J' mT):ee g text D X P mN mT lv J':=by
 obtain⟨d,e,f⟩:=h.ne;obtain⟨a,b,c,i⟩:=h.lt;have:=N.n
 exact⟨(N.g _ a d).trans h.pk,(N.g _ b e).trans h.cl,h.dn.of_get (N.g _ c f),w,by omega,by omega,by omega,by omega⟩
theorem ee.of_get(h:ee g text D X P mN mT lv J)(S:O J<=O J')(H:∀b,b=P\/b=X.c\/b=X.mD\/b=mT->J'.get b=J.get b):ee g text D X P mN mT lv J':=by
 obtain⟨a,c,d,e⟩:=h.lt
 exact⟨(H _ (.inl rfl)).trans h.pk,(H _ (.inr (.inl rfl))).trans h.cl,h.dn.of_get (H _ (.inr (.inr (.inl rfl)))),h.rs.of_get (H _ (.inr (.inr (.inr rfl)))),by omega,by omega,by omega,by omega⟩
end
theorem Nu{f J a t s T r x y e U u d C}[DecidableEq d][KE d]{b m}{k:d}{o:Option C}(L:cq M.P t=some (s,U,T,e))(W:Ah M f x=some (.mp r))(K:eW s b J r m)(B:Ah M f y=some u)(X:D4 M.P s u=some (KE.k k))(c:m.get k=o):
  As M a (.lookup t x y true) f J (.tup [(o.map b).getD U,.bool o.isSome]) J:=by subst c;exact Arl L W K B X
theorem Vv{f a n m}(h:m<=n)(b:(List.range' a m).any f=true):(List.range' a n).any f=true:=Z
theorem Yz{f a n}:(List.range' a (n+1)).any f=((List.range' a n).any f||f (a+n)):=Z
structure oU (L:List Sp)(N mN:Nat)(lv:I)(J:F):Prop where
 num:∃M:GM Kk Nat,eW 232 nV J mN M/\∀s,M.get (sk s)=if s∈L then some (L.idxOf s)else none
 lst:aW J N c7 3 L lv
 lt:mN<N/\N<=O J
theorem oU.of_get{L N w b J U}(h:oU L N w b J)(S:O J<=O U)(K:U.get w=J.get w)(H:∀a,bm b=some a->U.get a=J.get a):oU L N w b U:=by
 obtain⟨⟨c,d,e⟩,f,g,i⟩:=h
 exact⟨⟨c,d.of_get K,e⟩,f.of_get S H,g,by omega⟩
structure GR (N P mN:Nat)(lv:I)(J:F)(lv':I)(J':F):Prop where
 n:O J<=O J'
 a:∀a,bm lv'=some a->bm lv=some a\/O J<=a
 g:∀b,b<O J->b≠P->b≠mN->bm lv≠some b->J'.get b=J.get b
theorem GR.refl{N P w b J}:GR N P w b J b J:=⟨Y,λa h=>.inl h,λ_ _ _ _ _=>rfl⟩
theorem V7{L}{s t:Sp}(j:s∉L):(if t∈L++[s]then some ((L++[s]).idxOf t)else none)=if t=s then some L.length else if t∈L then some (L.idxOf t)else none:=Z
end Go.AM

