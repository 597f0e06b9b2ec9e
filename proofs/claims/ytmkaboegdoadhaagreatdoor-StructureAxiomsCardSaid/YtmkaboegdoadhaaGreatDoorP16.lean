/- A part of the proof; shortened by program. -/
import Derived.Test.YtmkaboegdoadhaaGreatDoorP15
set_option maxRecDepth 100000
set_option maxHeartbeats 4000000
set_option linter.all false
namespace Go.AM
open Go Go.Proofs
def Qr(a:SM Bool):List Hp->Nat->Option Nat
 |[],n=>some n
 |h::r,n=>if h.floating=true then(if(!a.has (h.text.tail.headD []))=true then none else Qr a r (n+1))else Qr a r n
def AF(l:List Pr)(i:Nat)(p:Pr):Bool:=match i with
 |0=>false
 |j+1=>match l[j]? with|some q=>decide ((0:Int)<=nL q p)|none=>false
theorem U0{l i p q}(h:1<=i)(o:l[i-1]? =some q):AF l i p=decide ((0:Int)<=nL q p):=by
 cases i with
 |zero=>omega
 |succ j=>simp only[Nat.add_sub_cancel]at o;simp only[AF,o]
theorem Aup{l i p}(h:i=0):AF l i p=false:=by subst h;rfl
def Ya(k:Kn)(l:List Pr)(i:Nat)(p:Pr):Bool:=((!gQ p.a p.b|| !k.vars.has p.a)|| !k.vars.has p.b)||AF l i p
def Ov(k:Kn)(l:List Pr):List Pr->Nat->Bool
 |[],_=>false
 |p::r,i=>Ya k l i p||Ov k l r (i+1)
def Kv(k:Kn)(f:Fr):SM Bool:=xg k.vars (f.text::H8 f.hyps)
def Rv(a:SM Bool)(l:List Pr):List Pr:=Eo (λp=> !a.has p.a|| !a.has p.b) l
def Mt(k:Kn)(f:Fr):Int:=match Qr (Kv k f) f.hyps 0 with
 |none=>70
 |some n=>if(!decide (Int.ofNat n=Int.ofNat (Kv k f).length))=true then 70 else if Ov k f.wide f.wide 0=true then 70 else if(!decide (f.apart=Rv (Kv k f) f.wide))=true then 70 else 0
theorem Hj.new{J m k o}(i:bY J)(h:Hj J m k):Hj (J.new o) m k:=⟨h.c.new (h.c.lt i),h.v.new (h.v.lt i),h.f.new (h.f.lt i),h.h.new (h.h.lt i),h.t.new (h.t.lt i)⟩
theorem DP(m k f J)(hk:Hj J m k)(hb:f.hyps.length<1000000)(aa:∀t∈f.text::H8 f.hyps,t.length<1000000)(ac:f.wide.length<1000000)(ae:∀h∈f.hyps,h.floating=true->∃a b,h.text=[a,b]):Cv 217 [eJ m,.agg (eF f)] J (D (Mt k f)):=by
 refine Aj Tryz.func217 rfl rfl λK ak=>?_
 refine G6 ?_
 refine XX 1 (l:=[(248,[aD eH 3 f.hyps,Af f.text],J,aD eL 1 (f.text::H8 f.hyps),J),(247,[.mp (m+1),aD eL 1 (f.text::H8 f.hyps)],J,.mp (O J),(J.new (Sg k.vars (f.text::H8 f.hyps))))]) ⟨JH f.hyps f.text J hb,ye (m+1) k.vars (f.text::H8 f.hyps) J hk.v (by have:=JM (l:=f.hyps);simp;omega) aa,trivial⟩ ?_
 refine G9 ?_
 refine DT (Bq rfl rfl (Dw zD Bv)) ?_
 refine G2 ?_
 refine⟨(by intro e P;simp at P;subst P;exact .refl),?_⟩
 refine cG ?_;have C:Fi (J.new (Sg k.vars (f.text::H8 f.hyps))) (O J) (Kv k f):=B8.fresh;have o:Hj (J.new (Sg k.vars (f.text::H8 f.hyps))) m k:=hk.new K;refine G ?_;refine Ci (λq:Nat×I=>[(0,eJ m),(3,.pv (eF f)),(5,.mp (O J)),(6,q.2),(22,aD eH 3 f.hyps),(23,D (.ofNat f.hyps.length)),(24,D (.ofNat q.1))]) (λq W=>q.1<=f.hyps.length/\W=(J.new (Sg k.vars (f.text::H8 f.hyps)))/\∃n,q.2=D (.ofNat n)/\n<=q.1/\Qr (Kv k f) f.hyps 0=Qr (Kv k f) (f.hyps.drop q.1) n) (λq=>f.hyps.length-q.1) (0,D (.ofNat 0)) SL ⟨bU _,rfl,0,rfl,Y,rfl⟩ ?_
 rintro⟨E,v0⟩ W a8;obtain⟨ag,rfl,n,R,ai,x⟩:E<=f.hyps.length/\W=(J.new (Sg k.vars (f.text::H8 f.hyps)))/\∃n,v0=D (.ofNat n)/\n<=E/\Qr (Kv k f) f.hyps 0=Qr (Kv k f) (f.hyps.drop E) n:=a8;refine G5 ?_;refine Ab rfl ?_ ?_<;>intro h1
 ·have X:E<f.hyps.length:=Z;obtain⟨S,L⟩:=Ar X;have y:=A4 L;subst R
  iterate 14 refine G ?_
  refine Ab rfl ?_ ?_<;>intro T
  ·have u:S.floating=true:=T;obtain⟨ta,tb,aj⟩:=ae S (bA L) u;refine G6 ?_
   refine A (A1 aJ zF rfl rfl (by grind:S.text[1]? =some tb) (i:=1)) ?_
   refine G ?_;refine A (De bI Cr rfl C rfl) ?_;refine G2 ?_;refine Ab rfl ?_ ?_<;>intro h3
   ·refine G4 ?_
    have v:Mt k f=70:=by rw[Mt,x,y,Qr,if_pos u,if_pos Z]
    refine G ?_;exact⟨_,rfl,_,J,bL K (Below.rfl'.new Y _),Y,.same rfl,congrArg D v.symm,rfl⟩
   ·refine G3 ?_;refine A (D3 (p:=n) (q:=1) aV rfl rfl z) ?_;refine G6 ?_
    refine⟨(E+1,D (.ofNat (n+1))),Z,SL,X,rfl,n+1,rfl,by omega,by rw[x,y,Qr,if_pos u,if_neg Z]⟩
  ·have u:S.floating=false:=T;refine G5 ?_
   refine⟨(E+1,D (.ofNat n)),Z,SL,X,rfl,n,rfl,by omega,by rw[x,y,Qr,if_neg Z]⟩
 ·have bj:f.hyps.length<=E:=Z;subst R
  have U:Qr (Kv k f) f.hyps 0=some n:=by rw[x,cv bj];rfl
  refine G6 ?_;refine A (FR Cr rfl C) ?_;refine G2 ?_;refine Ab rfl ?_ ?_<;>intro T
  ·refine G4 ?_
   have v:Mt k f=70:=by rw[Mt,U];grind
   refine G ?_;exact⟨_,rfl,_,J,bL K (Below.rfl'.new Y _),Y,.same rfl,congrArg D v.symm,rfl⟩
  ·refine cD ?_;refine Bz f.wide.length (λr=>[(0,eJ m),(3,.pv (eF f)),(5,.mp (O J)),(45,aD eP 2 f.wide),(46,D (.ofNat f.wide.length)),(47,D (.ofNat r))]) (λr J2=>J2=(J.new (Sg k.vars (f.text::H8 f.hyps)))/\Ov k f.wide f.wide 0=Ov k f.wide (f.wide.drop r) r) SL ⟨rfl,rfl⟩ ?_
   rintro r J2 ah ⟨rfl,B⟩;refine G5 ?_;refine Ab rfl ?_ ?_<;>intro h3
   ·have bv:r<f.wide.length:=Z;obtain⟨s,a9⟩:=Ar bv;have N:=A4 a9;refine G8 ?_;refine Rn bG aG rfl rfl zF rfl zF rfl rfl rfl rfl rfl ?_
    refine G ?_;refine Gg [(91,.bool (Ya k f.wide r s))] ?_ ?_
    ·rcases fI (!gQ s.a s.b)with c|c
     ·refine XS (l:=[]) trivial ?_;refine G4 ?_;refine V (uX aV rfl rfl) ?_;refine G ?_;refine Wx (w:=R1 c) (Wx (w:=R1 c) (Wx (w:=R1 c) (Wx (w:=R1 c) (Wx (w:=R1 c) (Wx (w:=R1 c) (Wx (w:=R1 c) (Wx (w:=R1 c) ?_)))))));refine V (A3 rfl (R1 c) rfl) (V Oq (Wx (w:=R1 c) (Wx (w:=R1 c) (Wx (w:=R1 c) (Wx (w:=R1 c) (Wx (w:=R1 c) (Wx (w:=R1 c) ?_)))))));refine Wx (w:=R1 c) (Wx (w:=R1 c) (V (A3 rfl (R1 c) rfl) (V Oq (Wx (w:=R1 c) (Wx (w:=R1 c) (Wx (w:=R1 c) (Du ?_)))))));refine Du (Du (Du (Du (Du (Du (Zy (e:=true) rfl rfl rfl rfl rfl rfl (Du ?_)))))));refine Wx (w:=R1 c) (V (A3 rfl (R1 c) rfl) (C1 ?_))
      exact⟨⟨congrArg (λb=>some (I.bool b)) (by unfold Ya;rw[c];rfl),trivial⟩,sb,rfl⟩
     ·rcases fI (!k.vars.has s.a)with d|d
      ·refine XS (l:=[]) trivial ?_;refine V Oq (V Oq (V Oq (V Oq (V (uX aV rfl rfl) (V Oq (Wn (w:=R2 d c) Oq (Wn (w:=R2 d c) Oq ?_)))))));refine Wn (w:=R2 d c) Oq (Wn (w:=R2 d c) Oq (Wn (w:=R2 d c) Oq (Wn (w:=R2 d c) Oq (Wn (w:=R2 d c) (De bI Cr rfl o.v rfl) (Wn (w:=R2 d c) Oq (V (Au rfl (R2 d c) rfl) (V Oq ?_)))))));refine Wx (w:=R2 d c) (Wx (w:=R2 d c) (Wx (w:=R2 d c) (Wx (w:=R2 d c) (Wx (w:=R2 d c) (Wx (w:=R2 d c) (Wx (w:=R2 d c) (Wx (w:=R2 d c) ?_)))))));refine V (A3 rfl (R2 d c) rfl) (V Oq (Wx (w:=R2 d c) (Wx (w:=R2 d c) (Wx (w:=R2 d c) (Du (Du (Du ?_)))))));refine Du (Du (Du (Du (Zy (e:=true) rfl rfl rfl rfl rfl rfl (Du (Wx (w:=R2 d c) (V (A3 rfl (R2 d c) rfl) ?_)))))));refine C1 ?_
       exact⟨⟨congrArg (λb=>some (I.bool b)) (by unfold Ya;grind),trivial⟩,sb,rfl⟩
      ·rcases fI (!k.vars.has s.b)with g|g
       ·refine XS (l:=[]) trivial ?_;refine V Oq (V Oq (V Oq (V Oq (V (uX aV rfl rfl) (V Oq (Wn (w:=R3 g d c) Oq (Wn (w:=R3 g d c) Oq ?_)))))));refine Wn (w:=R3 g d c) Oq (Wn (w:=R3 g d c) Oq (Wn (w:=R3 g d c) Oq (Wn (w:=R3 g d c) Oq (Wn (w:=R3 g d c) (De bI Cr rfl o.v rfl) (Wn (w:=R3 g d c) Oq (V (Au rfl (R3 g d c) rfl) (V Oq ?_)))))));refine Wn (w:=R3 g d c) Oq (Wn (w:=R3 g d c) Oq (Wn (w:=R3 g d c) Oq (Wn (w:=R3 g d c) Oq (Wn (w:=R3 g d c) Oq (Wn (w:=R3 g d c) Oq (Wn (w:=R3 g d c) (De bI Cr rfl o.v rfl) (Wn (w:=R3 g d c) Oq ?_)))))));refine V (Au rfl (R3 g d c) rfl) (V Oq (Wx (w:=R3 g d c) (Wx (w:=R3 g d c) (Wx (w:=R3 g d c) (Du (Du (Du ?_)))))));refine Du (Du (Du (Du (Zy (e:=true) rfl rfl rfl rfl rfl rfl (Du (Wx (w:=R3 g d c) (V (A3 rfl (R3 g d c) rfl) ?_)))))));refine C1 ?_
        exact⟨⟨congrArg (λb=>some (I.bool b)) (by unfold Ya;grind),trivial⟩,sb,rfl⟩
       ·rcases fI (decide ((0:Int)<Int.ofNat r))with j|j
        ·have a7:0<r:=Z
         obtain⟨pq,Q⟩:=Ar (show r-1<f.wide.length by omega)
         refine XS (l:=[(249,[.agg (eP pq),.agg (eP s)],(J.new (Sg k.vars (f.text::H8 f.hyps))),D (nL pq s),(J.new (Sg k.vars (f.text::H8 f.hyps))))]) ⟨DV pq s _,trivial⟩ ?_;refine V Oq (V Oq (V Oq (V Oq (V (uX aV rfl rfl) (V Oq (Wn (w:=R4 j g d c) Oq (Wn (w:=R4 j g d c) Oq ?_)))))));refine Wn (w:=R4 j g d c) Oq (Wn (w:=R4 j g d c) Oq (Wn (w:=R4 j g d c) Oq (Wn (w:=R4 j g d c) Oq (Wn (w:=R4 j g d c) (De bI Cr rfl o.v rfl) (Wn (w:=R4 j g d c) Oq (V (Au rfl (R4 j g d c) rfl) (V Oq ?_)))))));refine Wn (w:=R4 j g d c) Oq (Wn (w:=R4 j g d c) Oq (Wn (w:=R4 j g d c) Oq (Wn (w:=R4 j g d c) Oq (Wn (w:=R4 j g d c) Oq (Wn (w:=R4 j g d c) Oq (Wn (w:=R4 j g d c) (De bI Cr rfl o.v rfl) (Wn (w:=R4 j g d c) Oq ?_)))))));refine V (Au rfl (R4 j g d c) rfl) (V Oq (Wn (w:=R4 j g d c) Oq (Wn (w:=R4 j g d c) (Wv (q:=0) aV rfl rfl) (Wn (w:=R4 j g d c) Oq (Wn (w:=R4 j g d c) Oq (Wn (w:=R4 j g d c) Oq (Wn (w:=R4 j g d c) Oq ?_)))))));refine Wn (w:=R4 j g d c) (W2 (p:=r) (q:=1) aV rfl rfl z z) ?_;refine Wn (w:=R4 j g d c) Oq ?_
         refine Wn (w:=R4 j g d c) Oq (Wn (w:=R4 j g d c) Oq (Qi (e:=true) rfl rfl rfl rfl (R4 j g d c) rfl rfl Oq (Wn (w:=R4 j g d c) (IH (q:=0) aV rfl rfl) (Wn (w:=R4 j g d c) (A3 rfl (R4 j g d c) rfl) (V (Au rfl (R4 j g d c) rfl) (C1 ?_))))))
         exact⟨⟨congrArg (λb=>some (I.bool b)) (by unfold Ya;rw[c,d,g,U0 a7 Q];rfl),trivial⟩,sb,rfl⟩
        ·refine XS (l:=[]) trivial ?_;refine V Oq (V Oq (V Oq (V Oq (V (uX aV rfl rfl) (V Oq (Wn (w:=R4 j g d c) Oq (Wn (w:=R4 j g d c) Oq ?_)))))));refine Wn (w:=R4 j g d c) Oq (Wn (w:=R4 j g d c) Oq (Wn (w:=R4 j g d c) Oq (Wn (w:=R4 j g d c) Oq (Wn (w:=R4 j g d c) (De bI Cr rfl o.v rfl) (Wn (w:=R4 j g d c) Oq (V (Au rfl (R4 j g d c) rfl) (V Oq ?_)))))));refine Wn (w:=R4 j g d c) Oq (Wn (w:=R4 j g d c) Oq (Wn (w:=R4 j g d c) Oq (Wn (w:=R4 j g d c) Oq (Wn (w:=R4 j g d c) Oq (Wn (w:=R4 j g d c) Oq (Wn (w:=R4 j g d c) (De bI Cr rfl o.v rfl) (Wn (w:=R4 j g d c) Oq ?_)))))));refine V (Au rfl (R4 j g d c) rfl) (V Oq (Wn (w:=R4 j g d c) Oq (Wn (w:=R4 j g d c) (Wv (q:=0) aV rfl rfl) (Wn (w:=R4 j g d c) Oq (Wx (w:=R4 j g d c) (Wx (w:=R4 j g d c) (Wx (w:=R4 j g d c) ?_)))))));refine Wx (w:=R4 j g d c) (Wx (w:=R4 j g d c) (Wx (w:=R4 j g d c) (Wx (w:=R4 j g d c) (Ta (e:=true) rfl rfl rfl rfl (R4 j g d c) rfl rfl (Wx (w:=R4 j g d c) (Wn (w:=R4 j g d c) (Au rfl (R4 j g d c) rfl) (V (Au rfl (R4 j g d c) rfl) ?_)))))));refine C1 ?_
         exact⟨⟨congrArg (λb=>some (I.bool b)) (by unfold Ya;rw[c,d,g,Aup Z];rfl),trivial⟩,sb,rfl⟩
    refine Ab rfl ?_ ?_<;>intro h4
    ·refine G4 ?_
     have v:Mt k f=70:=by rw[Mt,U];exact(zJ T).trans (if_pos (by rw[B,N,Ov,h4];rfl))
     refine G ?_;exact⟨_,rfl,_,J,bL K (Below.rfl'.new Y _),Y,.same rfl,congrArg D v.symm,rfl⟩
    ·have af:Ya k f.wide r s=false:=h4;refine G5 ?_
     refine⟨bv,SL,rfl,by rw[B,N,Ov,af];rfl⟩
   ·have ba:f.wide.length<=r:=Z
    have al:Ov k f.wide f.wide 0=false:=by rw[B,cv ba];rfl
    refine G3 ?_
    refine XX 1 (l:=[(251,[.mp (O J),aD eP 2 f.wide],(J.new (Sg k.vars (f.text::H8 f.hyps))),aD eP 2 (Rv (Kv k f) f.wide),(J.new (Sg k.vars (f.text::H8 f.hyps)))),(250,[aD eP 2 f.apart,aD eP 2 (Rv (Kv k f) f.wide)],(J.new (Sg k.vars (f.text::H8 f.hyps))),.bool (decide (f.apart=Rv (Kv k f) f.wide)),(J.new (Sg k.vars (f.text::H8 f.hyps))))]) ⟨CS (O J) (Kv k f) f.wide (J.new (Sg k.vars (f.text::H8 f.hyps))) C ac,BJ f.apart (Rv (Kv k f) f.wide) (J.new (Sg k.vars (f.text::H8 f.hyps))) (by have:=H0 (p:=λp:Pr=> !(Kv k f).has p.a|| !(Kv k f).has p.b) (l:=f.wide);unfold Rv;omega),trivial⟩ ?_
    refine G9 ?_
    refine⟨(by intro e P;simp at P;subst P;exact .refl),?_⟩
    refine Ab rfl ?_ ?_<;>intro h4
    ·refine G4 ?_
     have v:Mt k f=70:=by rw[Mt,U];grind
     refine G ?_;exact⟨_,rfl,_,J,bL K (Below.rfl'.new Y _),Y,.same rfl,congrArg D v.symm,rfl⟩
    ·refine G5 ?_
     have v:Mt k f=0:=by rw[Mt,U];grind
     refine G ?_;exact⟨_,rfl,_,J,bL K (Below.rfl'.new Y _),Y,.same rfl,congrArg D v.symm,rfl⟩
theorem oK(k:Nat)(J):Cv 290 [.fn (.func k) [] []] J (.fn (.func 291) [] [.pv [.fn (.func k) [] []]]):=by
 refine Aj Tryz.func290 rfl rfl λb a=>?_
 refine fJ ?_;refine B4 b rfl ?_;exact rfl
theorem lJ(k s b J)(X:Cv k [sV s] J (.bool b)):Cv 291 [sV s,.pv [.fn (.func k) [] []]] J (.bool (!b)):=by
 refine Aj Tryz.func291 rfl rfl λc a=>?_
 refine G8 ?_;refine Ca X ?_;refine G4 ?_;refine B4 c rfl ?_;exact rfl
structure PT where
 kind:Int
 label:aH
 text:List aH
 proof:List aH
def qP(s:PT):List I:=[D s.kind,sV s.label,Af s.text,Af s.proof]
theorem CG(p l k y J)(Q:l.length<1000000)(X:∀a∈l,Al M k ([.agg (qP a)]++y) J λv m=>v=.bool (p a)/\m=J):Cv 289 [aD qP 4 l,.fn (.func k) [] y] J (D (A5 p l 0)):=by
 refine Aj Tryz.func289 rfl rfl λj r=>?_
 refine cG ?_;refine Bz l.length (λc=>[(0,aD qP 4 l),(1,.fn (.func k) [] y),(7,D (.ofNat l.length)),(8,D (.ofNat c))]) (λc f=>f=J/\A5 p l 0=A5 p (l.drop c) c) SL ⟨rfl,rfl⟩ ?_
 rintro c f q ⟨rfl,b⟩;refine G5 ?_;refine Ab rfl ?_ ?_<;>intro h
 ·have g:c<l.length:=by simpa using h
  obtain⟨n,d⟩:=Ar g;have e:=A4 d
  iterate 15 refine G ?_
  refine Ca (X n (bA d)) ?_;refine G ?_;refine Ab rfl ?_ ?_<;>intro i
  ·refine G6 ?_;refine B4 j rfl ?_
   exact(by rw[b,e];simp only[A5,i,cond_true];rfl)
  ·refine G5 ?_
   refine⟨g,SL,rfl,by rw[b,e];simp only[A5,i,cond_false]⟩
 ·have o:l.length<=c:=by simpa using h
  refine G6 ?_;refine B4 j rfl ?_
  exact(by rw[b,cv o];rfl)
theorem Ip(p l k y J)(Q:l.length<1000000)(X:∀a∈l,Al M k ([.agg (qP a)]++y) J λv b=>v=.bool (p a)/\b=J):Cv 275 [aD qP 4 l,.fn (.func k) [] y] J (.bool (l.any p)):=by
 refine Aj Tryz.func275 rfl rfl λd c=>?_
 refine G8 ?_;refine Ca (CG p l k y J Q X) ?_;refine G4 ?_;refine B4 d rfl ?_;exact congrArg I.bool (Gf l)
theorem H':Mq [2] [120]=true:=Kr
theorem xR:Mq [2,3] [120]=true:=Kr
theorem Nq{f d a x s b t v r}{o:Option (I×F)}(h:x≠a)(k:Dk r (.fn d) x t=o):Dk ((f,a,s,v,b)::r) (.fn d) x t=o:=by
 simp only[Dk];grind
def IZ(s:aH):List I:=[D 7,sV [120],Af [[120]],Af [s]]
theorem CO(s b J)(h:Cv 292 [sV s] J (.bool b)):Cv 277 [.agg (IZ s)] J (.bool b):=by
 refine Aj Tryz.func277 rfl rfl λk j=>?_
 refine cG ?_;refine cJ 3 ?_ (λH=>?_) ?_
 rotate_left
 ·iterate 3 refine Gn H ?_
  exact Ez
 refine G ?_;refine Ab rfl ?_ ?_<;>intro m
 ·grind
 ·refine G5 ?_
  refine A (Bp KN rfl rfl zD (n:=7) rfl) ?_
  refine G9 ?_;refine Hq 4 _ ?_ rfl rfl rfl rfl rfl (Eh rfl) (λH=>?_) (λH=>?_) ?_
  rotate_left
  ·iterate 2 refine Gn H ?_
   refine Bh rfl rfl rfl (by rw[H];rfl) rfl rfl rfl rfl (qO [120] _) ?_
   refine Gn H ?_;refine G ?_;refine⟨rfl,?_,?_⟩
   ·exact sb
   ·exact rfl
  ·grind
  refine G ?_;refine cJ 8 ?_ (λH=>?_) ?_
  rotate_left
  ·iterate 4 refine Gn H ?_
   refine Hq 3 _ ?_ rfl rfl rfl rfl rfl (Ft rfl rfl rfl rfl (by rw[H];rfl)) (λH=>?_) (λH=>?_) ?_
   rotate_left
   ·iterate 2 refine Gn H ?_
    refine On H (Ko (q:=[]) aV rfl rfl) ?_;refine G ?_;refine⟨rfl,?_,?_⟩
    ·exact sb
    ·exact rfl
   ·iterate 3 refine Gn H ?_
    refine G ?_;exact⟨rfl,sb⟩
   exact Ez
  refine G ?_;refine cJ 6 ?_ (λH=>?_) ?_
  rotate_left
  ·iterate 6 refine Gn H ?_
   exact Ez
  refine G ?_;refine cJ 6 ?_ (λH=>?_) ?_
  rotate_left
  ·iterate 6 refine Gn H ?_
   exact Ez
  refine G ?_;refine Ab rfl ?_ ?_<;>intro i
  ·exact absurd i (by rw[H'];decide)
  ·refine G5 ?_;refine US [(2,.bool b)] J ?_ ?_
   ·rcases fI (true)with c|c
    ·rcases fI (b)with d|d
     ·rcases fI (true)with f|f
      ·refine XI (l:=[(290,[.fn (.func 211) [] []],J,.fn (.func 291) [] [.pv [.fn (.func 211) [] []]],J),(46,[Af [[120]],.fn (.func 291) [] [.pv [.fn (.func 211) [] []]]],J,.bool false,J),(290,[.fn (.func 292) [] []],J,.fn (.func 291) [] [.pv [.fn (.func 292) [] []]],J),(46,[Af [s],.fn (.func 291) [] [.pv [.fn (.func 292) [] []]]],J,.bool (!b),J)]) ⟨oK 211 J,(by have:=pJ (λw=> !Mq [2,3] w) [[120]] 291 [.pv [.fn (.func 211) [] []]] J zS (λa _=>lJ 211 a _ J (mU a J));simpa[xR]using this),oK 292 J,(by have:=pJ (λ_=> !b) [s] 291 [.pv [.fn (.func 292) [] []]] J zS (λa g=>by simp at g;subst g;exact lJ 292 a b J h);grind),trivial⟩ ?_
       refine G4 ?_
       refine DT (Bq rfl rfl (Dw zD Bv)) ?_
       refine G5 ?_
       refine Qi (e:=true) rfl rfl rfl rfl (R3 f d c) rfl rfl (Bq rfl rfl (Nq Z (Dw zD Bv))) ?_
       refine Qi (e:=true) rfl rfl rfl rfl (R3 f d c) rfl rfl (Bq rfl rfl (Dw zD (Nq Z (Dw zD Bv)))) ?_
       iterate 15 refine G ?_
       exact⟨rfl,by simp,⟨⟨congrArg (λb=>some (I.bool b)) Z,trivial⟩,rfl⟩⟩
      ·refine XI (l:=[(290,[.fn (.func 211) [] []],J,.fn (.func 291) [] [.pv [.fn (.func 211) [] []]],J),(46,[Af [[120]],.fn (.func 291) [] [.pv [.fn (.func 211) [] []]]],J,.bool false,J),(290,[.fn (.func 292) [] []],J,.fn (.func 291) [] [.pv [.fn (.func 292) [] []]],J),(46,[Af [s],.fn (.func 291) [] [.pv [.fn (.func 292) [] []]]],J,.bool (!b),J)]) ⟨oK 211 J,Z,oK 292 J,Z,trivial⟩ ?_;refine G4 ?_
       refine DT (Bq rfl rfl (Dw zD Bv)) ?_
       refine V (Dc rfl) (V (Ag rfl) (Wn (w:=R3 f d c) (Ae cP rfl rfl) (Wn (w:=R3 f d c) (Ac aG rfl rfl rfl) (Wn (w:=R3 f d c) (Ag rfl) (Qi (e:=true) rfl rfl rfl rfl (R3 f d c) rfl rfl (Bq rfl rfl (Nq Z (Dw zD Bv))) ?_)))))
       refine Qi (e:=true) rfl rfl rfl rfl (R3 f d c) rfl rfl (Bq rfl rfl (Dw zD (Nq Z (Dw zD Bv)))) ?_
       refine Wn (w:=R3 f d c) (Dc rfl) ?_;refine G2 ?_;refine Wn (w:=R3 f d c) (Ae cP rfl rfl) (Wn (w:=R3 f d c) (Ac aG rfl rfl rfl) (Wn (w:=R3 f d c) (H4 (q:=7) aV rfl rfl) (Wn (w:=R3 f d c) (Ag rfl) (Wn (w:=R3 f d c) (Ae cP rfl rfl) (Wn (w:=R3 f d c) (Ac aG rfl rfl rfl) (Wn (w:=R3 f d c) (Jl bF rfl) (Wn (w:=R3 f d c) (H4 (q:=0) aV rfl rfl) ?_)))))));refine Wn (w:=R3 f d c) (Au rfl (R3 f d c) rfl) ?_;refine G3 ?_
       grind
     ·refine XI (l:=[(290,[.fn (.func 211) [] []],J,.fn (.func 291) [] [.pv [.fn (.func 211) [] []]],J),(46,[Af [[120]],.fn (.func 291) [] [.pv [.fn (.func 211) [] []]]],J,.bool false,J),(290,[.fn (.func 292) [] []],J,.fn (.func 291) [] [.pv [.fn (.func 292) [] []]],J),(46,[Af [s],.fn (.func 291) [] [.pv [.fn (.func 292) [] []]]],J,.bool (!b),J)]) ⟨oK 211 J,(by have:=pJ (λw=> !Mq [2,3] w) [[120]] 291 [.pv [.fn (.func 211) [] []]] J zS (λa _=>lJ 211 a _ J (mU a J));simpa[xR]using this),oK 292 J,(by have:=pJ (λ_=> !b) [s] 291 [.pv [.fn (.func 292) [] []]] J zS (λa g=>by simp at g;subst g;exact lJ 292 a b J h);grind),trivial⟩ ?_
      refine G4 ?_
      refine DT (Bq rfl rfl (Dw zD Bv)) ?_
      refine G5 ?_
      refine Qi (e:=true) rfl rfl rfl rfl (R2 d c) rfl rfl (Bq rfl rfl (Nq Z (Dw zD Bv))) ?_
      refine Qi (e:=true) rfl rfl rfl rfl (R2 d c) rfl rfl (Bq rfl rfl (Dw zD (Nq Z (Dw zD Bv)))) ?_
      refine Wn (w:=R2 d c) (Dc rfl) (V (A3 rfl (R2 d c) rfl) (V (Ag rfl) (Wx (w:=R2 d c) (Wx (w:=R2 d c) (Wx (w:=R2 d c) (Wx (w:=R2 d c) (Du ?_)))))));refine Du (Du (Du (Wx (w:=R2 d c) (V (Au rfl (R2 d c) rfl) (V (Gd rfl) (C1 ?_))))))
      exact⟨rfl,by simp,⟨⟨congrArg (λb=>some (I.bool b)) Z,trivial⟩,rfl⟩⟩
    ·refine XI (l:=[(290,[.fn (.func 211) [] []],J,.fn (.func 291) [] [.pv [.fn (.func 211) [] []]],J),(46,[Af [[120]],.fn (.func 291) [] [.pv [.fn (.func 211) [] []]]],J,.bool false,J),(290,[.fn (.func 292) [] []],J,.fn (.func 291) [] [.pv [.fn (.func 292) [] []]],J),(46,[Af [s],.fn (.func 291) [] [.pv [.fn (.func 292) [] []]]],J,.bool (!b),J)]) ⟨oK 211 J,Z,oK 292 J,Z,trivial⟩ ?_;refine G4 ?_
     refine DT (Bq rfl rfl (Dw zD Bv)) ?_
     refine G5 ?_;refine Ta (e:=true) rfl rfl rfl rfl (R1 c) rfl rfl (Ta (e:=true) rfl rfl rfl rfl (R1 c) rfl rfl (Wx (w:=R1 c) (V (Au rfl (R1 c) rfl) (V (Ag rfl) (Wx (w:=R1 c) (Wx (w:=R1 c) (Wx (w:=R1 c) ?_)))))));refine Wx (w:=R1 c) ?_;refine G4 ?_;refine Wx (w:=R1 c) (V (Au rfl (R1 c) rfl) (V (Gd rfl) (C1 ?_)))
     grind
   refine G ?_;refine B4 k rfl ?_;exact rfl
theorem In(s b J)(a:Cv 292 [sV s] J (.bool b)):Cv 276 [.agg (IZ s)] J (.bool (!b)):=by
 refine Aj Tryz.func276 rfl rfl λd c=>?_
 refine G8 ?_;refine Ca (CO s b J a) ?_;refine G4 ?_;refine B4 d rfl ?_;exact rfl
theorem Apd{N}:∀m:SM aH,Jc N (Cn sV m)=true:=λm=>QR zF m
theorem IX(a b g E N J)(B:J.get a=some (.map 9 (Cn sV E) g))(Q:B8 sV J b N)(j:a≠b)(T:SM.Srt E)(U:SM.Srt N):
  Al M 222 [.mp a,.mp b] J λv W=>v=An/\W=J.set a (.map 9 (Cn sV (SM.over N E)) (g+N.length)):=by
 refine Aj Tryz.func222 rfl rfl λL a8=>?_
 refine vb λhi=>?_
 obtain⟨P,Q⟩:=Q;have a7:a<O J:=(L _ _ B).1;have n:b<O J:=(L _ _ Q).1;refine G3 ?_;refine A (JZ sU rfl Q) ?_;refine G2 ?_;refine Ci (λq:SM aH×SM aH=>[(0,.mp a),(7,.it (O J))])
  (λq d=>(∃h,d.get (O J)=some (.iter (some b) P (Cn sV q.1) h))/\d.get a=some (.map 9 (Cn sV q.2) (g+(N.length-q.1.length)))/\q.1.length<=N.length/\O J<=O d/\(∀c,c<O J->c≠a->d.get c=J.get c)/\SM.Srt q.2/\SM.Key1 q.1/\(q.1=N->q.2=E)/\∀s,(q.1.get s).or (q.2.get s)=(N.get s).or (E.get s))
  (λq=>q.1.length) (N,E) SL
  ⟨⟨none,by rw[a5,if_pos rfl]⟩,by rw[a5,if_neg z,B,Nat.sub_self];rfl,Y,by rw[Ao];omega,λc r _=>by rw[a5,if_neg z],T,U.key1,λ_=>rfl,λ_=>rfl⟩ ?_
 rintro⟨left,o⟩ d ⟨⟨h,k⟩,w,K,R,t,f,m,C,H⟩;simp only at k w K f m C H;refine G ?_
 refine KQ rfl rfl rfl k (by show(match d.get b with|some (.map _ _ v)=>Nat.beq v P|_=>false)=true;rw[t b n (mq j),Q];exact cb _) (λX=>?_) (λp hp=>?_)
 ·have u:left=[]:=by cases left with
   |nil=>rfl
   |cons x l=>cases X
  subst u;refine G3 ?_
  refine Ab rfl (λi=>by cases i) (λi=>?_)
  refine G ?_
  have hO:o=SM.over N E:=f.ext (SM.Srt.over T) λs=>by rw[SM.get_over U.key1,<-H s];simp[SM.get]
  subst hO
  refine⟨_,rfl,An,J.set a (.map 9 (Cn sV (SM.over N E)) (g+N.length)),Ds.setMap L hi B (Apd _) ?_ (by rw[Aq];exact R) (λc r e=>?_) ?_,by rw[Aq];exact Y,.same rfl,rfl,rfl⟩
  ·cases N with
   |nil=>exact .inr ⟨rfl,rfl⟩
   |cons x l=>exact .inl (by simp only[cZ];omega)
  ·rw[aU,if_neg z];exact t c r e
  ·rw[aU,if_neg z,w];simp
 ·obtain⟨q,S,rfl⟩:=Tc hp;obtain⟨q1,q2,q3⟩:=Abs m S;obtain⟨_,_,q4⟩:=Rp S
  have y:(d.set (O J) (.iter (some b) P (Cn sV q.2) (some (kS q.1.1,sV q.1.2)))).get a=some (.map 9 (Cn sV o) (g+(N.length-left.length))):=by rw[aU,if_neg z];exact w
  refine G3 ?_
  refine Ab rfl (λi=>?_) (λi=>by cases i)
  refine G4 ?_
  refine A (PC rfl (by rw[aU,if_pos rfl]) (by rw[aU,if_neg z,t b n (mq j)];exact Q)) ?_
  refine G9 ?_;refine A (Gh (v:=q.1.2) bI sU rfl y rfl rfl (λte k1 k2=>I1 k1 k2)) ?_
  refine G ?_
  refine⟨(q.2,o.put q.1.1 q.1.2),by show q.2.length<left.length;omega,SL,⟨_,by rw[aU,if_neg z,aU,if_pos rfl]⟩,?_,by show q.2.length<=N.length;omega,by rw[Aq,Aq];exact R,λc r e=>?_,f.put,q1,λhh=>?_,λs=>?_⟩
  ·rw[aU,if_pos rfl]
   show some _=some (AO.map 9 _ (g+(N.length-q.2.length)))
   congr 2;omega
  ·rw[aU,if_neg z,aU,if_neg z];exact t c r e
  ·have:q.2.length=N.length:=congrArg List.length hh;omega
  ·show(SM.get q.2 s).or ((o.put q.1.1 q.1.2).get s)=_
   rw[<-H s,q3 s,dP]
   by_cases f:s=q.1.1
   ·subst f;simp[q2]
   ·simp[f]
def Kn.fr(k:Kn)(s:aH):Kn:={ k with frames:=k.frames.put s true }
def Jd(k:Kn)(n:Nat):List Hp->Nat->SM Bool->SM aH->Int×SM aH
 |[],_,_,b=>(0,b)
 |h::r,i,a,b=>if(!decide (Vg k a b h (decide (Int.ofNat n<=Int.ofNat i))=0))=true then(Vg k a b h (decide (Int.ofNat n<=Int.ofNat i)),b)
  else Jd k n r (i+1) (a.put h.label true) (if h.floating=true then b.put (h.text.tail.headD []) (h.text.headD [])else b)
def Hk(a:aH->Bool)(f:Fr):Bool:=decide ((0:Int)<Int.ofNat f.proof.length)&&((!f.thm||decide ((8000:Int)<Int.ofNat f.proof.length))||f.proof.any (λs=> !a s))
def Fr.all(f:Fr):List Hp:=[f.hyps,f.dummies].flatten
def Kn.hyps'(k:Kn)(l:List Hp):Kn:={ k with hyps:=l.foldl (λm h=>m.put h.label h) k.hyps }
def pE(f:Fr):List Hp:=Eo (λh=>h.floating) f.hyps
def yB(f:Fr)(a:List Hp):List Hp:=(pE f).drop (H1 a (pE f))
def tH(k:Kn)(f:Fr):Kn:={ (k.fr f.label).hyps' f.all with types:=SM.over (Jd (k.fr f.label) f.hyps.length f.all 0 [] []).2 k.types }
def E9(b:aH->Bool)(k:Kn)(f:Fr)(a:List Hp):Int:=
 if(!Mq [2] f.label)=true then 2
 else if(((k.hyps.get f.label).isSome||k.isSym f.label)||k.frames.has f.label)=true then 6
 else if(decide ((40:Int)<Int.ofNat f.hyps.length)||decide ((40:Int)<Int.ofNat f.dummies.length))=true then 4
 else if(!decide ((Jd (k.fr f.label) f.hyps.length f.all 0 [] []).1=0))=true then(Jd (k.fr f.label) f.hyps.length f.all 0 [] []).1
 else if(!decide ((k.fr f.label).textF f.text=0))=true then(k.fr f.label).textF f.text
 else if(!decide (Mt (k.fr f.label) f=0))=true then Mt (k.fr f.label) f
 else if Hk b f=true then 2
 else if((yB f a).any λh=>((k.fr f.label).hyps.get h.label).isSome)=true then 7 else 0
structure qZ (f:Fr):Prop where
 h:f.hyps.length<1000000
 a:f.all.length<1000000
 t:f.text.length<1000000
 x:∀h∈f.all,h.text.length<1000000
 w:f.wide.length<1000000
 p:f.proof.length<1000000
def zt(m:Nat)(J q:F):Prop:=O J<=O q/\∀b,b<O J->(b<m\/m+5<=b)->q.get b=J.get b
theorem fN{J n o}(h:O J=n):O (J.new o)=n+1:=Z
theorem Cd{f J a t n s T e U}(L:cq M.P t=some (s,U,T,e))(S:O J=n):As M a (.makeMap t none) f J (.mp n) (J.new (.map s [] 0)):=by subst S;exact Gx L
theorem Hj.fr{J q m k s ver}(X:Hj J m k)(i:bY J)(N:q.get (m+2)=some (.map 9 (Cn bV (k.frames.put s true)) ver))(H:∀b,b<O J->b≠m+2->q.get b=J.get b):Hj q m (k.fr s):=
 ⟨X.c.of_get (H _ (X.c.lt i) z),X.v.of_get (H _ (X.v.lt i) z),⟨ver,N⟩,X.h.of_get (H _ (X.h.lt i) z),X.t.of_get (H _ (X.t.lt i) z)⟩
theorem Hj.hi{J m a k b}(X:Hj J m k)(h:m+5<=a):Hj (J.set a b) m k:=⟨X.c.set z,X.v.set z,X.f.set z,X.h.set z,X.t.set z⟩
theorem Hj.hp{J m a k h}(X:Hj J m k):Hj (J.set (m+3) (.map 9 (Cn hV (k.hyps.put h.label h)) a)) m { k with hyps:=k.hyps.put h.label h }:=
 ⟨X.c.set z,X.v.set z,X.f.set z,iH,X.t.set z⟩
theorem Hj.ty{J m a k ty}(X:Hj J m k):Hj (J.set (m+4) (.map 9 (Cn sV ty) a)) m { k with types:=ty }:=
 ⟨X.c.set z,X.v.set z,X.f.set z,X.h.set z,iH⟩
structure tE (J J0:F)(m:Nat)(k:Kn)(lab:SM Bool)(ty:SM aH):Prop where
 n:O J0=O J+2
 g:∀b,b<O J->b≠m+2->J0.get b=J.get b
 k:Hj J0 m k
 l:Fi J0 (O J) lab
 t:B8 sV J0 (O J+1) ty
 s:SM.Srt ty
theorem tE.up{J a m k U l}(h:tE J a m k U l):zt m J a:=⟨by rw[h.n];omega,λb c d=>h.g b c z⟩
theorem KX{k U l h P}(c:Vg k U l h P=0)(N:h.floating=true):∃a b,h.text=[a,b]:=by
 have d:h.text.length=2:=by
  unfold Vg at c
  split at c
  ·cases c
  ·rename_i e
   simp[IY,N]at e
   omega
 match h.text,d with
 |[a,b],_=>exact⟨a,b,rfl⟩
theorem Alj(k:Kn)(l h):k.hyps' (l++[h])={ k.hyps' l with hyps:=(k.hyps' l).hyps.put h.label h }:=by
 unfold Kn.hyps';grind
theorem qZ.ess{f}(h:qZ f):∀t∈f.text::H8 f.hyps,t.length<1000000:=λt a=>by
 rcases bN.1 a with rfl|a
 ·exact h.t
 ·obtain⟨x,b,rfl⟩:=dO.1 a
  exact h.x x (List.mem_flatten.2 ⟨f.hyps,by simp,(gS.1 b).1⟩)
theorem Df{e:Int}(h:(!decide (e=0))=false):e=0:=Z
theorem XA{f J Rr x lo hi mx a n}(W:Ah M f x=some (aD eH 3 a))(u:Iz M f lo=some (some (D (.ofNat n))))(r:Iz M f hi=some (some (D (.ofNat a.length))))(b:Iz M f mx=some (some (D (.ofNat a.length))))(S:n<=a.length):
  As M Rr (.slice 47 x lo hi mx) f J (.sv ((a.drop n).flatMap eH) 3 (a.drop n).length (some (a.length-n))) J:=by
 have c:Do a.length none (some (D (.ofNat n))) (some (D (.ofNat a.length))) (some (D (.ofNat a.length)))=some (n,a.length,some (a.length-n)):=by
  have r:Nat.ble n a.length=true:=dS S;have b:Nat.ble a.length a.length=true:=dS Y;simp only[Do,D,My,r,Li,b,cond_true,dR]
 have:=yP (Rr:=Rr) (J:=J) (lo:=lo) (hi:=hi) (mx:=mx) (aJ (t:=47)) Qq W u r b c S Y
 grind
theorem EN(N)(ao:∀s J,Cv 218 [sV s] J (.bool (!N s)))(m k f c J)(hk:Hj J m k)(ah:SM.Srt k.types)(x:qZ f)(am:c.length<1000000):Al M 176 [eJ m,.agg (eF f),aD eH 3 c] J λv J'=>v=D (E9 N k f c)/\zt m J J'/\(E9 N k f c=0->Hj J' m (tH k f)/\SM.Srt (tH k f).types):=by
 refine Aj Tryz.func176 rfl rfl λhw dg=>?_
 obtain⟨vf,ar⟩:=id hk.f;have d9:m+4<O J:=hk.t.lt hw;have bx:=x.a;refine fJ ?_;refine Ca (qO f.label _) ?_;refine G2 ?_;refine Ab rfl ?_ ?_<;>intro W
 ·refine G4 ?_;have y:E9 N k f c=2:=(if_pos W);refine Bo λo=>?_
  refine G ?_
  exact⟨_,rfl,_,_,a_ o Y zN,Y,.same rfl,congrArg D y.symm,⟨Y,λ_ _ _=>rfl⟩,λg=>absurd (y.symm.trans g) zD⟩
 ·refine G2 ?_;refine Gz 7 zH (iQ (k.hyps.get f.label)) [(8,.bool (k.hyps.get f.label).isSome)] (Ve _) rfl (λhw=>?_) ?_
  ·refine XX 1 (l:=[]) trivial ?_;refine G6 ?_;refine V (Vf rfl hk.h rfl) ?_;refine G3 ?_;refine DT (Bu bG) (DT (By (vs:=zH) (vs':=iQ (k.hyps.get f.label)) aG rfl rfl (A7 (Jx _)) Eg (Hh (Jx _))) (V Oq (C1 ?_)))
   exact⟨(by intro e he;simp at he;rcases he with rfl|rfl<;>first|exact .refl|exact K4 hw),⟨rfl,trivial⟩,sb,rfl,rfl⟩
  refine Gg [(48,.bool (((k.hyps.get f.label).isSome||k.isSym f.label)||k.frames.has f.label))] ?_ ?_
  ·rcases fI ((k.hyps.get f.label).isSome)with d|d
   ·refine XS (l:=[(212,[eJ m,sV f.label],J,.bool (k.isSym f.label),J)]) ⟨oP m k f.label J hk,trivial⟩ ?_;refine V Oq (V Oq (Wx (w:=R1 d) (Wx (w:=R1 d) (Wx (w:=R1 d) (K5 rfl rfl rfl rfl (R1 d) rfl rfl (V (A3 rfl (R1 d) rfl) (V Oq ?_)))))));refine Wx (w:=R1 d) (Wx (w:=R1 d) (Wx (w:=R1 d) (Wx (w:=R1 d) (Wx (w:=R1 d) (Wx (w:=R1 d) (Wx (w:=R1 d) (V (A3 rfl (R1 d) rfl) ?_)))))));refine C1 ?_;exact⟨⟨congrArg (λb=>some (I.bool b)) (R1 d),trivial⟩,sb,rfl⟩
   ·rcases fI (k.isSym f.label)with j|j
    ·refine XS (l:=[(212,[eJ m,sV f.label],J,.bool (k.isSym f.label),J)]) ⟨oP m k f.label J hk,trivial⟩ ?_;refine V Oq (V Oq (Wn (w:=R2 j d) Oq (Wn (w:=R2 j d) Oq (Wn (w:=R2 j d) Oq (Ol rfl rfl rfl rfl (R2 j d) rfl rfl Oq (V (Au rfl (R2 j d) rfl) (V Oq ?_)))))));refine Wx (w:=R2 j d) (Wx (w:=R2 j d) (Wx (w:=R2 j d) (Wx (w:=R2 j d) (Wx (w:=R2 j d) (Wx (w:=R2 j d) (Wx (w:=R2 j d) (V (A3 rfl (R2 j d) rfl) ?_)))))));refine C1 ?_;exact⟨⟨congrArg (λb=>some (I.bool b)) (R2 j d),trivial⟩,sb,rfl⟩
    ·refine XS (l:=[(212,[eJ m,sV f.label],J,.bool (k.isSym f.label),J)]) ⟨oP m k f.label J hk,trivial⟩ ?_;refine V Oq (V Oq (Wn (w:=R2 j d) Oq (Wn (w:=R2 j d) Oq (Wn (w:=R2 j d) Oq (Ol rfl rfl rfl rfl (R2 j d) rfl rfl Oq (V (Au rfl (R2 j d) rfl) (V Oq ?_)))))));refine Wn (w:=R2 j d) Oq (Wn (w:=R2 j d) Oq (Wn (w:=R2 j d) Oq (Wn (w:=R2 j d) Oq (Wn (w:=R2 j d) Oq (Wn (w:=R2 j d) Oq (Wn (w:=R2 j d) (De bI Cr rfl hk.f rfl) (V (Au rfl (R2 j d) rfl) ?_)))))));refine C1 ?_;exact⟨⟨congrArg (λb=>some (I.bool b)) (R2 j d),trivial⟩,sb,rfl⟩
  refine Ab rfl ?_ ?_<;>intro h2
  ·refine G4 ?_;have y:E9 N k f c=6:=((zJ W).trans (if_pos h2))
   refine Bo λo=>?_
   refine G ?_
   exact⟨_,rfl,_,_,a_ o Y zN,Y,.same rfl,congrArg D y.symm,⟨Y,λ_ _ _=>rfl⟩,λg=>absurd (y.symm.trans g) zD⟩
  ·refine G9 ?_;refine cJ 4 ?_ (λH=>?_) ?_
   rotate_left
   ·iterate 4 refine Gn H ?_
    exact Ez
   refine G ?_;refine Ab rfl ?_ ?_<;>intro h3
   ·refine G4 ?_;have y:E9 N k f c=4:=((zJ W).trans ((zJ h2).trans (if_pos h3)))
    refine Bo λo=>?_
    refine G ?_
    exact⟨_,rfl,_,_,a_ o Y zN,Y,.same rfl,congrArg D y.symm,⟨Y,λ_ _ _=>rfl⟩,λg=>absurd (y.symm.trans g) zD⟩
   ·refine G2 ?_;refine XS (l:=[]) trivial ?_;refine G6 ?_
    refine DT (Gh (v:=true) bI Cr rfl ar rfl rfl (λte q r=>by first|exact I0 q r|exact I1 q r|exact I2 q r|exact Jn q r|exact H6 q r rfl)) ?_
    refine G3 ?_;refine A (Cd (n:=O J) Cr (Aq J _ _)) (A (Cd (n:=O J+1) sU (fN (Aq J _ _))) ?_);refine cD ?_;refine Cx (Ai aJ bM rfl rfl rfl) (Dv (len:=2)) rfl rfl ?_
    refine Ca (xU [f.hyps,f.dummies] _ zS x.a) ?_
    refine G3 ?_
    have c8:∃u C,tE J (((J.set (m+2) (.map 9 (Cn bV (k.frames.put f.label true)) (vf+1))).new (.map 9 [] 0)).new (.map 9 [] 0)) m (k.fr f.label) u C/\Jd (k.fr f.label) f.hyps.length f.all 0 [] []=Jd (k.fr f.label) f.hyps.length (f.all.drop 0) 0 u C/\∀h∈f.all.take 0,h.floating=true->∃a b,h.text=[a,b]:=by
     have H:∀b,b<O J->b≠m+2->(((J.set (m+2) (.map 9 (Cn bV (k.frames.put f.label true)) (vf+1))).new (.map 9 [] 0)).new (.map 9 [] 0)).get b=J.get b:=Z;refine⟨[],[],⟨Z,H,hk.fr (ver:=vf+1) hw ?_ H,⟨0,?_⟩,⟨0,?_⟩,.nil⟩,rfl,Z⟩
     ·grind
     ·rw[a5,if_neg Z,a5,if_pos (by rw[Aq])];rfl
     ·rw[a5,if_pos Z];rfl
    refine G ?_;refine Bz f.all.length (λP=>[(2,aD eH 3 c),(3,.pv [eJ m]),(4,.pv (eF f)),(9,.pv [.mp (O J),.mp (O J+1)]),(73,aD eH 3 f.all),(74,D (.ofNat f.all.length)),(75,D (.ofNat P))]) (λP E=>∃u C,tE J E m (k.fr f.label) u C/\Jd (k.fr f.label) f.hyps.length f.all 0 [] []=Jd (k.fr f.label) f.hyps.length (f.all.drop P) P u C/\∀h∈f.all.take P,h.floating=true->∃a b,h.text=[a,b]) SL c8 ?_
    rintro P E d4 ⟨u,C,⟨af,ae,B,a7,K,T⟩,X,ak⟩;refine G5 ?_;refine Ab rfl ?_ ?_<;>intro h4
    ·have bc:P<f.all.length:=Z;obtain⟨R,a9⟩:=Ar bc;have ac:=A4 a9;have ay:R∈f.all:=bA a9;obtain⟨vl,aw⟩:=id a7;obtain⟨ey,ph⟩:=id K;refine G8 ?_;refine Rn bG aG rfl rfl zF rfl zF rfl rfl rfl rfl rfl ?_
     refine cG ?_;refine Ca (GD m (k.fr f.label) (O J) (O J+1) u C R _ E B a7 K (x.x R (bA a9))) ?_;refine G7 ?_;refine Ab rfl ?_ ?_<;>intro U
     ·refine G5 ?_
      have hH:Jd (k.fr f.label) f.hyps.length f.all 0 [] []=((Vg (k.fr f.label) u C R (decide (Int.ofNat f.hyps.length<=Int.ofNat P))),C):=by rw[X,ac,Jd,if_pos U]
      have L:zt m J E:=tE.up ⟨af,ae,B,a7,K,T⟩;have y:E9 N k f c=(Vg (k.fr f.label) u C R (decide (Int.ofNat f.hyps.length<=Int.ofNat P))):=((zJ W).trans ((zJ h2).trans ((zJ h3).trans Z)))
      refine Bo λo=>?_
      refine G ?_;exact⟨_,rfl,_,_,a_ o Y zN,Z,.same rfl,congrArg D y.symm,L,Z⟩
     ·refine G7 ?_
      refine A (Gh (v:=true) bI Cr rfl aw rfl rfl (λte q r=>by first|exact I0 q r|exact I1 q r|exact I2 q r|exact Jn q r|exact H6 q r rfl)) ?_
      refine G6 ?_;refine Ab rfl ?_ ?_<;>intro h6
      ·have a8:R.floating=true:=h6;obtain⟨t0,t1,aq⟩:=KX (Df U) a8;have ag:∀h∈f.all.take (P+1),h.floating=true->∃a b,h.text=[a,b]:=Z;refine XS (l:=[]) trivial ?_;refine G4 ?_
       refine V (A1 aJ zF rfl rfl (by grind:R.text[1]? =some t1) (i:=1)) ?_
       refine G3 ?_
       refine V (A1 aJ zF rfl rfl (by grind:R.text[0]? =some t0) (i:=0)) ?_
       refine G ?_
       refine DT (Gh (v:=t0) bI sU rfl (by rw[aU,if_neg z];exact ph) rfl rfl (λte q r=>by first|exact I0 q r|exact I1 q r|exact I2 q r|exact Jn q r|exact H6 q r rfl)) ?_
       refine G5 ?_
       refine⟨bc,SL,⟨u.put R.label true,C.put t1 t0,⟨Z,Z,(B.hi z).hi z,B8.set iH z,iH,T.put⟩,by rw[X,ac,Jd,zJ U,if_pos a8,aq];rfl,ag⟩⟩
      ·have a8:R.floating=false:=h6;have ag:∀h∈f.all.take (P+1),h.floating=true->∃a b,h.text=[a,b]:=Z;refine G5 ?_
       refine⟨bc,SL,⟨u.put R.label true,C,⟨Z,Z,B.hi z,iH,K.set z,T⟩,by rw[X,ac,Jd,zJ U,if_neg Z],ag⟩⟩
    ·have bj:f.all.length<=P:=Z
     have hH:Jd (k.fr f.label) f.hyps.length f.all 0 [] []=(0,C):=by rw[X,cv bj];rfl
     have L:zt m J E:=tE.up ⟨af,ae,B,a7,K,T⟩;have al:∀t∈f.text::H8 f.hyps,t.length<1000000:=x.ess
     have an:∀h∈f.hyps,h.floating=true->∃a b,h.text=[a,b]:=λh g=>ak h (by rw[dG bj];simp[Fr.all,g])
     have ap:(yB f c).length<4611686018427387904:=by have:=x.h;have h9:=H0 (p:=λh:Hp=>h.floating) (l:=f.hyps);unfold yB pE;grind
     refine G7 ?_;refine Ca (tY m (k.fr f.label) f.text E B Z) ?_;refine G7 ?_;refine Ab rfl ?_ ?_<;>intro U
     ·refine G5 ?_;have y:E9 N k f c=(k.fr f.label).textF f.text:=((zJ W).trans ((zJ h2).trans ((zJ h3).trans ((if_neg Z).trans (if_pos U)))))
      refine Bo λo=>?_
      refine G ?_;exact⟨_,rfl,_,_,a_ o Y zN,Z,.same rfl,congrArg D y.symm,L,Z⟩
     ·refine G6 ?_;refine Ca (DP m (k.fr f.label) f E B x.h al x.w an) ?_;refine G7 ?_;refine Ab rfl ?_ ?_<;>intro h6
      ·refine G5 ?_;have y:E9 N k f c=Mt (k.fr f.label) f:=((zJ W).trans ((zJ h2).trans ((zJ h3).trans ((if_neg Z).trans ((zJ U).trans (if_pos h6))))))
       refine Bo λo=>?_
       refine G ?_;exact⟨_,rfl,_,_,a_ o Y zN,Z,.same rfl,congrArg D y.symm,L,Z⟩
      ·refine G9 ?_;refine fZ 14 ?_ (λH=>?_) ?_
       rotate_left
       ·iterate 4 refine Gn H ?_
        refine Qh 4 _ ?_ rfl rfl rfl rfl rfl (Ft rfl rfl rfl rfl (by rw[H];rfl)) (λH=>?_) (λH=>?_) ?_
        rotate_left
        ·iterate 4 refine Gn H ?_
         refine G ?_;refine⟨rfl,?_,?_⟩
         ·exact sb
         ·exact rfl
        ·iterate 4 refine Gn H ?_
         refine G ?_;exact⟨rfl,sb⟩
        refine Gn H ?_
        refine Qh 3 _ ?_ rfl rfl rfl rfl rfl (Ft rfl rfl rfl rfl (by rw[H];rfl)) (λH=>?_) (λH=>?_) ?_
        rotate_left
        ·iterate 2 refine Gn H ?_
         refine Bh rfl rfl rfl (by rw[H];rfl) rfl rfl rfl rfl (pJ (λs=> !N s) f.proof 218 [] E Z (λa _=>ao a E)) ?_
         refine G ?_;refine⟨rfl,?_,?_⟩
         ·exact sb
         ·exact rfl
        ·iterate 3 refine Gn H ?_
         refine G ?_;exact⟨rfl,sb⟩
        exact Ez
       refine G ?_;refine Ab rfl ?_ ?_<;>intro h7
       ·refine G4 ?_;have y:E9 N k f c=2:=((zJ W).trans ((zJ h2).trans ((zJ h3).trans ((if_neg Z).trans ((zJ U).trans ((zJ h6).trans (if_pos h7)))))))
        refine Bo λo=>?_
        refine G ?_
        exact⟨_,rfl,_,_,a_ o Y zN,Z,.same rfl,congrArg D y.symm,L,λg=>absurd (y.symm.trans g) zD⟩
       ·refine G4 ?_;refine Ca (uY f E x.h) ?_;refine G7 ?_;refine Ca (JE c (pE f) E am) ?_;refine G4 ?_;refine Cx (XA rfl rfl rfl rfl (RV _ _)) Dv rfl rfl ?_;refine G7 ?_;refine Ca (rA (λh=>((k.fr f.label).hyps.get h.label).isSome) (yB f c) 221 [.pv [eJ m]] E ap (λa _=>EW m (k.fr f.label) a E B)) ?_
        refine G ?_;refine Ab rfl ?_ ?_<;>intro h8
        ·refine G4 ?_;have y:E9 N k f c=7:=((zJ W).trans ((zJ h2).trans ((zJ h3).trans ((if_neg Z).trans ((zJ U).trans ((zJ h6).trans ((zJ h7).trans (if_pos h8))))))))
         refine Bo λo=>?_
         refine G ?_
         exact⟨_,rfl,_,_,a_ o Y zN,Z,.same rfl,congrArg D y.symm,L,λg=>absurd (y.symm.trans g) zD⟩
        ·refine G8 ?_;refine Cx (Ai aJ bM rfl rfl rfl) (Dv (len:=2)) rfl rfl ?_
         refine Ca (xU [f.hyps,f.dummies] _ zS x.a) ?_
         refine G4 ?_;refine Bz f.all.length (λi2=>[(3,.pv [eJ m]),(9,.pv [.mp (O J),.mp (O J+1)]),(161,aD eH 3 f.all),(162,D (.ofNat f.all.length)),(163,D (.ofNat i2))]) (λi2 Q=>O Q=O J+2/\(∀b,b<O J->b≠m+2->b≠m+3->Q.get b=J.get b)/\Hj Q m ((k.fr f.label).hyps' (f.all.take i2))/\B8 sV Q (O J+1) C) SL ⟨af,λb h9 aj _=>ae b h9 aj,B,K⟩ ?_
         rintro i2 Q d5 ⟨db,cx,S,ai⟩;refine G5 ?_;refine Ab rfl ?_ ?_<;>intro h9
         ·have bv:i2<f.all.length:=Z;obtain⟨a2,aa⟩:=Ar bv;have bz:=A4 aa;obtain⟨vh,au⟩:=id S.h;refine G9 ?_;refine XX 1 (l:=[(180,[.agg (eH a2)],Q,.agg (eH a2),Q)]) ⟨vF a2 Q (x.x a2 (bA aa)),trivial⟩ ?_;refine G8 ?_
          refine DT (Gh (v:=a2) bI Qo rfl au rfl rfl (λte q r=>by first|exact I0 q r|exact I1 q r|exact I2 q r|exact Jn q r|exact H6 q r rfl)) ?_
          refine G ?_
          refine⟨(by intro e he;simp at he;subst he;exact .refl),?_⟩
          refine G4 ?_
          refine⟨bv,SL,Z,Z,by rw[Fw aa,Alj];exact S.hp,ai.set z⟩
         ·have ba:f.all.length<=i2:=Z;rw[dG ba]at S;obtain⟨vt,ax⟩:=id S.t;refine G2 ?_;refine XS (l:=[(222,[.mp (m+4),.mp (O J+1)],Q,An,(Q.set (m+4) (.map 9 (Cn sV (SM.over C k.types)) (vt+C.length))))]) ⟨IX (m+4) (O J+1) vt k.types C Q ax ai z ah T,trivial⟩ ?_;refine cG ?_;have y:E9 N k f c=0:=((zJ W).trans ((zJ h2).trans ((zJ h3).trans ((if_neg Z).trans ((zJ U).trans ((zJ h6).trans ((zJ h7).trans (zJ h8))))))))
          refine Bo λo=>?_
          refine G ?_
          exact⟨_,rfl,_,_,a_ o Y zN,Z,.same rfl,congrArg D y.symm,⟨Z,Z⟩,λ_=>⟨by unfold tH;rw[hH];exact S.ty,by unfold tH;exact SM.Srt.over ah⟩⟩
def iJ:Kn:=⟨[],[],[],[],[]⟩
def I3(b:aH->Bool):List Fr->Kn->List Hp->Int
 |[],_,_=>0
 |f::r,k,a=>if(!decide (E9 b k f a=0))=true then E9 b k f a else I3 b r (tH k f) (pE f)
def Fy(a:aH->Bool)(d:Db):Int:=
 if((decide ((400:Int)<Int.ofNat d.frames.length)||decide ((8000:Int)<Int.ofNat d.consts.length))||decide ((8000:Int)<Int.ofNat d.vars.length))=true then 8
 else if(!decide ((K8 d iJ).1=0))=true then(K8 d iJ).1 else I3 a d.frames (K8 d iJ).2 []
structure nE (d:Db):Prop where
 f:∀f∈d.frames,qZ f
 c:d.consts.length<1000000
 v:d.vars.length<1000000
 n:d.frames.length<1000000
theorem Tn:∀(l:List aH) (k:Kn),(Qp l k).2.types=k.types
 |[],_=>rfl
 |c::r,k=>by unfold Qp;cases L8 c<;>cases k.consts.has c<;>simp[Tn r]
theorem RS:∀(l:List aH) (k:Kn),(Sf l k).2.types=k.types
 |[],_=>rfl
 |c::r,k=>by unfold Sf;cases L8 c<;>cases k.isSym c<;>simp[RS r]
theorem TS(d k):(K8 d k).2.types=k.types:=by
 unfold K8;split
 ·rw[RS,Tn]
 ·rw[Tn]
theorem F3(a)(T:∀s J,Cv 218 [sV s] J (.bool (!a s)))(d J)(x:nE d):Cv 145 [fy d] J (D (Fy a d)):=by
 refine Aj Tryz.func145 rfl rfl λy ac=>?_
 iterate 13 refine G ?_
 refine cJ 4 ?_ (λH=>?_) ?_
 rotate_left
 ·iterate 4 refine Gn H ?_
  exact Ez
 refine G ?_;refine cJ 4 ?_ (λH=>?_) ?_
 rotate_left
 ·iterate 4 refine Gn H ?_
  exact Ez
 refine G ?_;refine Ab rfl ?_ ?_<;>intro w
 ·refine G4 ?_;have l:Fy a d=8:=(if_pos w);refine G ?_;exact⟨_,rfl,_,J,bL y mE,Y,.same rfl,congrArg D l.symm,rfl⟩
 ·refine G ?_;have a9:=x.n;have r:∀b,b<O J->(((((J.new (.map 9 [] 0)).new (.map 9 [] 0)).new (.map 9 [] 0)).new (.map 9 [] 0)).new (.map 9 [] 0)).get b=J.get b:=Z
  have pa:Hj (((((J.new (.map 9 [] 0)).new (.map 9 [] 0)).new (.map 9 [] 0)).new (.map 9 [] 0)).new (.map 9 [] 0)) (O J) iJ:=by
   refine⟨⟨0,?_⟩,⟨0,?_⟩,⟨0,?_⟩,⟨0,?_⟩,⟨0,?_⟩⟩<;>simp only[a5,Ao]<;>simp<;>rfl
  refine G2 ?_;refine A (Cd (n:=O J) Cr rfl) (A (Cd (n:=O J+1) Cr (fN rfl)) (A (Cd (n:=O J+2) Cr (fN (fN rfl))) (A (Cd (n:=O J+3) Qo (fN (fN (fN rfl)))) (A (Cd (n:=O J+4) sU (fN (fN (fN (fN rfl))))) ?_))));refine G9 ?_;refine Az rfl rfl rfl rfl (AX (O J) iJ d (((((J.new (.map 9 [] 0)).new (.map 9 [] 0)).new (.map 9 [] 0)).new (.map 9 [] 0)).new (.map 9 [] 0)) pa Z Z) λv U ⟨hv,B,R⟩=>?_
  subst hv;refine G7 ?_;refine Ab rfl ?_ ?_<;>intro C
  ·refine G5 ?_;have l:Fy a d=(K8 d iJ).1:=((zJ w).trans (if_pos C))
   refine G ?_
   exact⟨_,rfl,_,J,bL y ⟨by rw[B.1];grind,λb c=>(B.2 b (.inl c)).trans (r b c)⟩,Y,.same rfl,congrArg D l.symm,rfl⟩
  ·refine G3 ?_;refine Cx Oq (yZ (sz:=3)) rfl rfl ?_;refine G9 ?_
   have W:O J+5<=O U:=by rw[B.1];grind
   have P:∀b,b<O J->U.get b=J.get b:=λb c=>(B.2 b (.inl c)).trans (r b c)
   have a7:SM.Srt (K8 d iJ).2.types:=by rw[TS];exact .nil
   refine G ?_
   refine Ci (λq:Nat×I=>[(3,eJ (O J)),(5,q.2),(39,aD eF 8 d.frames),(40,D (.ofNat d.frames.length)),(41,D (.ofNat q.1))]) (λq j=>q.1<=d.frames.length/\∃k f,q.2=aD eH 3 f/\f.length<1000000/\O J+5<=O j/\(∀b,b<O J->j.get b=J.get b)/\Hj j (O J) k/\SM.Srt k.types/\I3 a d.frames (K8 d iJ).2 []=I3 a (d.frames.drop q.1) k f) (λq=>d.frames.length-q.1) (0,aD eH 3 []) SL ⟨bU _,(K8 d iJ).2,[],rfl,by simp,W,P,R,a7,rfl⟩ ?_
   rintro⟨u,v0⟩ j K;obtain⟨aa,k,f,L,N,S,o,Q,X,m⟩:u<=d.frames.length/\∃k f,v0=aD eH 3 f/\f.length<1000000/\O J+5<=O j/\(∀b,b<O J->j.get b=J.get b)/\Hj j (O J) k/\SM.Srt k.types/\I3 a d.frames (K8 d iJ).2 []=I3 a (d.frames.drop u) k f:=K;refine G5 ?_;refine Ab rfl ?_ ?_<;>intro h3
   ·have bc:u<d.frames.length:=Z;obtain⟨g,h⟩:=Ar bc;have p:=A4 h;subst L
    iterate 15 refine G ?_
    refine Az rfl rfl rfl rfl (EN a T (O J) k g f j Q X (x.f g (bA h)) N) λv2 U2 ⟨a8,i,t⟩=>?_
    subst a8;refine G7 ?_;refine Ab rfl ?_ ?_<;>intro E
    ·refine G5 ?_
     have l:Fy a d=E9 a k g f:=((zJ w).trans ((zJ C).trans (by rw[m,p,I3];grind)))
     refine G ?_
     exact⟨_,rfl,_,J,bL y ⟨by have:=i.1;omega,λb c=>(i.2 b z (.inl c)).trans (o b c)⟩,Y,.same rfl,congrArg D l.symm,rfl⟩
    ·refine G3 ?_;refine Ca (uY g _ (x.f g (bA h)).h) ?_;refine G6 ?_
     refine⟨(u+1,aD eH 3 (pE g)),Z,SL,bc,tH k g,pE g,rfl,x8 H0 (x.f g (bA h)).h,bD S i.1,λb c=>(i.2 b z (.inl c)).trans (o b c),(t (Df E)).1,(t (Df E)).2,by rw[m,p,I3,zJ E]⟩
   ·have bj:d.frames.length<=u:=Z
    have hH:I3 a d.frames (K8 d iJ).2 []=0:=by rw[m,cv bj];rfl
    refine G5 ?_;have l:Fy a d=0:=((zJ w).trans ((zJ C).trans (hH)))
    refine G ?_
    exact⟨_,rfl,_,J,bL y ⟨by omega,o⟩,Y,.same rfl,congrArg D l.symm,rfl⟩
end Go.AM

