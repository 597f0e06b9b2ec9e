/- A part of the proof; shortened by program. -/
import Derived.Test.YtmkaboegdoadhaaGreatDoorP14
set_option maxRecDepth 100000
set_option maxHeartbeats 4000000
set_option linter.all false
namespace Go.AM
open Go Go.Proofs
theorem Ha{C p}:∀(l:List C) (i:Nat),(A5 p l i= -1/\∀a∈l,p a=false)\/∃n a,A5 p l i=Int.ofNat (i+n)/\l[n]? =some a/\p a=true/\∀b∈l.take n,p b=false
 |[],i=>.inl ⟨rfl,Z⟩
 |a::r,i=>by
  unfold A5;cases g:p a with
  |true=>exact .inr ⟨0,a,rfl,rfl,g,Z⟩
  |false=>
   rcases Ha (p:=p) r (i+1)with⟨d,e⟩|⟨n,b,d,e,f,h⟩
   ·grind
   ·refine .inr ⟨n+1,b,Z,Z,f,λc j=>?_⟩
    grind
def Eo{C:Type}(p:C->Bool)(l:List C):List C:=l.filter λx=> !p x
theorem HD{C p}{l:List C}(h:∀a∈l,p a=false):Eo p l=l:=z'.2 Z
theorem Ru{C p l}{a:C}:Eo p (l++[a])=Eo p l++(if p a then[]else[a]):=by
 unfold Eo;grind
theorem H0{C p}{l:List C}:(Eo p l).length<=l.length:=lI _ _
structure Vc {α:Type}(p:α->Bool)(l c:List α)(j:Nat):Prop where
 len:c.length=l.length
 fst:c.take (Eo p (l.take j)).length=Eo p (l.take j)
 snd:c.drop j=l.drop j
theorem Vc.start{C p l n}{a:C}(u:l[n]? =some a)(r:p a=true)(t:∀b∈l.take n,p b=false):(Eo p (l.take (n+1))).length=n/\Vc p l l (n+1):=by
 have h:Eo p (l.take (n+1))=l.take n:=by rw[Fw u,Ru,HD t,if_pos r,dA]
 have d:=(bQ.1 u).1;have c:(Eo p (l.take (n+1))).length=n:=Z
 exact⟨c,rfl,by rw[c,h],rfl⟩
theorem Vc.at{C p}{l c:List C}{j}(h:Vc p l c j):c[j]? =l[j]? :=by
 have:=congrArg (λk:List C=>k[0]?) h.snd
 grind
theorem Vc.out{C p l c j}{a:C}(h:Vc p l c j)(d:l[j]? =some a)(e:p a=true):(Eo p (l.take (j+1))).length=(Eo p (l.take j)).length/\Vc p l c (j+1):=by
 have b:Eo p (l.take (j+1))=Eo p (l.take j):=by rw[Fw d,Ru,if_pos e,dA]
 refine⟨by rw[b],h.len,by rw[b];exact h.fst,?_⟩
 have:=congrArg (List.drop 1) h.snd
 simpa[rU,yg]using this
theorem Vc.keep{C p l c j}{a:C}(h:Vc p l c j)(d:l[j]? =some a)(f:p a=false):
  (Eo p (l.take (j+1))).length=(Eo p (l.take j)).length+1/\(Eo p (l.take j)).length<c.length/\Vc p l (c.set (Eo p (l.take j)).length a) (j+1):=by
 have g:=(bQ.1 d).1
 have e:Eo p (l.take (j+1))=Eo p (l.take j)++[a]:=by rw[Fw d,Ru,if_neg (by simp[f])]
 have i:(Eo p (l.take j)).length<=j:=bD H0 Z
 have b:(Eo p (l.take j)).length<c.length:=by rw[h.len];omega
 refine⟨Z,b,by rw[jO];exact h.len,?_,?_⟩
 ·rw[e,gW,rR,Fw (a:=a) Z,List.take_set_of_le Y,h.fst]
 ·rw[List.drop_set_of_lt z];have:=congrArg (List.drop 1) h.snd
  simpa[rU,yg]using this
theorem EG(p l a r k y J)(Q:l.length<1000000)(H:J.get a=some (.cells (l.flatMap eH++r)))(X:∀x∈l,Al M k ([.agg (eH x)]++y) J λv m=>v=.bool (p x)/\m=J):Cv 98 [.sr a 0 3 l.length none,.fn (.func k) [] y] J (D (A5 p l 0)):=by
 refine Aj Tryz.func98 rfl rfl λj q=>?_
 refine G8 ?_;refine A (Bf bF rfl rfl rfl) ?_;refine G3 ?_;refine Bz l.length (λd=>[(0,.sr a 0 3 l.length none),(1,.fn (.func k) [] y),(7,D (.ofNat l.length)),(8,D (.ofNat d))]) (λd g=>g=J/\A5 p l 0=A5 p (l.drop d) d) SL ⟨rfl,rfl⟩ ?_
 rintro d g o ⟨rfl,c⟩;refine G5 ?_;refine Ab rfl ?_ ?_<;>intro s
 ·have f:d<l.length:=Z;obtain⟨h,b⟩:=Ar f;have e:=A4 b
  iterate 13 refine G ?_
  refine A (Br aJ rfl rfl f) (A (Dg (enc:=eH) (v:=.agg (eH h)) zF aG rfl H b zF) ?_)
  refine Ca (X h (bA b)) ?_;refine G ?_;refine Ab rfl ?_ ?_<;>intro i
  ·refine G6 ?_;refine B4 j rfl ?_
   exact(by rw[c,e];simp only[A5,i,cond_true];rfl)
  ·refine G5 ?_
   refine⟨f,SL,rfl,by rw[c,e];simp only[A5,i,cond_false]⟩
 ·have n:l.length<=d:=Z;refine G6 ?_;refine B4 j rfl ?_
  exact(by rw[c,cv n];rfl)
theorem vU(k:Nat)(y r)(b:r=nS\/r=.sv [] 3 0 (some 0))(J):Cv 223 [r,.fn (.func k) [] y] J r:=by
 refine Aj Tryz.func223 rfl rfl λd c=>?_
 refine G8 ?_
 refine Nm rfl rfl rfl rfl ((MF (λ_=>false) [] k y J zS Z).wk (.cons (by rcases b with rfl|rfl<;>first|exact yZ|exact Dv) .refl)) ?_
 refine G6 ?_;refine A (H4 (q:=(-1)) aV rfl rfl) ?_;refine G ?_;refine Ab rfl ?_ ?_<;>intro a
 ·refine G6 ?_
  exact⟨_,rfl,_,_,a_ d Y zN,Y,.same (by rcases b with rfl|rfl<;>rfl),rfl,rfl⟩
 ·exact absurd a (by simp[A5])
theorem uM(p l a N o k y J)(hb:l.length<1000000)(hN:N<=a)(H:J.get a=some (.cells (l.flatMap eH++o)))(hk:∀x∈l,∀U,(∀b,b<N->U.get b=J.get b)->O U=O J->Al M k ([.agg (eH x)]++y) U λv r=>v=.bool (p x)/\r=U):Al M 223 [.sr a 0 3 l.length none,.fn (.func k) [] y] J λv r=>aW r N eH 3 (Eo p l) v/\Below N J r:=by
 refine Aj Tryz.func223 rfl rfl λhw a9=>?_
 have gd:=(hw _ _ H).1;refine G8 ?_;refine Ca (EG p l a o k y _ hb H (λx E=>hk x E _ zN rfl)) ?_
 refine G6 ?_;refine A (H4 (q:=(-1)) aV rfl rfl) ?_;refine G ?_;refine Ab rfl ?_ ?_<;>intro h1
 ·refine G5 ?_;obtain C:Eo p l=l:=HD ((Ha (p:=p) l 0).resolve_right Z).2;refine G ?_
  exact⟨_,rfl,_,_,a_ hw Y zN,Y,.same (Ce gd),.inr ⟨a,o,hN,gd,by rw[C];rfl,Z⟩,.rfl'⟩
 ·rcases Ha (p:=p) l 0 with⟨hf,a8⟩|⟨n,x,hf,E,R,Q⟩
  ·grind
  obtain⟨S,jw⟩:=Vc.start E R Q;have hn:=(bQ.1 E).1;rw[hf,dE];refine G9 ?_;refine Ci (λq:Nat×Nat=>[(0,.sr a 0 3 l.length none),(1,.fn (.func k) [] y),(5,D (.ofNat q.2)),(6,D (.ofNat q.1))])
   (λq h=>q.1<=l.length/\q.2=(Eo p (l.take q.1)).length/\O h=O J/\(∀b,b≠a->h.get b=J.get b)/\∃c,Vc p l c q.1/\h.get a=some (.cells (c.flatMap eH++o))) (λq=>l.length-q.1) (n+1,n) SL ⟨hn,S.symm,rfl,λ_ _=>rfl,l,jw,H⟩ ?_
  rintro⟨j,w⟩ h ⟨P,d,m,W,c,e,B⟩;simp only at P d e;refine G5 ?_;refine A (Bf bF rfl rfl rfl) ?_;refine G2 ?_;refine Ab rfl ?_ ?_<;>intro h2
  ·have s:j<l.length:=Z;obtain⟨b,f⟩:=Ar s;have L:=e.at.trans f
   have g:w<=j:=by rw[d];exact bD H0 Z
   refine G7 ?_;refine A (Br aJ rfl rfl s) (A (Dg (enc:=eH) (v:=.agg (eH b)) zF aG rfl B L zF) ?_)
   refine G6 ?_;refine Ca (hk b (bA f) h (λb' a7=>W b' z) m) ?_
   refine G2 ?_;refine Ab rfl ?_ ?_<;>intro h3
   ·have K:p b=false:=Z;obtain⟨i,t,X⟩:=e.keep f K;rw[<-d]at i t X;refine G5 ?_;refine A (Br aJ rfl rfl z) ?_;refine A (Tb (enc:=eH) (u:=b) zF aG rfl rfl rfl B t) ?_
    refine fJ ?_;refine⟨(j+1,w+1),Z,SL,s,i.symm,Z,Z,c.set w b,X,Z⟩
   ·have K:p b=true:=Z;obtain⟨i,t⟩:=e.out f K;rw[<-d]at i;refine G6 ?_;refine⟨(j+1,w),Z,SL,s,i.symm,m,W,c,t,B⟩
  ·have bj:j=l.length:=Z
   have g:w<=l.length:=by rw[d];exact bD H0 Z
   refine G5 ?_
   refine A (JR aJ rfl rfl g) (A (LK (enc:=eH) (l:=c) (b:=w) zF aJ rfl rfl B (by rw[e.len];omega)) ?_)
   refine G5 ?_;refine A (Uv aJ rfl rfl g) ?_;refine G2 ?_;have C:Eo p (l.take j)=Eo p l:=Z;rw[C]at d;have jx:=e.fst;rw[C,<-d]at jx;refine Bo λT=>?_
   refine G ?_
   refine⟨_,rfl,_,_,a_ T Y zN,pD Z,.same (Ce Z),.inr ⟨a,rep [.str [],.bool false,nS] (l.length-w)++o,hN,Z,by rw[<-d];rfl,?_⟩,⟨pD Z,Z⟩⟩
   grind
theorem xe(p l a r k y J)(Q:l.length<1000000)(H:J.get a=some (.cells (l.flatMap eP++r)))(X:∀x∈l,Al M k ([.agg (eP x)]++y) J λv m=>v=.bool (p x)/\m=J):Cv 288 [.sr a 0 2 l.length none,.fn (.func k) [] y] J (D (A5 p l 0)):=by
 refine Aj Tryz.func288 rfl rfl λj q=>?_
 refine G8 ?_;refine A (Bf bF rfl rfl rfl) ?_;refine G3 ?_;refine Bz l.length (λd=>[(0,.sr a 0 2 l.length none),(1,.fn (.func k) [] y),(7,D (.ofNat l.length)),(8,D (.ofNat d))]) (λd g=>g=J/\A5 p l 0=A5 p (l.drop d) d) SL ⟨rfl,rfl⟩ ?_
 rintro d g o ⟨rfl,c⟩;refine G5 ?_;refine Ab rfl ?_ ?_<;>intro s
 ·have f:d<l.length:=Z;obtain⟨h,b⟩:=Ar f;have e:=A4 b
  iterate 13 refine G ?_
  refine A (Br aJ rfl rfl f) (A (Dg (enc:=eP) (v:=.agg (eP h)) zF aG rfl H b zF) ?_)
  refine Ca (X h (bA b)) ?_;refine G ?_;refine Ab rfl ?_ ?_<;>intro i
  ·refine G6 ?_;refine B4 j rfl ?_
   exact(by rw[c,e];simp only[A5,i,cond_true];rfl)
  ·refine G5 ?_
   refine⟨f,SL,rfl,by rw[c,e];simp only[A5,i,cond_false]⟩
 ·have n:l.length<=d:=Z;refine G6 ?_;refine B4 j rfl ?_
  exact(by rw[c,cv n];rfl)
theorem xK(k:Nat)(y r)(b:r=nS\/r=.sv [] 2 0 (some 0))(J):Cv 272 [r,.fn (.func k) [] y] J r:=by
 refine Aj Tryz.func272 rfl rfl λd c=>?_
 refine G8 ?_
 refine Nm rfl rfl rfl rfl ((CW (λ_=>false) [] k y J zS Z).wk (.cons (by rcases b with rfl|rfl<;>first|exact yZ|exact Dv) .refl)) ?_
 refine G6 ?_;refine A (H4 (q:=(-1)) aV rfl rfl) ?_;refine G ?_;refine Ab rfl ?_ ?_<;>intro a
 ·refine G6 ?_
  exact⟨_,rfl,_,_,a_ d Y zN,Y,.same (by rcases b with rfl|rfl<;>rfl),rfl,rfl⟩
 ·exact absurd a (by simp[A5])
theorem xn(p l a N o k y J)(hb:l.length<1000000)(hN:N<=a)(H:J.get a=some (.cells (l.flatMap eP++o)))(hk:∀x∈l,∀U,(∀b,b<N->U.get b=J.get b)->O U=O J->Al M k ([.agg (eP x)]++y) U λv r=>v=.bool (p x)/\r=U):Al M 272 [.sr a 0 2 l.length none,.fn (.func k) [] y] J λv r=>aW r N eP 2 (Eo p l) v/\Below N J r:=by
 refine Aj Tryz.func272 rfl rfl λhw a9=>?_
 have gd:=(hw _ _ H).1;refine G8 ?_;refine Ca (xe p l a o k y _ hb H (λx E=>hk x E _ zN rfl)) ?_
 refine G6 ?_;refine A (H4 (q:=(-1)) aV rfl rfl) ?_;refine G ?_;refine Ab rfl ?_ ?_<;>intro h1
 ·refine G5 ?_;obtain C:Eo p l=l:=HD ((Ha (p:=p) l 0).resolve_right Z).2;refine G ?_
  exact⟨_,rfl,_,_,a_ hw Y zN,Y,.same (Ce gd),.inr ⟨a,o,hN,gd,by rw[C];rfl,Z⟩,.rfl'⟩
 ·rcases Ha (p:=p) l 0 with⟨hf,a8⟩|⟨n,x,hf,E,R,Q⟩
  ·grind
  obtain⟨S,jw⟩:=Vc.start E R Q;have hn:=(bQ.1 E).1;rw[hf,dE];refine G9 ?_;refine Ci (λq:Nat×Nat=>[(0,.sr a 0 2 l.length none),(1,.fn (.func k) [] y),(5,D (.ofNat q.2)),(6,D (.ofNat q.1))])
   (λq h=>q.1<=l.length/\q.2=(Eo p (l.take q.1)).length/\O h=O J/\(∀b,b≠a->h.get b=J.get b)/\∃c,Vc p l c q.1/\h.get a=some (.cells (c.flatMap eP++o))) (λq=>l.length-q.1) (n+1,n) SL ⟨hn,S.symm,rfl,λ_ _=>rfl,l,jw,H⟩ ?_
  rintro⟨j,w⟩ h ⟨P,d,m,W,c,e,B⟩;simp only at P d e;refine G5 ?_;refine A (Bf bF rfl rfl rfl) ?_;refine G2 ?_;refine Ab rfl ?_ ?_<;>intro h2
  ·have s:j<l.length:=Z;obtain⟨b,f⟩:=Ar s;have L:=e.at.trans f
   have g:w<=j:=by rw[d];exact bD H0 Z
   refine G7 ?_;refine A (Br aJ rfl rfl s) (A (Dg (enc:=eP) (v:=.agg (eP b)) zF aG rfl B L zF) ?_)
   refine G6 ?_;refine Ca (hk b (bA f) h (λb' a7=>W b' z) m) ?_
   refine G2 ?_;refine Ab rfl ?_ ?_<;>intro h3
   ·have K:p b=false:=Z;obtain⟨i,t,X⟩:=e.keep f K;rw[<-d]at i t X;refine G5 ?_;refine A (Br aJ rfl rfl z) ?_;refine A (Tb (enc:=eP) (u:=b) zF aG rfl rfl rfl B t) ?_
    refine fJ ?_;refine⟨(j+1,w+1),Z,SL,s,i.symm,Z,Z,c.set w b,X,Z⟩
   ·have K:p b=true:=Z;obtain⟨i,t⟩:=e.out f K;rw[<-d]at i;refine G6 ?_;refine⟨(j+1,w),Z,SL,s,i.symm,m,W,c,t,B⟩
  ·have bj:j=l.length:=Z
   have g:w<=l.length:=by rw[d];exact bD H0 Z
   refine G5 ?_
   refine A (JR aJ rfl rfl g) (A (LK (enc:=eP) (l:=c) (b:=w) zF aJ rfl rfl B (by rw[e.len];omega)) ?_)
   refine G5 ?_;refine A (Uv aJ rfl rfl g) ?_;refine G2 ?_;have C:Eo p (l.take j)=Eo p l:=Z;rw[C]at d;have jx:=e.fst;rw[C,<-d]at jx;refine Bo λT=>?_
   refine G ?_
   refine⟨_,rfl,_,_,a_ T Y zN,pD Z,.same (Ce Z),.inr ⟨a,rep [.str [],.str []] (l.length-w)++o,hN,Z,by rw[<-d];rfl,?_⟩,⟨pD Z,Z⟩⟩
   grind
theorem wY(p l N k y r J)(h:aW J N eH 3 l r)(Q:l.length<1000000)(X:∀x∈l,∀U,(∀b,b<N->U.get b=J.get b)->O U=O J->Al M k ([.agg (eH x)]++y) U λv c=>v=.bool (p x)/\c=U):
  Al M 223 [r,.fn (.func k) [] y] J λv c=>aW c N eH 3 (Eo p l) v/\Below N J c:=by
 rcases h with⟨rfl,d⟩|⟨a,j,g,m,rfl,i⟩
 ·exact(vU k y r d J).mono λv U ⟨e,f⟩=>by subst e f;exact⟨.inl ⟨rfl,d⟩,.rfl'⟩
 ·exact uM p l a N j k y J Q g i X
theorem EK(p l N k y r J)(h:aW J N eP 2 l r)(Q:l.length<1000000)(X:∀x∈l,∀U,(∀b,b<N->U.get b=J.get b)->O U=O J->Al M k ([.agg (eP x)]++y) U λv c=>v=.bool (p x)/\c=U):
  Al M 272 [r,.fn (.func k) [] y] J λv c=>aW c N eP 2 (Eo p l) v/\Below N J c:=by
 rcases h with⟨rfl,d⟩|⟨a,j,g,m,rfl,i⟩
 ·exact(xK k y r d J).mono λv U ⟨e,f⟩=>by subst e f;exact⟨.inl ⟨rfl,d⟩,.rfl'⟩
 ·exact xn p l a N j k y J Q g i X
theorem Mr{N}(h):I.unds N (eH h)=true:=by
 show(true&&(true&&(I.und N (Af h.text)&&true)))=true
 rw[Fv zF h.text];rfl
theorem Y8{N}(h):I.unds N (eP h)=true:=rfl
theorem Δ{N}(l):I.und N (aD eH 3 l)=true:=Fv Mr l
def Vd(h:Hp):Bool:= !h.floating
theorem JC(h J):Cv 225 [.agg (eH h)] J (.bool h.floating):=by
 refine Aj Tryz.func225 rfl rfl λb a=>?_
 refine cG ?_;refine B4 b rfl ?_;exact rfl
theorem FK(h J):Cv 226 [.agg (eH h)] J (.bool (Vd h)):=by
 refine Aj Tryz.func226 rfl rfl λb a=>?_
 iterate 13 refine G ?_
 refine B4 b rfl ?_;exact rfl
theorem uY(f J)(Q:f.hyps.length<1000000):Cv 177 [.agg (eF f)] J (aD eH 3 (Eo (λh=>h.floating) f.hyps)):=by
 refine Aj Tryz.func177 rfl rfl λb j=>?_
 refine G9 ?_;refine Az rfl rfl rfl rfl (t4 f.hyps _ Q) λv U ⟨d,g⟩=>?_
 refine Az rfl rfl rfl rfl (wY (λh=>h.floating) f.hyps (O J) 225 [] v U d Q (λx _ U _ _=>JC x U)) λl k ⟨e,c⟩=>?_
 refine G3 ?_;exact⟨_,rfl,aD eH 3 (Eo (λh=>h.floating) f.hyps),J,bL b (g.trans c),Y,e.fz zF (λa i=>b.none i) (A2 Mr _),rfl,rfl⟩
theorem vP(l J)(Q:l.length<1000000):Cv 178 [aD eH 3 l] J (aD eH 3 (Eo Vd l)):=by
 refine Aj Tryz.func178 rfl rfl λb h=>?_
 refine G7 ?_;refine Az rfl rfl rfl rfl (t4 l _ Q) λv U ⟨d,f⟩=>?_
 refine Az rfl rfl rfl rfl (wY Vd l (O J) 226 [] v U d Q (λx _ U _ _=>FK x U)) λj i ⟨e,c⟩=>?_
 refine G3 ?_;exact⟨_,rfl,aD eH 3 (Eo Vd l),J,bL b (f.trans c),Y,e.fz zF (λa g=>b.none g) (A2 Mr _),rfl,rfl⟩
theorem GP(p r m J)(K:Fi J r m):Cv 274 [.agg (eP p),.pv [.mp r]] J (.bool (!m.has p.a|| !m.has p.b)):=by
 refine Aj Tryz.func274 rfl rfl λb a=>?_
 refine cD ?_;refine A (De bI Cr rfl K rfl) ?_;refine G2 ?_;refine cJ 5 ?_ (λH=>?_) ?_
 rotate_left
 ·iterate 3 refine Gn H ?_
  refine On H (De bI Cr rfl K rfl) ?_;refine Gn H ?_;exact Ez
 refine G3 ?_;refine B4 b rfl ?_;exact rfl
theorem CS(r m l J)(K:Fi J r m)(Q:l.length<1000000):Cv 251 [.mp r,aD eP 2 l] J (aD eP 2 (Eo (λp=> !m.has p.a|| !m.has p.b) l)):=by
 refine Aj Tryz.func251 rfl rfl λb j=>?_
 refine G8 ?_;refine Az rfl rfl rfl rfl (CH l _ Q) λv U ⟨f,c⟩=>?_
 refine G ?_
 refine Az rfl rfl rfl rfl (EK (λp=> !m.has p.a|| !m.has p.b) l (O J) 274 [.pv [.mp r]] v U f Q (λx _ d h _=>GP x r m d (K.of_get ((h r (K.lt b)).trans (c.2 r (K.lt b)))))) λn k ⟨g,e⟩=>?_
 refine G3 ?_
 exact⟨_,rfl,aD eP 2 (Eo (λp=> !m.has p.a|| !m.has p.b) l),J,bL b (c.trans e),Y,g.fz zF (λa i=>b.none i) (A2 Y8 _),rfl,rfl⟩
def H8(l:List Hp):List (List aH):=(Eo (λh=>h.floating) l).map (·.text)
theorem LD{l:List Hp}{i}{a:Hp}(c:l[i]? =some a):H8 (l.take (i+1))=H8 (l.take i)++(if a.floating then[]else[a.text]):=by
 unfold H8;rw[Fw c,Ru,iG];grind
theorem JM{l}:(H8 l).length<=l.length:=by unfold H8;rw[jT];exact H0
abbrev eL(t:List aH):List I:=[Af t]
theorem Axb:∀t,(eL t).length=1:=λ_=>rfl
theorem Qq:∀t,(eH t).length=3:=λ_=>rfl
theorem Am8{N}(t):I.unds N (eL t)=true:=by show(I.und N (Af t)&&true)=true;rw[Fv zF];rfl
theorem JH(l t J)(Q:l.length<1000000):Cv 248 [aD eH 3 l,Af t] J (aD eL 1 (t::H8 l)):=by
 refine Aj Tryz.func248 rfl rfl λk x=>?_
 refine G7 ?_;refine A (Ai aJ bM rfl rfl rfl) ?_;refine cD ?_;refine Ci (λq:Nat×I=>[(5,q.2),(10,aD eH 3 l),(11,D (.ofNat l.length)),(12,D (.ofNat q.1))]) (λq d=>q.1<=l.length/\pL d (O J) eL 1 (t::H8 (l.take q.1)) q.2/\Below (O J) J d) (λq=>l.length-q.1) (0,.sv [Af t] 1 1 (some 1)) SL ⟨bU _,.inl rfl,.rfl'⟩ ?_
 rintro⟨b,m⟩ d i;obtain⟨w,f,g⟩:b<=l.length/\pL d (O J) eL 1 (t::H8 (l.take b)) m/\Below (O J) J d:=i;refine G5 ?_;refine Ab rfl ?_ ?_<;>intro B
 ·have h:b<l.length:=Z;obtain⟨e,c⟩:=Ar h;have u:=A4 c
  iterate 15 refine G ?_
  refine Ab rfl ?_ ?_<;>intro C
  ·have j:e.floating=false:=Z
   have o:((t::H8 (l.take b)).length+[e.text].length)*(24+1)<=az:=by have:=JM (l:=l.take b);rw[gC]at this;simp[az];omega
   obtain⟨v,U,p,r,y,_⟩:=f.app (by':=24) Axb g.1 [e.text] o
   refine G4 ?_;refine Cx (Ai aJ bM rfl rfl rfl) (Dv (len:=1)) rfl rfl (A (Av aJ rfl bF rfl rfl rfl (new:=eL e.text) rfl p) ?_);refine G6 ?_
   refine⟨(b+1,v),Z,SL,h,by rw[LD c,if_neg Z];exact r,g.trans y⟩
  ·have j:e.floating=true:=Z;refine G5 ?_
   refine⟨(b+1,m),Z,SL,h,by rw[LD c,if_pos j,dA];exact f,g⟩
 ·have n:l.length<=b:=Z;refine G6 ?_;rw[dG n]at f;refine G ?_;exact⟨_,rfl,aD eL 1 (t::H8 l),J,bL k g,Y,f.fz zF (λa s=>k.none s) (A2 Am8 _),rfl,rfl⟩
theorem Zl:CU M.P 3=true:=Kr
theorem vF(h J)(Q:h.text.length<1000000):Cv 180 [.agg (eH h)] J (.agg (eH h)):=by
 refine Aj Tryz.func180 rfl rfl λb a=>?_
 refine G2 ?_;refine A (zi aG rfl rfl) (A (Bu bG) ?_);refine G4 ?_
 refine A (Ac (cs:=(eH h).drop 2) aG rfl (by simp only[Em,LJ OU]) rfl) ?_
 refine Ca (FW h.text _ Q) ?_;refine G ?_;refine A (By (vs:=eH h) (vs':=eH h) aG rfl rfl rfl (LJ OU) rfl) ?_;refine G3 ?_
 refine A (Ac (cs:=eH h) aG rfl (by simp only[Em,F.cells,aU,if_true];rfl) rfl) ?_
 refine A (By (vs:=[.str [],.bool false,nS]) (vs':=eH h) aG rfl rfl rfl (by unfold F.cells;grind) rfl) ?_
 refine G2 ?_
 exact⟨_,Am (vs:=eH h) (v:=.agg (eH h)) (aG (t:=74)) rfl (by unfold F.cells;grind) rfl rfl,.agg (eH h),J,bL b ((((Below.rfl'.new Y _).new Y _).set Y _).set Z _),Y,.same (Mr h),rfl,rfl⟩
theorem GG(n J)(S:n<1000000):Al M 245 [nS,D (.ofNat n)] J λv c=>aW c (O J) eH 3 [] v/\Below (O J) J c:=by
 refine Aj Tryz.func245 rfl rfl λe d=>?_
 refine cD ?_;refine Ab rfl ?_ ?_<;>intro f
 ·grind
 ·refine G6 ?_;refine A (Zz bF rfl) ?_;refine G ?_;refine A (Bf bF rfl rfl rfl) (A (W2 (p:=0) (q:=0) aV rfl rfl z z) ?_);refine A (W2 (p:=n) (q:=0) aV rfl rfl z z) ?_;refine G7 ?_;refine Ab rfl ?_ ?_<;>intro g
  ·obtain⟨n,rfl⟩:∃k,n=k+1:=⟨n-1,Z⟩;refine G3 ?_;refine A (Zz bF rfl) (A (Zo aJ rfl rfl) ?_);refine G ?_
   refine A (Ain (n:=n) aJ rfl Zl rfl rfl (by simp[az];omega)) ?_
   refine G ?_;refine A (Bf bF rfl rfl rfl) (A (Uv (b:=0) aJ rfl rfl z) ?_);refine G7 ?_;refine Bo λa=>?_
   refine G ?_;exact⟨_,rfl,_,_,a_ a Y zN,Z,.same (Ce Z),.inr ⟨O J,rep [.str [],.bool false,nS] (n+1),Y,Z,rfl,Z⟩,Below.rfl'.new Y _⟩
  ·refine G7 ?_;exact⟨_,rfl,_,_,a_ e Y zN,Y,.same rfl,.nil,.rfl'⟩
abbrev AJ(l:List Hp):List I:=[aD eH 3 l]
theorem Np{C:Type}{b:List (List C)}{i a}(c:b[i]? =some a):(b.take (i+1)).flatten=(b.take i).flatten++a:=by rw[Fw c,List.flatten_append];simp
theorem K9{C:Type}(a:List (List C))(i):((a.take i).flatten).length<=a.flatten.length:=by
 have h:a.flatten=(a.take i).flatten++(a.drop i).flatten:=by rw[<-List.flatten_append,gK]
 grind
def H1:List Hp->List Hp->Nat
 |a::r,b::s=>if a.label=b.label then H1 r s+1 else 0
 |_,_=>0
def Ms(a b:List Hp)(n:Nat):Bool:=match a[n]?,b[n]? with
 |some x,some y=>decide (x.label=y.label)
 |_,_=>false
theorem Tm{a b n x y}(W:a[n]? =some x)(B:b[n]? =some y):Ms a b n=decide (x.label=y.label):=by simp only[Ms,W,B]
theorem Ot{a b n}(h:a.length<=n\/b.length<=n):Ms a b n=false:=by
 unfold Ms
 grind
theorem RG{a b n}(h:Ms a b n=true):n<a.length/\n<b.length:=by
 refine⟨Nat.lt_of_not_le λc=>?_,Nat.lt_of_not_le λc=>?_⟩
 ·rw[Ot (.inl c)]at h;cases h
 ·rw[Ot (.inr c)]at h;cases h
theorem SE{a b n}(h:Ms a b n=true):H1 (a.drop n) (b.drop n)=H1 (a.drop (n+1)) (b.drop (n+1))+1:=by
 obtain⟨e,f⟩:=RG h;obtain⟨x,c⟩:=Ar e;obtain⟨y,d⟩:=Ar f;rw[Tm c d]at h;rw[A4 c,A4 d,H1,if_pos (of_decide_eq_true h)]
theorem YU{a b n}(h:Ms a b n=false):H1 (a.drop n) (b.drop n)=0:=by
 by_cases e:n<a.length
 ·by_cases f:n<b.length
  ·obtain⟨x,c⟩:=Ar e;obtain⟨y,d⟩:=Ar f;rw[Tm c d]at h;rw[A4 c,A4 d,H1,if_neg (of_decide_eq_false h)]
  ·rw[cv (show b.length<=n by omega)];cases a.drop n<;>rfl
 ·rw[cv (show a.length<=n by omega)];rfl
theorem RV:∀(a b:List Hp),H1 a b<=b.length
 |a::r,b::s=>by unfold H1;split<;>simp[RV r s]
 |[],_=>bU _
 |_::_,[]=>bU _
theorem xU(b J)(hb:b.length<1000)(o:b.flatten.length<1000000):Cv 214 [aD AJ 1 b] J (aD eH 3 b.flatten):=by
 refine Aj Tryz.func214 rfl rfl λx a7=>?_
 iterate 16 refine G ?_
 refine Ci (λq:Nat×I=>[(0,aD AJ 1 b),(3,q.2),(9,aD AJ 1 b),(10,D (.ofNat b.length)),(11,D (.ofNat q.1))]) (λq c=>q.1<=b.length/\c=J/\∃s,q.2=D (.ofNat s)/\s=((b.take q.1).flatten).length) (λq=>b.length-q.1) (0,D (.ofNat 0)) SL ⟨bU _,rfl,0,rfl,rfl⟩ ?_
 rintro⟨d,v0⟩ c m;obtain⟨W,rfl,s,h,w⟩:d<=b.length/\c=J/\∃s,v0=D (.ofNat s)/\s=((b.take d).flatten).length:=m;refine G5 ?_;refine Ab rfl ?_ ?_<;>intro h1
 ·have t:d<b.length:=Z;obtain⟨i,r⟩:=Ar t;have R:=A4 r;subst h
  have T:((b.take d).flatten).length+i.length<=b.flatten.length:=by have:=K9 b (d+1);grind
  iterate 14 refine G ?_
  refine A (D3 (p:=s) (q:=i.length) aV rfl rfl z) ?_;refine G7 ?_;refine Ab rfl ?_ ?_<;>intro P
  ·grind
  ·refine G5 ?_;refine⟨(d+1,D (.ofNat (s+i.length))),Z,SL,t,rfl,_,rfl,Z⟩
 ·have C:b.length<=d:=Z;subst h;rw[dG C]at w;subst w;refine G4 ?_;refine Az rfl rfl rfl rfl (GG b.flatten.length _ o) λv U ⟨B,L⟩=>?_
  refine cD ?_;refine Ci (λq:Nat×I=>[(6,q.2),(25,aD AJ 1 b),(26,D (.ofNat b.length)),(27,D (.ofNat q.1))]) (λq f=>q.1<=b.length/\aW f (O c) eH 3 ((b.take q.1).flatten) q.2/\Below (O c) c f) (λq=>b.length-q.1) (0,v) SL ⟨bU _,B,L⟩ ?_
  rintro⟨e,v2⟩ f n;obtain⟨X,l,k⟩:e<=b.length/\aW f (O c) eH 3 ((b.take e).flatten) v2/\Below (O c) c f:=n;refine G5 ?_;refine Ab rfl ?_ ?_<;>intro P
  ·have u:e<b.length:=Z;obtain⟨j,g⟩:=Ar u;have S:=A4 g
   have E:(((b.take e).flatten).length+j.length)*(48+1)<=az:=by have:=K9 b (e+1);rw[Np g,gW]at this;simp only[az];omega
   obtain⟨v,U3,K,gg,N,_⟩:=l.app (by':=48) Qq k.1 j E
   refine cG ?_;refine A (Av aJ rfl bF rfl rfl rfl (X7 Qq _ j) K) ?_;refine G6 ?_;refine⟨(e+1,v),Z,SL,u,Z,k.trans N⟩
  ·have y:b.length<=e:=Z;refine G6 ?_;rw[dG y]at l;refine G ?_;exact⟨_,rfl,aD eH 3 b.flatten,c,bL x k,Y,l.fz Qq (λa Q=>x.none Q) (A2 Mr _),rfl,rfl⟩
theorem JE(a b J)(Q:a.length<1000000):Cv 220 [aD eH 3 a,aD eH 3 b] J (D (.ofNat (H1 a b))):=by
 refine Aj Tryz.func220 rfl rfl λo n=>?_
 refine cD ?_;refine Bz a.length (λe=>[(0,aD eH 3 a),(1,aD eH 3 b),(5,D (.ofNat e))]) (λe i=>i=J/\H1 a b=e+H1 (a.drop e) (b.drop e)) SL ⟨rfl,(dE _).symm⟩ ?_
 rintro e i m ⟨rfl,f⟩;refine G ?_;refine Gg [(28,.bool (Ms a b e))] ?_ ?_
 ·rcases fI (decide (Int.ofNat e<Int.ofNat a.length))with c|c
  ·rcases fI (decide (Int.ofNat e<Int.ofNat b.length))with d|d
   ·obtain⟨x,j⟩:=Ar (show e<a.length by simpa using c)
    obtain⟨y,k⟩:=Ar (show e<b.length by simpa using d)
    refine X0 ?_;refine V Oq (V Oq (V Oq (V Oq (V Oq (Wn (w:=R2 d c) Oq (Wn (w:=R2 d c) Oq (Wn (w:=R2 d c) Oq ?_)))))));refine Wn (w:=R2 d c) Oq (V (A3 rfl (R2 d c) rfl) (V Oq (Wn (w:=R2 d c) Oq (Wn (w:=R2 d c) Oq (Wn (w:=R2 d c) Oq ?_)))))
    refine Wn (w:=R2 d c) Oq (Wn (w:=R2 d c) Oq (Wn (w:=R2 d c) Oq (Wn (w:=R2 d c) Oq (Wn (w:=R2 d c) Oq ?_))))
    refine Wn (w:=R2 d c) Oq (Wn (w:=R2 d c) Oq (Wn (w:=R2 d c) (H5 aV rfl rfl) (V (A3 rfl (R2 d c) rfl) (C1 ?_))));exact⟨rfl,rfl,⟨⟨congrArg (λb=>some (I.bool b)) (Tm j k).symm,trivial⟩,sb,rfl⟩⟩
   ·refine X0 ?_;refine V Oq (V Oq (V Oq (V Oq (V Oq (Wn (w:=R2 d c) Oq (Wn (w:=R2 d c) Oq (Wn (w:=R2 d c) Oq ?_)))))));refine Wn (w:=R2 d c) Oq (V (A3 rfl (R2 d c) rfl) (V Oq (Wx (w:=R2 d c) (Wx (w:=R2 d c) (Wx (w:=R2 d c) (Wx (w:=R2 d c) (Wx (w:=R2 d c) ?_)))))));refine Wx (w:=R2 d c) (Wx (w:=R2 d c) (Wx (w:=R2 d c) (Wx (w:=R2 d c) (Wx (w:=R2 d c) (Wx (w:=R2 d c) (V (Au rfl (R2 d c) rfl) (C1 ?_)))))));exact⟨rfl,rfl,⟨⟨congrArg (λb=>some (I.bool b)) (Ot (.inr Z)).symm,trivial⟩,sb,rfl⟩⟩
  ·refine X0 ?_;refine V Oq (V Oq (V Oq (V Oq (V Oq (Wx (w:=R1 c) (Wx (w:=R1 c) (Wx (w:=R1 c) ?_)))))));refine Wx (w:=R1 c) (V (Au rfl (R1 c) rfl) (V Oq (Wx (w:=R1 c) (Wx (w:=R1 c) (Wx (w:=R1 c) (Wx (w:=R1 c) (Wx (w:=R1 c) ?_)))))));refine Wx (w:=R1 c) (Wx (w:=R1 c) (Wx (w:=R1 c) (Wx (w:=R1 c) (Wx (w:=R1 c) (Wx (w:=R1 c) (V (Au rfl (R1 c) rfl) (C1 ?_)))))));exact⟨rfl,rfl,⟨⟨congrArg (λb=>some (I.bool b)) (Ot (.inl Z)).symm,trivial⟩,sb,rfl⟩⟩
 refine Ab rfl ?_ ?_<;>intro g
 ·have l:e<a.length:=(RG g).1;refine G7 ?_
  refine⟨l,SL,rfl,by rw[f,SE g];omega⟩
 ·have h:=YU g;refine G7 ?_;refine B4 o rfl ?_
  exact(by rw[f,h];rfl)
def zH:List I:=[.str [],.bool false,nS]
def iQ(o:Option Hp):List I:=match o with|some h=>eH h|none=>zH
theorem Jx(o):(iQ o).length=3:=by cases o<;>rfl
theorem Ve{N}(o):I.unds N (iQ o)=true:=by cases o with|none=>rfl|some h=>exact Mr h
theorem Vf{f J Rr x y m s r}(W:Ah M f x=some (.mp r))(K:B8 hV J r m)(B:Ah M f y=some (sV s)):
  As M Rr (.lookup 221 x y true) f J (.tup [.agg (iQ (m.get s)),.bool (m.get s).isSome]) J:=by
 have:=vY (Rr:=Rr) bI Qo W K B
 have e:((m.get s).map hV).getD (.agg [.str [],.bool false,nS])=.agg (iQ (m.get s)):=by cases m.get s<;>rfl
 grind
theorem JS{f J Rr x y m s r}(W:Ah M f x=some (.mp r))(K:B8 sV J r m)(B:Ah M f y=some (sV s)):
  As M Rr (.lookup 333 x y true) f J (.tup [sV ((m.get s).getD []),.bool (m.get s).isSome]) J:=by
 have:=vY (Rr:=Rr) bI sU W K B
 have e:((m.get s).map sV).getD (.str [])=sV ((m.get s).getD []):=by cases m.get s<;>rfl
 grind
theorem EW(m k h J)(X:Hj J m k):Cv 221 [.agg (eH h),.pv [eJ m]] J (.bool (k.hyps.get h.label).isSome):=by
 refine Aj Tryz.func221 rfl rfl λa c=>?_
 refine G5 ?_;refine Gz 4 zH (iQ (k.hyps.get h.label)) [(5,.bool (k.hyps.get h.label).isSome)] (Ve _) rfl (λa=>?_) ?_
 refine XX 1 (l:=[]) trivial ?_;refine G6 ?_;refine V (Vf rfl X.h rfl) ?_;refine G3 ?_;refine DT (Bu bG) (DT (By (vs:=zH) (vs':=iQ (k.hyps.get h.label)) aG rfl rfl (A7 (Jx _)) Eg (Hh (Jx _))) ?_);refine G2 ?_
 exact⟨(by intro e b;simp at b;rcases b with rfl|rfl<;>first|exact .refl|exact K4 a),⟨rfl,trivial⟩,sb,rfl,rfl⟩
 refine G6 ?_;refine B4 a rfl ?_;exact rfl
def kw(o:Option Hp)(b:Hp):Bool:=match o with|some a=>sK a b|none=>false
theorem R6(o b J)(c:o.isSome=true)(Q:b.text.length<4611686018427387904):Cv 181 [.agg (iQ o),.agg (eH b)] J (.bool (kw o b)):=by
 cases o with
 |none=>cases c
 |some a=>exact vG a b J Q
def IY(h:Hp)(P:Bool):Bool:=((!Mq [2] h.label||(P&& !h.floating))||(h.floating&& !decide (Int.ofNat h.text.length=2)))||(!h.floating&&(decide (Int.ofNat h.text.length=0)||decide ((200:Int)<Int.ofNat h.text.length)))
def uJ(k:Kn)(h:Hp):Int:=if((k.hyps.get h.label).isSome&& !kw (k.hyps.get h.label) h)=true then 6 else 0
def AZ(k:Kn)(l:SM aH)(b a:aH):Bool:=((k.types.get a).isSome&& !decide ((k.types.get a).getD []=b))||((l.get a).isSome&& !decide ((l.get a).getD []=b))
def Vg(k:Kn)(U:SM Bool)(l:SM aH)(h:Hp)(P:Bool):Int:=
 if IY h P=true then 2 else if((k.isSym h.label||k.frames.has h.label)||U.has h.label)=true then 6
 else if h.floating=true then
  if(!k.consts.has (h.text.headD [])|| !k.vars.has (h.text.tail.headD []))=true then 12
  else if AZ k l (h.text.headD []) (h.text.tail.headD [])=true then 11
  else if(l.get (h.text.tail.headD [])).isSome=true then 6 else uJ k h
 else if(!decide (k.textF h.text=0))=true then k.textF h.text else uJ k h
theorem xC(m k L N U R h q s P J)(X:Hj J m k)(d:Fi J L U)(S:B8 sV J N R)(Q:s.length<1000000):Cv 215 [eJ m,.agg [.mp L,.mp N],.agg [sV h,.bool q,Af s],.bool P] J (D (Vg k U R ⟨h,q,s⟩ P)):=by
 refine Aj Tryz.func215 rfl rfl λj T=>?_
 refine fJ ?_;refine Ca (qO h _) ?_;refine G2 ?_;refine cJ 6 ?_ (λH=>?_) ?_
 rotate_left
 ·iterate 2 refine Gn H ?_
  refine Hq 3 _ ?_ rfl rfl rfl rfl rfl (Ft rfl rfl rfl rfl (by rw[H];rfl)) (λH=>?_) (λH=>?_) ?_
  rotate_left
  ·iterate 3 refine Gn H ?_
   refine G ?_;refine⟨rfl,?_,?_⟩
   ·exact sb
   ·exact rfl
  ·iterate 3 refine Gn H ?_
   refine G ?_;exact⟨rfl,sb⟩
  exact Ez
 refine G ?_;refine cJ 8 ?_ (λH=>?_) ?_
 rotate_left
 ·iterate 3 refine Gn H ?_
  refine Hq 4 _ ?_ rfl rfl rfl rfl rfl (Ft rfl rfl rfl rfl (by rw[H];rfl)) (λH=>?_) (λH=>?_) ?_
  rotate_left
  ·iterate 4 refine Gn H ?_
   refine G ?_;refine⟨rfl,?_,?_⟩
   ·exact sb
   ·exact rfl
  ·iterate 4 refine Gn H ?_
   refine G ?_;exact⟨rfl,sb⟩
  exact Ez
 refine G ?_;refine cJ 15 ?_ (λH=>?_) ?_
 rotate_left
 ·iterate 4 refine Gn H ?_
  refine Hq 10 _ ?_ rfl rfl rfl rfl rfl (Ft rfl rfl rfl rfl (by rw[H];rfl)) (λH=>?_) (λH=>?_) ?_
  rotate_left
  ·iterate 5 refine Gn H ?_
   refine Qh 4 _ ?_ rfl rfl rfl rfl rfl (Ft rfl rfl rfl rfl (by rw[H];rfl)) (λH=>?_) (λH=>?_) ?_
   rotate_left
   ·iterate 4 refine Gn H ?_
    refine G ?_;refine⟨rfl,?_,?_⟩
    ·exact sb
    ·exact rfl
   ·iterate 4 refine Gn H ?_
    refine G ?_;exact⟨rfl,sb⟩
   refine G ?_;refine⟨rfl,?_,?_⟩
   ·exact sb
   ·exact rfl
  ·iterate 10 refine Gn H ?_
   refine G ?_;exact⟨rfl,sb⟩
  exact Ez
 refine G ?_;refine Ab rfl ?_ ?_<;>intro o
 ·refine G5 ?_;refine B4 j rfl ?_;exact congrArg D (if_pos o).symm
 ·refine G2 ?_
  refine Gg [(74,.bool ((k.isSym h||k.frames.has h)||U.has h))] ?_ ?_
  ·rcases fI ((k.isSym h))with f|f
   ·refine XS (l:=[(212,[eJ m,sV h],J,.bool (k.isSym h),J)]) ⟨oP m k h J X,trivial⟩ ?_
    iterate 21 refine G ?_
    exact⟨⟨Cb,trivial⟩,sb,rfl⟩
   ·rcases fI ((k.frames.has h))with g|g
    ·refine XS (l:=[(212,[eJ m,sV h],J,.bool (k.isSym h),J)]) ⟨oP m k h J X,trivial⟩ ?_;refine V Oq (V Oq (V Oq (DT Oq (V Oq (Wn (w:=R2 g f) Oq (Wn (w:=R2 g f) Oq (Wn (w:=R2 g f) Oq ?_)))))));refine Wn (w:=R2 g f) Oq (Wn (w:=R2 g f) Oq (Wn (w:=R2 g f) Oq (Wn (w:=R2 g f) (De bI Cr rfl X.f rfl) (V (Au rfl (R2 g f) rfl) (V Oq (Wx (w:=R2 g f) (Wx (w:=R2 g f) ?_)))))));refine Wx (w:=R2 g f) (Wx (w:=R2 g f) (Wx (w:=R2 g f) (V (A3 rfl (R2 g f) rfl) (C1 ?_))));exact⟨⟨congrArg (λb=>some (I.bool b)) (R2 g f),trivial⟩,sb,rfl⟩
    ·refine XS (l:=[(212,[eJ m,sV h],J,.bool (k.isSym h),J)]) ⟨oP m k h J X,trivial⟩ ?_;refine V Oq (V Oq (V Oq (DT Oq (V Oq (Wn (w:=R2 g f) Oq (Wn (w:=R2 g f) Oq (Wn (w:=R2 g f) Oq ?_)))))));refine Wn (w:=R2 g f) Oq (Wn (w:=R2 g f) Oq (Wn (w:=R2 g f) Oq (Wn (w:=R2 g f) (De bI Cr rfl X.f rfl) (V (Au rfl (R2 g f) rfl) (V Oq (Wn (w:=R2 g f) Oq (Wn (w:=R2 g f) Oq ?_)))))));refine Wn (w:=R2 g f) Oq (Wn (w:=R2 g f) Oq (Wn (w:=R2 g f) (De bI Cr rfl d rfl) (V (Au rfl (R2 g f) rfl) (C1 ?_))));exact⟨⟨congrArg (λb=>some (I.bool b)) (R2 g f),trivial⟩,sb,rfl⟩
  refine Ab rfl ?_ ?_<;>intro p
  ·refine G5 ?_;refine B4 j rfl ?_;exact congrArg D ((zJ o).trans (if_pos p)).symm
  ·refine G7 ?_;refine Ab rfl ?_ ?_<;>intro r
   ·have C:q=true:=r;subst C
    obtain⟨y,B,rfl⟩:∃y B,s=[y,B]:=by
     have n:s.length=2:=Z
     match s,n with
     |[a,b],_=>exact⟨a,b,rfl⟩
    refine G ?_
    refine Gg [(98,.bool (!k.consts.has y|| !k.vars.has B))] ?_ ?_
    ·rcases fI ((!k.consts.has y))with u|u
     ·refine X0 ?_;refine G6 ?_;refine V (A1 aJ zF rfl rfl rfl (i:=0)) ?_
      refine G ?_;refine V (De bI Cr rfl X.c rfl) ?_
      iterate 14 refine G ?_
      exact⟨rfl,rfl,⟨⟨Cb,trivial⟩,sb,rfl⟩⟩
     ·refine X0 ?_;refine G6 ?_;refine V (A1 aJ zF rfl rfl rfl (i:=0)) ?_
      refine G ?_;refine V (De bI Cr rfl X.c rfl) ?_;refine G8 ?_;refine Xn (A1 aJ zF rfl rfl rfl (i:=1)) ?_
      refine G ?_;refine Wn (w:=R1 u) (De bI Cr rfl X.v rfl) (Wn (w:=R1 u) Oq (V (Au rfl (R1 u) rfl) (C1 ?_)));exact⟨rfl,rfl,⟨⟨congrArg (λb=>some (I.bool b)) (R1 u),trivial⟩,sb,rfl⟩⟩
    refine Ab rfl ?_ ?_<;>intro n
    ·refine G5 ?_;refine B4 j rfl ?_;exact congrArg D ((zJ o).trans ((zJ p).trans ((if_pos r).trans (if_pos n)))).symm
    ·refine G2 ?_;refine X0 ?_;refine G4 ?_;refine V (A1 aJ zF rfl rfl rfl (i:=1)) ?_
     refine G ?_;refine V (JS rfl S rfl) ?_;refine G6 ?_;refine⟨rfl,rfl,?_⟩;refine G2 ?_;refine X0 ?_;refine G6 ?_;refine V (A1 aJ zF rfl rfl rfl (i:=1)) ?_
     refine G ?_;refine V (JS rfl X.t rfl) ?_;refine G6 ?_;refine⟨rfl,rfl,?_⟩;refine G4 ?_;refine fZ 6 ?_ (λH=>?_) ?_
     rotate_left
     ·iterate 3 refine Gn H ?_
      refine On H (A1 aJ zF rfl rfl rfl (i:=0)) ?_
      refine Gn H ?_;refine On H (Ko aV rfl rfl) ?_;exact Ez
     refine G ?_;refine cJ 9 ?_ (λH=>?_) ?_
     rotate_left
     ·iterate 2 refine Gn H ?_
      refine Hq 6 _ ?_ rfl rfl rfl rfl rfl (Ft rfl rfl rfl rfl (by rw[H];rfl)) (λH=>?_) (λH=>?_) ?_
      rotate_left
      ·iterate 3 refine Gn H ?_
       refine On H (A1 aJ zF rfl rfl rfl (i:=0)) ?_
       refine Gn H ?_;refine On H (Ko aV rfl rfl) ?_;refine G ?_;refine⟨rfl,?_,?_⟩
       ·exact sb
       ·exact rfl
      ·iterate 6 refine Gn H ?_
       refine G ?_;exact⟨rfl,sb⟩
      exact Ez
     refine G ?_;refine Ab rfl ?_ ?_<;>intro t
     ·refine G5 ?_;refine B4 j rfl ?_;exact congrArg D ((zJ o).trans ((zJ p).trans ((if_pos r).trans ((zJ n).trans (if_pos t))))).symm
     ·refine G5 ?_;refine Ab rfl ?_ ?_<;>intro E
      ·refine G5 ?_;refine B4 j rfl ?_;exact congrArg D ((zJ o).trans ((zJ p).trans ((if_pos r).trans ((zJ n).trans ((zJ t).trans (if_pos E)))))).symm
      ·refine G2 ?_;refine Gz 14 zH (iQ (k.hyps.get h)) [(15,.bool (k.hyps.get h).isSome)] (Ve _) rfl (λj=>?_) ?_
       refine XX 1 (l:=[]) trivial ?_;refine G6 ?_;refine V (Vf rfl X.h rfl) ?_;refine G3 ?_;refine DT (Bu bG) (DT (By (vs:=zH) (vs':=iQ (k.hyps.get h)) aG rfl rfl (A7 (Jx _)) Eg (Hh (Jx _))) ?_);refine G2 ?_
       exact⟨(by intro e x;simp at x;rcases x with rfl|rfl<;>first|exact .refl|exact K4 j),⟨rfl,trivial⟩,sb,rfl,rfl⟩
       refine G4 ?_;refine fZ 4 ?_ (λH=>?_) ?_
       rotate_left
       ·refine On H (Ac (v:=.agg (iQ (k.hyps.get h))) aG rfl rfl (Wz (Jx _))) ?_;refine Gn H ?_
        refine Bh rfl rfl rfl (by rw[H];rfl) rfl rfl rfl rfl (R6 _ ⟨h,true,[y,B]⟩ _ H zS) ?_
        refine Gn H ?_;exact Ez
       refine G ?_;refine Ab rfl ?_ ?_<;>intro K
       ·refine G5 ?_;refine B4 j rfl ?_;exact congrArg D ((zJ o).trans ((zJ p).trans ((if_pos r).trans ((zJ n).trans ((zJ t).trans ((zJ E).trans (if_pos K))))))).symm
       ·refine G6 ?_;refine B4 j rfl ?_;exact congrArg D ((zJ o).trans ((zJ p).trans ((if_pos r).trans ((zJ n).trans ((zJ t).trans ((zJ E).trans (zJ K))))))).symm
   ·refine G5 ?_;refine Ca (tY m k s _ X z) ?_;refine G7 ?_;refine Ab rfl ?_ ?_<;>intro n
    ·refine G6 ?_;refine B4 j rfl ?_;exact congrArg D ((zJ o).trans ((zJ p).trans ((zJ r).trans (if_pos n)))).symm
    ·refine G2 ?_;refine Gz 14 zH (iQ (k.hyps.get h)) [(15,.bool (k.hyps.get h).isSome)] (Ve _) rfl (λj=>?_) ?_
     refine XX 1 (l:=[]) trivial ?_;refine G6 ?_;refine V (Vf rfl X.h rfl) ?_;refine G3 ?_;refine DT (Bu bG) (DT (By (vs:=zH) (vs':=iQ (k.hyps.get h)) aG rfl rfl (A7 (Jx _)) Eg (Hh (Jx _))) ?_);refine G2 ?_
     exact⟨(by intro e x;simp at x;rcases x with rfl|rfl<;>first|exact .refl|exact K4 j),⟨rfl,trivial⟩,sb,rfl,rfl⟩
     refine G4 ?_;refine fZ 4 ?_ (λH=>?_) ?_
     rotate_left
     ·refine On H (Ac (v:=.agg (iQ (k.hyps.get h))) aG rfl rfl (Wz (Jx _))) ?_;refine Gn H ?_
      refine Bh rfl rfl rfl (by rw[H];rfl) rfl rfl rfl rfl (R6 _ ⟨h,q,s⟩ _ H Z) ?_
      refine Gn H ?_;exact Ez
     refine G ?_;refine Ab rfl ?_ ?_<;>intro t
     ·refine G5 ?_;refine B4 j rfl ?_;exact congrArg D ((zJ o).trans ((zJ p).trans ((zJ r).trans ((zJ n).trans (if_pos t))))).symm
     ·refine G6 ?_;refine B4 j rfl ?_;exact congrArg D ((zJ o).trans ((zJ p).trans ((zJ r).trans ((zJ n).trans (zJ t))))).symm
theorem GD(m k a b U l h P J)(X:Hj J m k)(d:Fi J a U)(c:B8 sV J b l)(Q:h.text.length<1000000):
  Cv 215 [eJ m,.agg [.mp a,.mp b],.agg (eH h),.bool P] J (D (Vg k U l h P)):=xC m k a b U l h.label h.floating h.text P J X d c Q
theorem LP{f:Nat}{a J v}(p:yr M.P f)(h:∀C w (b:Array Value),RL C (O J) w a b.toList->∃x,Calls M.P f b w (λe c=>e=.returned x/\c=w)/\R C (O J) w v x):Al M f a J λu U=>u=v/\U=J:=by
 intro C w b k H i;obtain⟨x,d,g⟩:=h C w b i;refine⟨p,d.mono λe c j=>?_⟩
 obtain⟨rfl,rfl⟩:=j;exact⟨v,J,C,⟨rfl,rfl⟩,k,dJ _ _ _,g⟩
theorem GE{C N w s x}(h:R C N w (sV s) x):∃b:ByteArray,x=.string b/\b.data.toList=s:=by
 unfold sV R at h;obtain⟨b,a,c⟩:=h;exact⟨b,a,Fu.1 c⟩
theorem OB{C N w a b c}(h:RL C N w [a,b] c.toList):∃x y,c=#[x,y]/\R C N w a x/\R C N w b y:=by
 obtain⟨l⟩:=c
 match l,h with
 |[],h=>unfold RL at h;exact h.elim
 |[_],h=>unfold RL at h;have:=h.2;unfold RL at this;exact this.elim
 |[x,y],h=>unfold RL at h;have:=h.2;unfold RL at this;exact⟨x,y,rfl,h.1,this.1⟩
 |_::_::_::_,h=>unfold RL at h;have:=h.2;unfold RL at this;have:=this.2;unfold RL at this;exact this.elim
theorem xM(s t J):Cv 271 [sV s,sV t] J (D (Lib.compareBytes s t)):=by
 refine LP ⟨_,Tryz.func271,rfl,rfl⟩ λC w f c=>?_
 obtain⟨x,y,rfl,d,e⟩:=OB c;obtain⟨a,rfl,rfl⟩:=GE d;obtain⟨b,rfl,rfl⟩:=GE e
 exact⟨_,Tryz.strings_Compare a b w,by unfold D R;rfl⟩
def nW(m:SM Bool):List aH->SM Bool×Nat->SM Bool×Nat
 |[],q=>q
 |s::r,q=>nW m r (if m.has s then(q.1.put s true,q.2+1)else q)
def mC(m:SM Bool):List (List aH)->SM Bool×Nat->SM Bool×Nat
 |[],q=>q
 |t::r,q=>mC m r (nW m t q)
def xg(m:SM Bool)(a:List (List aH)):SM Bool:=(mC m a ([],0)).1
def Sg(m:SM Bool)(a:List (List aH)):AO:=.map 9 (Cn bV (xg m a)) (mC m a ([],0)).2
theorem DK{N}(m):Jc N (Cn bV m)=true:=QR zF m
theorem ye(r m a J)(K:Fi J r m)(hb:a.length<2000000)(o:∀t∈a,t.length<1000000):Al M 247 [.mp r,aD eL 1 a] J λv U=>v=.mp (O J)/\U=J.new (Sg m a):=by
 refine Aj Tryz.func247 rfl rfl λT aa=>?_
 refine G6 ?_;refine A (Gx Cr) ?_;refine cD ?_
 refine Bz a.length (λf=>[(0,.mp r),(5,.mp (O J)),(11,aD eL 1 a),(12,D (.ofNat a.length)),(13,D (.ofNat f))]) (λf u=>O J<O u/\Below (O J) J u/\∃q,u.get (O J)=some (.map 9 (Cn bV q.1) q.2)/\mC m a ([],0)=mC m (a.drop f) q) SL ⟨by rw[Ao];omega,Below.rfl'.new Y _,([],0),by rw[a5,if_pos rfl];rfl,rfl⟩ ?_
 rintro f u a8 ⟨l,P,L,n,k⟩;refine G5 ?_;refine Ab rfl ?_ ?_<;>intro Q
 ·have N:f<a.length:=by simpa using Q
  obtain⟨b,i⟩:=Ar N;have C:=A4 i;have a7:=o b (bA i)
  iterate 16 refine G ?_
  refine Bz b.length (λg=>[(0,.mp r),(5,.mp (O J)),(11,aD eL 1 a),(12,D (.ofNat a.length)),(13,D (.ofNat f)),(17,Af b),(18,D (.ofNat b.length)),(19,D (.ofNat g))]) (λg h=>O J<O h/\Below (O J) J h/\∃q,h.get (O J)=some (.map 9 (Cn bV q.1) q.2)/\nW m b L=nW m (b.drop g) q) SL ⟨l,P,L,n,rfl⟩ ?_
  rintro g h a9 ⟨d,w,x,e,c⟩;refine G5 ?_;refine Ab rfl ?_ ?_<;>intro R
  ·have y:g<b.length:=by simpa using R
   obtain⟨W,B⟩:=Ar y;have j:=A4 B;have hr:=K.lt T;have E:Fi h r m:=K.of_get (w.2 r hr)
   iterate 13 refine G ?_
   refine A (De bI Cr rfl E rfl) ?_;refine G ?_;refine Ab rfl ?_ ?_<;>intro S
   ·refine G3 ?_
    refine A (Gh (v:=true) bI Cr rfl e rfl rfl (λte p s=>by first|exact I0 p s|exact I1 p s|exact I2 p s|exact Jn p s|exact H6 p s rfl)) ?_
    refine G5 ?_
    refine⟨y,SL,by rw[Aq];exact d,w.set Y _,(x.1.put W true,x.2+1),by rw[aU,if_pos rfl],by rw[c,j,nW,if_pos S]⟩
   ·refine G5 ?_
    refine⟨y,SL,d,w,x,e,by rw[c,j,nW,if_neg (by rw[S];simp)]⟩
  ·have X:b.length<=g:=by simpa using R
   refine G5 ?_
   refine⟨N,SL,d,w,x,e,by rw[k,C,mC,c,cv X];rfl⟩
 ·have bj:a.length<=f:=by simpa using Q
  refine G6 ?_
  have hq:mC m a ([],0)=L:=by rw[k,cv bj];rfl
  subst hq;refine G ?_
  exact⟨_,rfl,_,J.new (Sg m a),Ds.newMap T P n l (DK _),by rw[Ao];exact kG _,.same (Ce (by rw[Ao];exact eU _)),rfl,rfl⟩
def nL(p q:Pr):Int:=if(!decide (Lib.compareBytes p.a q.a=0))=true then Lib.compareBytes p.a q.a else Lib.compareBytes p.b q.b
theorem DV(p q J):Cv 249 [.agg (eP p),.agg (eP q)] J (D (nL p q)):=by
 refine Aj Tryz.func249 rfl rfl λb d=>?_
 iterate 13 refine G ?_
 refine Ca (xM p.a q.a _) ?_;refine G7 ?_;refine Ab rfl ?_ ?_<;>intro a
 ·refine G6 ?_;refine B4 b rfl ?_;exact congrArg D (if_pos a).symm
 ·refine G7 ?_;refine Ca (xM p.b q.b _) ?_;refine G3 ?_;refine B4 b rfl ?_;exact congrArg D (zJ a).symm
end Go.AM

