/- A part of the proof; shortened by program. -/
import Derived.Test.YtmkaboegdoadhaaGreatDoorP18
set_option maxRecDepth 100000
set_option maxHeartbeats 4000000
set_option linter.all false
namespace Go.AM
open Go Go.Proofs
theorem ID(l s a p J)(H:J.get a=some (.cells (l.flatMap e1++p)))(Q:l.length<1000000):Cv 56 [.sr a 0 1 l.length none,sV s] J (D (A5 (λx=>decide (s=x)) l 0)):=by
 refine Aj Tryz.func56 rfl rfl λk o=>?_
 refine G8 ?_;refine A (Bf bF rfl rfl rfl) ?_;refine G3 ?_;refine Bz l.length (λc=>[(0,.sr a 0 1 l.length none),(1,sV s),(7,D (.ofNat l.length)),(8,D (.ofNat c))]) (λc h=>h=J/\A5 (λx=>decide (s=x)) l 0=A5 (λx=>decide (s=x)) (l.drop c) c) SL ⟨rfl,rfl⟩ ?_
 rintro c h n ⟨rfl,b⟩;refine G5 ?_;refine Ab rfl ?_ ?_<;>intro i
 ·have g:c<l.length:=by simpa using i
  obtain⟨f,d⟩:=Ar g;have e:=A4 d
  iterate 13 refine G ?_
  refine A (Br aJ rfl rfl g) (A (Dg (enc:=e1) (v:=sV f) zF aG rfl H d zF) ?_)
  refine G2 ?_;refine Ab rfl ?_ ?_<;>intro j
  ·refine G6 ?_;refine B4 k rfl ?_
   exact(by rw[b,e];simp only[A5,show decide (s=f)=true from j,cond_true];rfl)
  ·refine G5 ?_
   refine⟨g,SL,rfl,by rw[b,e];simp only[A5,show decide (s=f)=false from j,cond_false]⟩
 ·have m:l.length<=c:=by simpa using i
  refine G6 ?_;refine B4 k rfl ?_
  exact(by rw[b,cv m];rfl)
theorem CX(l:List aH)(s a b J)(H:J.get a=some (.cells (l.flatMap e1++b)))(Q:l.length<1000000):Cv 15 [.sr a 0 1 l.length none,sV s] J (.bool (l.any λx=>decide (s=x))):=by
 refine Aj Tryz.func15 rfl rfl λd c=>?_
 refine G8 ?_;refine Ca (ID l s a b _ H Q) ?_;refine G4 ?_;refine B4 d rfl ?_;exact congrArg I.bool (Gf l)
theorem lF{N}(l s v J)(h:aW J N e1 1 l v)(Q:l.length<1000000):Al M 15 [v,sV s] J λu b=>u=.bool (l.any λx=>decide (s=x))/\b=J:=by
 rcases h with⟨rfl,rfl|rfl⟩|⟨a,c,_,_,rfl,H⟩
 ·exact(pQ [] s J zS).wk (.cons yZ .refl)
 ·exact(pQ [] s J zS).wk (.cons Dv .refl)
 ·exact CX l s a c J H Q
def Il(l:List Hp)(m:SM Hp):SM Hp:=l.foldl (λm h=>m.put (bS h) h) m
theorem Afi:∀{l:List Hp} {m:SM Hp} {v:aH},(∃h∈l,bS h=v)->∃h∈l,(Il l m).get v=some h/\bS h=v
 |[],_,_,⟨_,h,_⟩=>by cases h
 |x::l,m,v,i=>by
  by_cases c:∃h∈l,bS h=v
  ·obtain⟨h,f,g⟩:=Afi (m:=m.put (bS x) x) c;exact⟨h,ch _ f,g⟩
  ·obtain⟨h,d,e⟩:=i
   rcases bN.1 d with rfl|d
   ·refine⟨h,cX ..,?_,e⟩
    show(Il l (m.put (bS h) h)).get v=some h
    have b:∀{l:List Hp} {m:SM Hp},(∀y∈l,bS y≠v)->(Il l m).get v=m.get v:=by
     intro l
     induction l with
     |nil=>intro m _;rfl
     |cons y l k=>
      intro m a
      show(Il l (m.put (bS y) y)).get v=_
      rw[k (λn j=>a n (ch _ j)),dP,if_neg (mq (a y (cX ..)))]
    rw[b (λy a e=>c ⟨y,a,e⟩),dP,if_pos e.symm]
   grind
def zG:Gr:=⟨[],[]⟩
def Vk(g:Gr)(k:aH):List aH:=if(!(g.sorts.any λx=>decide (k=x)))=true then g.sorts++[k]else g.sorts
def pF(h:Hp)(v:aH)(g:Gr):Gr:=⟨Vk g (h.text.headD []),g.rules++[⟨h.label,h.text.headD [],[⟨v,[],0⟩],true⟩]⟩
def Kw(B:SM Hp):List aH->Gr->Option Gr
 |[],g=>some g
 |v::r,g=>match B.get v with
  |none=>none
  |some h=>if decide (h.text.headD []=[124,45])=true then none else Kw B r (pF h v g)
def oY(f:Fr)(g:Gr):Bool:=(f.thm||f.hyps.any (λh=> !h.floating))|| !(g.sorts.any λx=>decide (f.text.headD []=x))
def F6:List Fr->Gr->Option Gr
 |[],g=>some g
 |f::r,g=>if oY f g=true then F6 r g else match Hs f with
  |none=>none
  |some a=>F6 r ⟨g.sorts,g.rules++[a]⟩
def aM(d:Db):Gr×Int:=
 if(!decide (Ea d=0))=true then(zG,Ea d)
 else match Kw (Il (Bt d) []) d.vars zG with
  |none=>(zG,11)
  |some g=>match F6 d.frames g with
   |none=>(zG,150)
   |some g=>if(!decide (Eb g=0))=true then(zG,4)else(g,0)
def mZ(r:Rl):List I:=[sV r.label,sV r.sort,.sv (r.parts.flatMap cL) 3 r.parts.length (if r.var=true then some 1 else none),.bool r.var]
theorem Axi{J U}(r):cH J U (mZ r) (eR r):=.cons (.same rfl) (.cons (.same rfl) (.cons (.sv Z (.same (A2 DZ _))) (.cons (.same rfl) .nil)))
theorem PH{f r}(h:Hs f=some r):r.var=false:=by
 unfold Hs at h
 grind
theorem UW{r}(h:r.var=false):mZ r=eR r:=by unfold mZ eR aD;rw[h];rfl
theorem Ahb{J k}:∀{l:List aH} {a:SM Bool} {b q:List Pt},axP J k l a b=some q->q.length=b.length+l.length
 |[],_,b,q,h=>by cases h;rfl
 |s::l,a,b,q,h=>by
  unfold axP at h
  split at h
  ·have:=Ahb h;grind
  ·split at h
   ·cases h
   ·have:=Ahb h;grind
theorem UL{f r}(h:Hs f=some r):r.parts.length<=f.text.length:=by
 unfold Hs at h
 split at h
 ·cases h
 ·rename_i b a;cases h
  have:=Ahb a
  grind
theorem NA{e k f b}(h:E9 e k f b=0):∃g i,f.text=g::i:=by
 have c:(k.fr f.label).textF f.text=0:=by
  unfold E9 at h
  grind
 cases d:f.text with
 |nil=>unfold Kn.textF at c;rw[d]at c;simp at c
 |cons a l=>exact⟨a,l,rfl⟩
theorem VN{c d}(h:Fy c d=0){f}(N:f∈d.frames):∃e g,f.text=e::g:=by
 obtain⟨i,a,_,b⟩:=To (rJ h) f N;exact NA b
theorem rZ{d}(h:Ea d=0):Fy Fb d=0/\(∀x∈Bt d,∃a b,x.text=[a,b])/\∀v∈d.vars,∃x∈Bt d,bS x=v:=by
 unfold Ea at h
 split at h
 ·rename_i c
  split at h
  ·rename_i g
   obtain⟨l,f⟩:=gV.1 g
   have e:Bt d=l:=by unfold Bt;grind
   rw[e];exact⟨c,VJ c f⟩
  ·cases h
 grind
theorem Ajf{R s}:∀{n:Nat} {done:SM Bool} {a l:List Hp},W7 R s n done a=some l->l.length=a.length+n
 |0,_,_,_,e=>by cases e;rfl
 |n+1,done,a,l,e=>by
  unfold W7 at e
  split at e
  ·cases e
  ·split at e
   ·cases e
   ·rw[Ajf e,gW];simp;omega
theorem Ajg(d):(Bt d).length<=d.vars.length:=by
 unfold Bt
 split
 ·cases a:Fa d with
  |none=>simp
  |some l=>
   show l.length<=_
   unfold Fa at a
   split at a
   ·grind
   ·split at a
    ·cases a
    ·rw[Ajf a];simp
 ·simp
def I9:List I:=[nS,nS]
structure ll (J U:F)(hy:SM Hp)(g:Gr)(vS vR:I):Prop where
 n:O J+3<=O U
 g0:∀b,b<O J->U.get b=J.get b
 t:U.get (O J)=some (.cells I9)
 m:B8 hV U (O J+1) hy
 c:U.get (O J+2)=some (.cells [vS,vR])
 s:aW U (O J+3) e1 1 g.sorts vS
 r:aW U (O J+3) mZ 4 g.rules vR
 d:∀a b x y,vS=.sr a 0 1 x none->vR=.sr b 0 4 y none->a≠b
theorem AG{J N T a C c}{l:List C}{v}(h:aW J N c T l v){n}(e:v=.sr a 0 T n none):N<=a/\a<O J:=by
 rcases h with⟨_,rfl|rfl⟩|⟨b,i,d,f,g,_⟩
 ·cases e
 ·cases e
 grind
theorem ll.addS{J U B g n j}(h:ll J U B g n j)(k)(q:(g.sorts.length+1)*(16+1)<=az):
  ∃d f,B6 U 1 16 n 1 (e1 k)=some (f,d)/\f.cellsN 1=some [f]/\d.get (O J+2)=some (.cells [n,j])/\ll J (d.set (O J+2) (.cells [f,j])) B ⟨g.sorts++[k],g.rules⟩ f j:=by
 have u:=h.n
 obtain⟨d,s,C,E,t,o⟩:=aW.app1 (sz:=1) (enc:=e1) (by':=16) zF (show O J+3<=O U from u) h.s k q
 have i:∀b,b<O J+3->d.get b=U.get b:=λb p=>o b z λc m e=>by have:=(AG h.s m).1;omega
 refine⟨d,_,s,rfl,(i _ z).trans h.c,⟨Z,λb p=>by rw[aU,if_neg z,i b z];exact h.g0 b p,by rw[aU,if_neg z,i _ z];exact h.t,(h.m.of_get (i _ z)).set z,Z,t.mono Z Z,?_,λa b x y l r=>?_⟩⟩
 ·refine h.r.mono Z λa K v G w _=>?_
  rw[aU,if_neg z];exact o a w λc m e=>h.d c a _ _ m v e.symm
 ·cases l;have:=(AG h.r r).2;omega
theorem ll.addR{J U B g j m}(h:ll J U B g j m)(r)(p:(g.rules.length+1)*(64+1)<=az):
  ∃d f,B6 U 4 64 m 1 (mZ r)=some (f,d)/\f.cellsN 1=some [f]/\d.get (O J+2)=some (.cells [j,m])/\ll J (d.set (O J+2) (.cells [j,f])) B ⟨g.sorts,g.rules++[r]⟩ j f:=by
 have u:=h.n
 obtain⟨d,s,C,E,t,n⟩:=aW.app1 (sz:=4) (enc:=mZ) (by':=64) zF (show O J+3<=O U from u) h.r r p
 have i:∀b,b<O J+3->d.get b=U.get b:=λb o=>n b z λc l e=>by have:=(AG h.r l).1;omega
 refine⟨d,_,s,rfl,(i _ z).trans h.c,⟨Z,λb o=>by rw[aU,if_neg z,i b z];exact h.g0 b o,by rw[aU,if_neg z,i _ z];exact h.t,(h.m.of_get (i _ z)).set z,Z,?_,t.mono Z Z,λa b x y k q=>?_⟩⟩
 ·refine h.s.mono Z λa K v G w _=>?_
  rw[aU,if_neg z];exact n a w λc l e=>h.d a c _ _ v l e
 ·cases q;have:=(AG h.s k).2;omega
theorem VA{g d}(h:Fy g d=0){f}(N:f∈d.frames)(c:(f.hyps.any λh=> !h.floating)=false):∀x∈f.hyps,∃a b,x.text=[a,b]:=λx e=>by
 refine((Vh h N).1 x (by simp[Fr.all,e]) ?_).1
 grind
theorem UE(o):yx o=.tup [.agg (eR (o.getD ⟨[],[],[],false⟩)),.bool o.isSome]:=by cases o<;>rfl
theorem ZX{N}(g i):I.und N (.tup [gY g,D i])=true:=by
 show((I.und N (Af g.sorts)&&(I.und N (aD eR 4 g.rules)&&true))&&(true&&true))=true
 rw[show I.und N (Af g.sorts)=true from Fv D9 _,Fv Vj];rfl
theorem Ar9{J}(i:bY J):bY (J.new (.cells I9)):=i.new rfl trivial
theorem uS(f J k)(x:qZ f)(U:∃d,f.text=k::d)(c:∀h∈f.hyps,∃a b,h.text=[a,b]):Cv 116 [.agg (eF f)] J (.tup [.agg (eR ((Hs f).getD ⟨[],[],[],false⟩)),.bool (Hs f).isSome]):=by
 rw[<-UE];exact FI f J k x U c
theorem PJ(d J)(hB:nE d)(l8:d.vars.length+d.frames.length<1000000):Cv 66 [fy d] J (.tup [gY (aM d).1,D (aM d).2]):=by
 refine Aj Tryz.func66 rfl rfl λhw l7=>?_
 refine G3 ?_;refine A (Bu bG) ?_;refine G5 ?_;refine Ca (DG d _ hB) ?_;refine cG ?_;refine Ab rfl ?_ ?_<;>intro h1
 ·refine G4 ?_
  refine A (By (ad:=O J) (off:=0) (vs:=I9) (vs':=I9) (cs:=I9) aG rfl rfl rfl (by simp only[F.cells];rw[a5,if_pos rfl];rfl) rfl) ?_
  refine G2 ?_;have S:aM d=(zG,Ea d):=if_pos h1;refine G ?_
  exact⟨[.agg I9,D (Ea d)],Am (aG (t:=141)) rfl (by simp only[F.cells];rw[aU,if_pos rfl]) rfl (Ba rfl rfl),.tup [gY zG,D (Ea d)],J,bL hw ⟨Z,Z⟩,Y,.tup (.cons (.agg (.cons Ex (.cons Ex .nil))) (.cons (.same rfl) .nil)),by rw[S],rfl⟩
 ·have ax:Ea d=0:=Z;obtain⟨an,bs,jy⟩:=rZ ax;have al:=Ajg d;have iw:=hB.v;have ij:=hB.n;refine G3 ?_;refine A (Cd (n:=O J+1) Qo (fN rfl)) ?_;refine cD ?_
  refine Bz (Bt d).length (λi0=>[(1,.pv [Af d.consts,Af d.vars,aD eF 8 d.frames]),(2,.pr (O J) 0),(6,.mp (O J+1)),(28,aD eH 3 (Bt d)),(29,D (.ofNat (Bt d).length)),(30,D (.ofNat i0))]) (λi0 J0=>O J0=O J+2/\J0.get (O J)=some (.cells I9)/\(∀b,b<O J->J0.get b=J.get b)/\∃m,B8 hV J0 (O J+1) m/\(Il (Bt d) [])=Il ((Bt d).drop i0) m) SL ⟨Z,by rw[a5,if_neg Z,a5,if_pos rfl];rfl,Z,[],⟨0,by rw[a5,if_pos (by rw[Ao])];rfl⟩,rfl⟩ ?_
  rintro i0 J0 jc ⟨am,ap,bx,m,af,ak⟩;refine G5 ?_;refine Ab rfl ?_ ?_<;>intro h2
  ·have bc:i0<(Bt d).length:=Z;obtain⟨a0,ai⟩:=Ar bc;have aw:=A4 ai;obtain⟨B,u1,ao⟩:=bs a0 (bA ai);obtain⟨vm,dg⟩:=id af;refine G9 ?_;refine XS (l:=[]) trivial ?_;refine G3 ?_
   refine V (A1 aJ zF rfl rfl (by grind:a0.text[1]? =some u1) (i:=1)) ?_
   refine G2 ?_
   refine DT (Gh (v:=a0) bI Qo rfl dg rfl rfl (λte k1 k2=>by first|exact I0 k1 k2|exact I1 k1 k2|exact I2 k1 k2|exact Jn k1 k2|exact H6 k1 k2 rfl)) ?_
   refine G5 ?_
   refine⟨bc,SL,Z,Z,Z,m.put u1 a0,iH,by rw[ak,aw];show Il _ (m.put (bS a0) a0)=_;rw[Z2 ao]⟩
  ·have bj:(Bt d).length<=i0:=Z
   have bp:(Il (Bt d) [])=m:=by rw[ak,cv bj];rfl
   rw[<-bp]at af;refine G4 ?_
   refine A (Bj (n:=O J+2) bG am) (A (By (ad:=O J+2) (off:=0) (vs:=I9) (vs':=I9) (cs:=I9) aG rfl rfl rfl (by simp only[F.cells];rw[a5,if_pos am.symm];rfl) rfl) ?_)
   refine G9 ?_
   have er:∃g k y,ll J ((J0.new (.cells I9)).set (O J+2) (.cells I9)) (Il (Bt d) []) g k y/\g.sorts.length<=0/\g.rules.length<=0/\(∀r∈g.rules,r.parts.length<1000000)/\Kw (Il (Bt d) []) d.vars zG=Kw (Il (Bt d) []) (d.vars.drop 0) g:=by
    have ae:∀b,b<O J+2->((J0.new (.cells I9)).set (O J+2) (.cells I9)).get b=J0.get b:=Z
    exact⟨zG,nS,nS,⟨Z,λb hb=>(ae b z).trans (bx b hb),(ae _ z).trans ap,af.of_get (ae _ z),by rw[aU,if_pos rfl];rfl,.nil,.nil,Z⟩,Y,Y,λr hr=>(by cases hr),rfl⟩
   refine G ?_;refine Bz d.vars.length (λi2=>[(1,.pv [Af d.consts,Af d.vars,aD eF 8 d.frames]),(2,.pr (O J) 0),(6,.mp (O J+1)),(9,.pr (O J+2) 0),(43,Af d.vars),(44,D (.ofNat d.vars.length)),(45,D (.ofNat i2))]) (λi2 J2=>∃g k y,ll J J2 (Il (Bt d) []) g k y/\g.sorts.length<=i2/\g.rules.length<=i2/\(∀r∈g.rules,r.parts.length<1000000)/\Kw (Il (Bt d) []) d.vars zG=Kw (Il (Bt d) []) (d.vars.drop i2) g) SL er ?_
   rintro i2 J2 kf ⟨g,k,y,p,ag,d4,Q,U⟩;refine G5 ?_;refine Ab rfl ?_ ?_<;>intro h3
   ·have bv:i2<d.vars.length:=Z;obtain⟨R,aj⟩:=Ar bv;have aa:=A4 aj;obtain⟨x2,ey,gz⟩:=jy R (bA aj);obtain⟨E,cx,X,j0⟩:=Afi (m:=[]) ⟨x2,ey,gz⟩;obtain⟨B,u1,ao⟩:=bs E cx;have hu:E.text.headD []=B:=Z
    iterate 13 refine G ?_
    refine A (Nr bI Qo rfl p.m rfl X) ?_;refine G7 ?_
    refine A (A1 aJ zF rfl rfl (by grind:E.text[0]? =some B) (i:=0)) ?_
    refine G ?_;refine A (H5 (q:=[124,45]) aV rfl rfl) ?_;refine G ?_;refine Ab rfl ?_ ?_<;>intro h4
    ·refine G3 ?_
     refine A (By (ad:=O J) (off:=0) (vs:=I9) (vs':=I9) (cs:=I9) aG rfl rfl rfl (by simp only[F.cells,p.t]) rfl) ?_
     refine G2 ?_
     have d9:Kw (Il (Bt d) []) d.vars zG=none:=by rw[U,aa,Kw,X];grind
     have S:aM d=(zG,11):=(if_neg (λhc=>Bool.noConfusion (h1.symm.trans hc))).trans (by rw[d9])
     refine G ?_
     exact⟨[.agg I9,D (11)],Am (aG (t:=141)) rfl (by simp only[F.cells];rw[aU,if_pos rfl]) rfl (Ba rfl rfl),.tup [gY zG,D (11)],J,bL hw ⟨by rw[Aq];have:=p.n;omega,λb hb=>by rw[aU,if_neg z];exact p.g0 b hb⟩,Y,.tup (.cons (.agg (.cons Ex (.cons Ex .nil))) (.cons (.same rfl) .nil)),by rw[S],rfl⟩
    ·refine G3 ?_;refine XS (l:=[(15,[k,sV B],J2,.bool (g.sorts.any λx=>decide (B=x)),J2)]) ⟨lF g.sorts B k J2 p.s z,trivial⟩ ?_
     refine G ?_
     refine V (Ac (u:=.pr (O J+2) 0) (cs:=[k,y]) aG rfl (by simp only[Em,F.cells,p.c];rfl) rfl) ?_
     refine G2 ?_
     refine V (A1 aJ zF rfl rfl (by grind:E.text[0]? =some B) (i:=0)) ?_
     refine G4 ?_;refine Ab rfl ?_ ?_<;>intro h5
     ·obtain⟨J3,v1,a7,a8,au,ah⟩:=p.addS B (by simp[az];omega)
      obtain⟨J5,v2,jh,a9,P,C⟩:=ah.addR (⟨E.label,B,[⟨R,[],0⟩],true⟩:Rl) (by simp[az];omega)
      have eu:∀r∈g.rules++[(⟨E.label,B,[⟨R,[],0⟩],true⟩:Rl)],r.parts.length<1000000:=Z;refine XS (l:=[]) trivial ?_;refine G ?_
      refine V (Ac (u:=.pr (O J+2) 0) (cs:=[k,y]) aG rfl (by simp only[Em,F.cells,p.c];rfl) rfl) ?_
      refine G2 ?_
      refine V (A1 aJ zF rfl rfl (by grind:E.text[0]? =some B) (i:=0)) ?_
      refine G ?_;refine V (Ai aJ bM rfl rfl rfl) (DT (Av aJ rfl bF rfl rfl rfl (new:=e1 B) rfl a7) ?_);refine G ?_
      refine DT (By (ad:=O J+2) (off:=0) (vs:=[k,y]) (vs':=[v1,y]) (cs:=[v1]) aG rfl rfl a8 (by simp only[F.cells,au]) rfl) ?_
      refine G ?_;refine XS (l:=[]) trivial ?_;refine G ?_
      refine V (Ac (u:=.pr (O J+2) 1) (cs:=[y]) aG rfl (by simp only[Em,F.cells,ah.c];rfl) rfl) ?_
      refine G4 ?_
      refine V (A1 aJ zF rfl rfl (by grind:E.text[0]? =some B) (i:=0)) ?_
      refine G3 ?_;refine V (Ai aJ bM rfl rfl rfl) ?_;refine G ?_;refine V (Ai aJ bM rfl rfl rfl) (DT (Av aJ rfl bF rfl rfl rfl (new:=mZ (⟨E.label,B,[⟨R,[],0⟩],true⟩:Rl)) rfl jh) ?_);refine G ?_
      refine DT (By (ad:=O J+2) (off:=1) (vs:=[v1,y]) (vs':=[v1,v2]) (cs:=[v2]) aG rfl rfl a9 (by simp only[F.cells,P]) rfl) ?_
      refine G5 ?_
      refine⟨bv,SL,⟨g.sorts++[B],g.rules++[(⟨E.label,B,[⟨R,[],0⟩],true⟩:Rl)]⟩,v1,v2,C,by simp;omega,by simp;omega,eu,by rw[U,aa,Kw,X];simp only[hu];rw[if_neg Z];unfold pF Vk;grind⟩
     ·obtain⟨J5,v2,jh,a9,P,C⟩:=p.addR (⟨E.label,B,[⟨R,[],0⟩],true⟩:Rl) (by simp[az];omega)
      have eu:∀r∈g.rules++[(⟨E.label,B,[⟨R,[],0⟩],true⟩:Rl)],r.parts.length<1000000:=Z;refine G ?_;refine XS (l:=[]) trivial ?_;refine G ?_
      refine V (Ac (u:=.pr (O J+2) 1) (cs:=[y]) aG rfl (by simp only[Em,F.cells,p.c];rfl) rfl) ?_
      refine G4 ?_
      refine V (A1 aJ zF rfl rfl (by grind:E.text[0]? =some B) (i:=0)) ?_
      refine G3 ?_;refine V (Ai aJ bM rfl rfl rfl) ?_;refine G ?_;refine V (Ai aJ bM rfl rfl rfl) (DT (Av aJ rfl bF rfl rfl rfl (new:=mZ (⟨E.label,B,[⟨R,[],0⟩],true⟩:Rl)) rfl jh) ?_);refine G ?_
      refine DT (By (ad:=O J+2) (off:=1) (vs:=[k,y]) (vs':=[k,v2]) (cs:=[v2]) aG rfl rfl a9 (by simp only[F.cells,P]) rfl) ?_
      refine G5 ?_
      refine⟨bv,SL,⟨g.sorts,g.rules++[(⟨E.label,B,[⟨R,[],0⟩],true⟩:Rl)]⟩,k,v2,C,by simp;omega,by simp;omega,eu,by rw[U,aa,Kw,X];simp only[hu];rw[if_neg Z];unfold pF Vk;grind⟩
   ·have ba:d.vars.length<=i2:=Z
    have db:Kw (Il (Bt d) []) d.vars zG=some g:=by rw[U,cv ba];rfl
    obtain⟨gv,bz⟩:∃x,x=g:=⟨_,rfl⟩;rw[<-bz]at db
    have je:∃g4 k y,ll J J2 (Il (Bt d) []) g4 k y/\g4.sorts.length<=d.vars.length/\g4.rules.length<=d.vars.length+0/\(∀r∈g4.rules,r.parts.length<1000000)/\F6 d.frames gv=F6 (d.frames.drop 0) g4:=⟨g,k,y,p,by omega,by omega,Q,Z⟩
    iterate 14 refine G ?_
    refine Bz d.frames.length (λi4=>[(2,.pr (O J) 0),(9,.pr (O J+2) 0),(13,.fn (.func 115) [] []),(92,aD eF 8 d.frames),(93,D (.ofNat d.frames.length)),(94,D (.ofNat i4))]) (λi4 o=>∃g k y,ll J o (Il (Bt d) []) g k y/\g.sorts.length<=d.vars.length/\g.rules.length<=d.vars.length+i4/\(∀r∈g.rules,r.parts.length<1000000)/\F6 d.frames gv=F6 (d.frames.drop i4) g) SL je ?_
    rintro i4 o kr ⟨g,k,y,j,ag,d4,Q,W⟩;refine G5 ?_;refine Ab rfl ?_ ?_<;>intro h4
    ·have dy:i4<d.frames.length:=Z;obtain⟨s,T⟩:=Ar dy;have ac:=A4 T;have N:=hB.f s (bA T);obtain⟨L,tl,d5⟩:=VN an (bA T);have l6:s.text.headD []=L:=Z;refine cD ?_
     refine Gg [(115,.bool ((s.thm||s.hyps.any (λh=> !h.floating))|| !(g.sorts.any λx=>decide (L=x))))] ?_ ?_
     ·rcases fI (s.thm)with c|c
      ·refine XS (l:=[(45,[aD eH 3 s.hyps,.fn (.func 115) [] []],o,.bool (s.hyps.any λh=> !h.floating),o),(15,[k,sV L],o,.bool (g.sorts.any λx=>decide (L=x)),o)]) ⟨rA (λh=> !h.floating) s.hyps 115 [] o (by have:=N.h;omega) (λa _=>pU a o),lF g.sorts L k o j.s z,trivial⟩ ?_
       refine G6 ?_;refine K5 rfl rfl rfl rfl (R1 c) rfl rfl ?_;refine G8 ?_;refine K5 rfl rfl rfl rfl (R1 c) rfl rfl ?_;refine G3 ?_;exact⟨⟨Cb,trivial⟩,sb,rfl⟩
      ·rcases fI ((s.hyps.any λh=> !h.floating))with f|f
       ·refine XS (l:=[(45,[aD eH 3 s.hyps,.fn (.func 115) [] []],o,.bool (s.hyps.any λh=> !h.floating),o),(15,[k,sV L],o,.bool (g.sorts.any λx=>decide (L=x)),o)]) ⟨rA (λh=> !h.floating) s.hyps 115 [] o (by have:=N.h;omega) (λa _=>pU a o),lF g.sorts L k o j.s z,trivial⟩ ?_
        refine G6 ?_;refine Ol rfl rfl rfl rfl (R2 f c) rfl rfl Oq (V (Au rfl (R2 f c) rfl) (V Oq (Wx (w:=R2 f c) (Wx (w:=R2 f c) (Wx (w:=R2 f c) (Wx (w:=R2 f c) (Wx (w:=R2 f c) ?_)))))));refine Wx (w:=R2 f c) (K5 rfl rfl rfl rfl (R2 f c) rfl rfl ?_);refine G3 ?_;exact⟨⟨congrArg (λb=>some (I.bool b)) (R2 f c),trivial⟩,sb,rfl⟩
       ·refine XS (l:=[(45,[aD eH 3 s.hyps,.fn (.func 115) [] []],o,.bool (s.hyps.any λh=> !h.floating),o),(15,[k,sV L],o,.bool (g.sorts.any λx=>decide (L=x)),o)]) ⟨rA (λh=> !h.floating) s.hyps 115 [] o (by have:=N.h;omega) (λa _=>pU a o),lF g.sorts L k o j.s z,trivial⟩ ?_
        refine V Oq (V Oq (V Oq (Wn (w:=R2 f c) Oq (Wn (w:=R2 f c) Oq (Wn (w:=R2 f c) Oq (Ol rfl rfl rfl rfl (R2 f c) rfl rfl Oq (V (Au rfl (R2 f c) rfl) ?_)))))))
        refine V Oq (Wn (w:=R2 f c) Oq (Wn (w:=R2 f c) (Ac (u:=.pr (O J+2) 0) (cs:=[k,y]) aG rfl (by simp only[Em,F.cells,j.c];rfl) rfl) ?_))
        refine G2 ?_
        refine Wn (w:=R2 f c) (A1 aJ zF rfl rfl (by grind:s.text[0]? =some L) (i:=0)) ?_
        refine Wn (w:=R2 f c) Oq (Ol rfl rfl rfl rfl (R2 f c) rfl rfl (Bq rfl rfl (Dw zD Bv)) ?_)
        refine Wn (w:=R2 f c) Oq (V (Au rfl (R2 f c) rfl) (C1 ?_));exact⟨⟨congrArg (λb=>some (I.bool b)) (R2 f c),trivial⟩,sb,rfl⟩
     refine Ab rfl ?_ ?_<;>intro h5
     ·replace h5:oY s g=true:=by unfold oY;grind
      refine G5 ?_
      refine⟨dy,SL,g,k,y,j,ag,by omega,Q,by rw[W,ac,F6,if_pos h5]⟩
     ·replace h5:oY s g=false:=by unfold oY;grind
      have al:∀x∈s.hyps,∃a b,x.text=[a,b]:=VA an (bA T) (by unfold oY at h5;grind)
      refine G4 ?_;refine Ca (uS s o L N ⟨tl,d5⟩ al) ?_;refine cG ?_;refine Ab rfl ?_ ?_<;>intro h6
      ·have K:Hs s=none:=by simpa using h6
       refine G3 ?_
       refine A (By (ad:=O J) (off:=0) (vs:=I9) (vs':=I9) (cs:=I9) aG rfl rfl rfl (by simp only[F.cells,j.t]) rfl) ?_
       refine G2 ?_
       have ay:F6 d.frames gv=none:=by rw[W,ac,F6,if_neg Z,K]
       have S:aM d=(zG,150):=(if_neg (λhc=>Bool.noConfusion (h1.symm.trans hc))).trans Z
       refine G ?_
       exact⟨[.agg I9,D (150)],Am (aG (t:=141)) rfl (by simp only[F.cells];rw[aU,if_pos rfl]) rfl (Ba rfl rfl),.tup [gY zG,D (150)],J,bL hw ⟨by rw[Aq];have:=j.n;omega,λb hb=>by rw[aU,if_neg z];exact j.g0 b hb⟩,Y,.tup (.cons (.agg (.cons Ex (.cons Ex .nil))) (.cons (.same rfl) .nil)),by rw[S],rfl⟩
      ·obtain⟨rl,K⟩:∃rl,Hs s=some rl:=gV.1 Z
       obtain⟨J5,v1,a7,a8,P,aq⟩:=j.addR rl (by simp[az];omega)
       have eu:∀r∈g.rules++[rl],r.parts.length<1000000:=λr hr=>by
        rcases dW.1 hr with hr|hr
        ·exact Q r hr
        ·rw[cI.1 hr];exact x8 (UL K) N.t
       refine G3 ?_
       refine A (Ac (u:=.pr (O J+2) 1) (cs:=[y]) aG rfl (by simp only[Em,F.cells,j.c];rfl) rfl) ?_
       refine G ?_
       refine Cx (Ai aJ bM rfl rfl rfl) (Dv (len:=1)) rfl rfl (A (Av aJ rfl bF rfl rfl rfl (new:=mZ rl) (by rw[K,UW (PH K)];rfl) a7) ?_)
       refine G ?_
       refine A (By (ad:=O J+2) (off:=1) (vs:=[k,y]) (vs':=[k,v1]) (cs:=[v1]) aG rfl rfl a8 (by simp only[F.cells,P]) rfl) ?_
       refine G5 ?_
       refine⟨dy,SL,⟨g.sorts,g.rules++[rl]⟩,k,v1,aq,ag,by simp;omega,eu,by rw[W,ac,F6,if_neg Z,K]⟩
    ·have jn:d.frames.length<=i4:=Z
     have ay:F6 d.frames gv=some g:=by rw[W,cv jn];rfl
     refine G ?_
     have ar:sY g:=⟨by omega,by omega,Q⟩
     have l5:=j.n
     refine PZ (J.new (.cells I9)) [(2,.pr (O J) 0),(9,.pv [Af g.sorts,aD eR 4 g.rules])] (a_ (Ar9 hw) Z λb hb=>?_) Z ⟨⟨_,rfl,.same ?_⟩,⟨_,rfl,.pr j.c (by rw[a5,if_neg z];exact hw.none z) (.cons (j.s.fz zF (λa ha=>by rw[a5,if_neg z];exact hw.none z) (A2 D9 _)) (.cons (j.r.fzE zF (λa ha=>by rw[a5,if_neg z];exact hw.none z) Axi) .nil))⟩,trivial⟩ ?_
     ·rw[Ao]at hb;rw[a5]
      split
      ·rename_i e;rw[e];exact j.t
      ·exact j.g0 b z
     ·unfold I.und;rw[Ao];simp
     refine G4 ?_;refine Ca (pY g _ ar) ?_;refine G2 ?_;refine Ab rfl ?_ ?_<;>intro h5
     ·refine G3 ?_
      refine A (By (ad:=O J) (off:=0) (vs:=I9) (vs':=I9) (cs:=I9) aG rfl rfl rfl (by simp only[F.cells];grind) rfl) ?_
      refine G2 ?_;have S:aM d=(zG,4):=(if_neg (λhc=>Bool.noConfusion (h1.symm.trans hc))).trans Z
      refine G ?_
      exact⟨[.agg I9,D (4)],Am (aG (t:=141)) rfl (by simp only[F.cells];rw[aU,if_pos rfl]) rfl (Ba rfl rfl),.tup [gY zG,D (4)],J,bL hw ⟨Z,Z⟩,Y,.tup (.cons (.agg (.cons Ex (.cons Ex .nil))) (.cons (.same rfl) .nil)),by rw[S],rfl⟩
     ·refine G4 ?_
      refine A (By (ad:=O J) (off:=0) (vs:=I9) (vs':=[Af g.sorts,aD eR 4 g.rules]) (cs:=[Af g.sorts,aD eR 4 g.rules]) aG rfl rfl rfl (by simp only[F.cells];grind) rfl) ?_
      refine G2 ?_;have S:aM d=(g,0):=(if_neg (λhc=>Bool.noConfusion (h1.symm.trans hc))).trans Z
      refine G ?_
      exact⟨[gY g,D 0],Am (aG (t:=141)) rfl (by simp only[F.cells];rw[aU,if_pos rfl]) rfl (Ba rfl rfl),.tup [gY g,D 0],J,bL hw ⟨Z,Z⟩,Y,.same (ZX _ _),by rw[S],rfl⟩
mutual
def M6:Ax->Nat
 |.node _ ks=>1+mo ks
def mo:List Ax->Nat
 |[]=>0
 |t::r=>M6 t+mo r
end
mutual
def eZ:Ax->Nat->Nat
 |.node _ ks,lv=>iW ks (lv+1) lv
def iW:List Ax->Nat->Nat->Nat
 |[],_,d=>d
 |t::r,lv,d=>iW r lv (max d (eZ t lv))
end
theorem μ(t):1<=M6 t:=by cases t;unfold M6;omega
theorem PQ:∀{l:List Ax} {a:Ax},a∈l->M6 a<=mo l
 |x::r,a,h=>by
  unfold mo
  rcases bN.1 h with rfl|h
  ·omega
  ·have:=PQ h;omega
theorem QZ:∀l:List Ax,l.length<=mo l
 |[]=>Y
 |t::r=>by have:=QZ r;have:=μ t;simp only[cZ,mo];omega
theorem Cg(l a):En (.node l a)=.agg [sV l,aD eT 2 a]:=by rw[En,Cl]
section
open Go
abbrev It:=Nat×Nat×Nat
abbrev Sp:=aH×Nat×Nat
def du(g:Gr)(r:Nat):List Pt:=match g.rules[r]? with|some x=>x.parts|none=>[]
def iY(g:Gr)(r:Nat):aH:=match g.rules[r]? with|some x=>x.sort|none=>[]
def dC(g:Gr)(x:It):Option Pt:=(du g x.1)[x.2.1]?
def E5(g:Gr)(s:aH):List Nat:=(List.range g.rules.length).filter λi=>decide (iY g i=s)
def lL(g:Gr):Nat:=(g.rules.map (·.parts.length)).foldr max 0
def Cu(g:Gr)(n:Nat):Nat:=g.rules.length*((lL g+1)*(n+1))
structure Ch where
 sets:List (List It)
 done:List Sp
def Ch.set(S:Ch)(E:Nat):List It:=S.sets.getD E []
def Ch.add(S:Ch)(E:Nat)(x:It):Ch:=if x∈S.set E then S else{ S with sets:=S.sets.set E (S.set E++[x]) }
def Ch.adds(E:Nat)(l:List It)(S:Ch):Ch:=l.foldl (λS x=>S.add E x) S
def Su(g:Gr)(s:aH)(E:Nat):List It:=(E5 g s).map λr=>(r,0,E)
def Ch.pred(g:Gr)(S:Ch)(s:aH)(E:Nat):Ch:=S.adds E (Su g s E)
def i'(x:It):It:=(x.1,x.2.1+1,x.2.2)
def Fc(g:Gr)(s:Sp)(x:It)(S:Ch):Ch:=match dC g x with
 |some p=>if p.sort=s.1 then S.add s.2.2 (i' x)else S
 |none=>S
def fP(g:Gr)(s:Sp):Nat->Nat->Ch->Ch
 |0,_,S=>S
 |f+1,i,S=>match(S.set s.2.1)[i]? with
  |none=>S
  |some x=>fP g s f (i+1) (Fc g s x S)
def Dj(g:Gr)(n E:Nat)(x:It)(S:Ch):Ch:=match dC g x with
 |none=>if(iY g x.1,x.2.2,E)∈S.done then S else fP g (iY g x.1,x.2.2,E) (Cu g n+1) 0 { S with done:=(iY g x.1,x.2.2,E)::S.done }
 |some p=>if p.sort=[]then S else if(p.sort,E,E)∈S.done then(S.pred g p.sort E).add E (i' x)else S.pred g p.sort E
def cls(g:Gr)(n E:Nat):Nat->Nat->Ch->Ch
 |0,_,S=>S
 |f+1,i,S=>match(S.set E)[i]? with
  |none=>S
  |some x=>cls g n E f (i+1) (Dj g n E x S)
def lY(g:Gr)(a:aH)(x:It):Option It:=match dC g x with
 |some p=>if p.sort=[]/\p.symbol=a then some (i' x)else none
 |none=>none
def Ma(g:Gr)(l:List It)(a:aH):List It:=l.filterMap (lY g a)
def Ch.open'(S:Ch):Ch:={ S with sets:=S.sets++[[]] }
def Ch.scan(g:Gr)(R:List aH)(E:Nat)(S:Ch):Option Ch:=
 match Ma g (S.set E) (R.getD E [])with
 |[]=>none
 |l=>some (S.open'.adds (E+1) l)
def Aji(g:Gr)(R:List aH):Nat->Nat->Ch->Ch
 |0,_,S=>S
 |f+1,a,S=>match(if a=R.length then none else(cls g R.length a (Cu g R.length+1) 0 S).scan g R a)with
  |none=>cls g R.length a (Cu g R.length+1) 0 S
  |some b=>Aji g R f (a+1) b
def xX(g:Gr)(i:aH):Ch:=Ch.pred g ⟨[[]],[]⟩ i 0
def Ej(g:Gr)(i:aH)(R:List aH):Ch:=Aji g R (R.length+1) 0 (xX g i)
def ldP(k:List Sp)(R:List aH)(v:Nat):List Pt->Nat->Bool
 |[],a=>decide (a=v)
 |p::b,a=>if p.sort=[]then decide (a<v)&&decide (R.getD a []=p.symbol)&&ldP k R v b (a+1)
  else(List.range' a (v+1-a)).any λe=>decide ((p.sort,a,e)∈k)&&ldP k R v b e
def wyP(k:List Sp)(R:List aH)(v:Nat):List Pt->Nat->List Sp->List (List Sp)
 |[],a,b=>if ldP k R v [] a then[b]else[]
 |p::c,a,b=>if ldP k R v (p::c) a=false then[]else
  if p.sort=[]then wyP k R v c (a+1) b
  else(List.range' a (v+1-a)).flatMap λe=>if(p.sort,a,e)∈k then wyP k R v c e (b.set p.arg.toNat (p.sort,a,e))else[]
def kF:Sp:=([],0,0)
def Qx(g:Gr)(k:List Sp)(R:List aH)(r:Nat)(a v:Nat):List (List Sp):=
 wyP k R v (du g r) a (List.replicate ((du g r).filter λp=>decide (p.sort≠[])).length kF)
structure Wy where
 rule:Nat
 kids:List Nat
structure cN where
 sp:Sp
 ways:List Wy
def D2(L:List Sp)(s:Sp):Nat×List Sp:=if s∈L then(L.idxOf s,L)else(L.length,L++[s])
def Ct:List Sp->List Sp->List Nat->List Nat×List Sp
 |L,[],o=>(o,L)
 |L,s::r,o=>Ct (D2 L s).2 r (o++[(D2 L s).1])
structure Pk where
 total:Nat
 list:List Sp
 ways:List Wy
def F7(x:Nat×List Sp)(P:Pk):Option Pk:=
 if P.total+1>40000\/(Ct P.list x.2 []).2.length>4000 then none
 else some ⟨P.total+1,(Ct P.list x.2 []).2,P.ways++[⟨x.1,(Ct P.list x.2 []).1⟩]⟩
def Pj:List (Nat×List Sp)->Pk->Option Pk
 |[],P=>some P
 |x::r,P=>match F7 x P with|none=>none|some a=>Pj r a
def kL(g:Gr)(k:List Sp)(R:List aH)(s:Sp):List (Nat×List Sp):=(E5 g s.1).flatMap λr=>(Qx g k R r s.2.1 s.2.2).map λl=>(r,l)
def Pf(g:Gr)(k:List Sp)(R:List aH):Nat->Nat->Nat->List Sp->List cN->Option (List cN)
 |0,_,_,_,_=>none
 |f+1,i,b,L,a=>match L[i]? with
  |none=>some a
  |some s=>match Pj (kL g k R s) ⟨b,L,[]⟩with
   |none=>none
   |some P=>Pf g k R f (i+1) P.total P.list (a++[⟨s,P.ways⟩])
def Im(g:Gr)(k:List Sp)(R:List aH)(w:Sp):Option (List cN):=Pf g k R 4002 0 0 [w] []
def cS:Nat:=1000000001
abbrev Cs:=List Nat×List Nat
def Ad3(s:Nat->Cs->Option Cs):List Nat->Nat->Cs->Option (Nat×Cs)
 |[],p,c=>some (p,c)
 |k::r,p,c=>match s k c with
  |none=>none
  |some a=>Ad3 s r (min (p*a.2.getD k 0) cS) a
def Acj(s:Nat->Cs->Option Cs):List Wy->Nat->Cs->Option (Nat×Cs)
 |[],t,c=>some (t,c)
 |w::r,t,c=>match Ad3 s w.kids 1 c with
  |none=>none
  |some (p,a)=>Acj s r (min (t+p) cS) a
def La(o:List cN):Nat->Nat->Cs->Option Cs
 |0,_,_=>none
 |f+1,n,c=>if c.1.getD n 0=1 then none else if c.1.getD n 0=2 then some c else
  match o[n]? with
  |none=>none
  |some x=>match Acj (La o f) x.ways 0 (c.1.set n 1,c.2)with
   |none=>none
   |some (t,a)=>some (a.1.set n 2,a.2.set n t)
def Yx(o:List cN):Option Cs:=La o (o.length+1) 0 (List.replicate o.length 0,List.replicate o.length 0)
def Gp(i:List Nat)(w:Wy):Nat:=w.kids.foldl (λn k=>min (n*i.getD k 0) cS) 1
def Md(g:Gr)(r:Nat):aH:=match g.rules[r]? with|some x=>x.label|none=>[]
def Yy(g:Gr)(o:List cN)(i:List Nat):Nat->Nat->Ax
 |0,_=>.node [] []
 |f+1,n=>match o[n]? with
  |none=>.node [] []
  |some x=>match x.ways.find? λw=>decide (Gp i w≠0)with
   |none=>.node [] []
   |some w=>.node (Md g w.rule) (w.kids.map (Yy g o i f))
def Ek:Ax:=.node [] []
def Fj(g:Gr)(i:aH)(R:List aH):Option (List cN)×Int:=
 if Eb g≠0 then(none,Eb g)else if i∉g.sorts then(none,5)else if R.length>200 then(none,4)else
 if(Ej g i R).sets.length<=R.length\/(i,0,R.length)∉(Ej g i R).done then(none,160)else
 match Im g (Ej g i R).done R (i,0,R.length)with
 |none=>(none,15)
 |some a=>(some a,0)
def D7(t:aH):aH:=if t=[124,45]then[119,102,102]else t
def Mu(g:Gr)(o:List cN):Ax×Int:=match Yx o with
 |none=>(Ek,191)
 |some c=>if c.2.getD 0 0≠1 then(Ek,191)else
  if M6 (Yy g o c.2 (o.length+1) 0)>4000 then(Ek,4)else if eZ (Yy g o c.2 (o.length+1) 0) 1>100 then(Ek,9)else(Yy g o c.2 (o.length+1) 0,0)
def B1(d:Db)(l:List aH):Ax×Int:=
 if(aM d).2≠0 then(Ek,(aM d).2)else match l with
 |[]=>(Ek,2)
 |t::a=>if D7 t∉(aM d).1.sorts then(Ek,11)else match Fj (aM d).1 (D7 t) a with
  |(none,e)=>(Ek,if e=160 then 190 else e)
  |(some b,_)=>Mu (aM d).1 b
end
section
open Go
theorem Vl:∀(N:Nat) (l:List Nat),l.Nodup->(∀x∈l,x<N)->l.length<=N
 |0,[],_,_=>Y
 |0,x::_,_,h=>absurd (h x (cX ..)) (zW _)
 |N+1,l,a,h=>by
  by_cases b:N∈l
  ·have:=Vl N (l.erase N) (a.erase N) Z
   grind
  ·have:=Vl N l a Z;omega
theorem QK{K a b c d:Nat}(Q:b<K)(g:d<K)(h:a*K+b=c*K+d):a=c/\b=d:=by
 have i:0<K:=by omega
 have e:=congrArg (· / K) h;have f:=congrArg (·%K) h;simp only[Nat.mul_comm _ K,Nat.mul_add_div i,Nat.mul_add_mod,Nat.div_eq_of_lt Q,Nat.div_eq_of_lt g,wG Q,wG g]at e f
 grind
theorem Z4{K d a b:Nat}(c:a<d)(Q:b<K):a*K+b<d*K:=by
 have:(a+1)*K<=d*K:=wH K c
 grind
theorem Afk{C J:Type}{f:C->J}:∀{l:List C},l.Nodup->(∀x∈l,∀y∈l,f x=f y->x=y)->(l.map f).Nodup
 |[],_,_=>kQ
 |x::l,c,h=>by
  rw[fG,nT];rw[nT]at c;refine⟨λg=>?_,Afk c.2 λa d b e=>h a (ch _ d) b (ch _ e)⟩
  grind
theorem W9{g r}:(du g r).length<=lL g:=by
 unfold du
 split
 ·rename_i x b
  unfold lL;have a:x.parts.length∈g.rules.map (·.parts.length):=dO.2 ⟨x,fA.2 ⟨_,b⟩,rfl⟩
  generalize g.rules.map (·.parts.length)=l at a
  induction l with
  |nil=>cases a
  |cons y l c=>
   simp only[List.foldr_cons]
   rcases bN.1 a with rfl|a
   ·grind
   ·grind
 grind
def Vm(g:Gr)(E:Nat)(x:It):Prop:=x.1<g.rules.length/\x.2.1<=(du g x.1).length/\x.2.2<=E
def zd(g:Gr)(E:Nat)(l:List It):Prop:=l.Nodup/\∀x∈l,Vm g E x
theorem zd.bound{g E n l}(h:zd g E l)(S:E<=n):l.length<=Cu g n:=by
 have k:(l.map λx:It=>x.1*((lL g+1)*(n+1))+(x.2.1*(n+1)+x.2.2)).Nodup:=by
  refine Afk h.1 λx b y o e=>?_
  obtain⟨c,a,d⟩:=h.2 x b;obtain⟨p,i,q⟩:=h.2 y o;have f:=bD a W9;have r:=bD i W9;obtain⟨s,j⟩:=QK (Z4 z z) (Z4 z z) e;obtain⟨t,u⟩:=QK z z j
  grind
 have w:=Vl (Cu g n) _ k λv m=>by
  obtain⟨x,b,rfl⟩:=dO.1 m;obtain⟨c,a,d⟩:=h.2 x b;have f:=bD a W9;exact Z4 c (Z4 z z)
 grind
def Gj(g:Gr)(S:Ch):Prop:=∀j l,S.sets[j]? =some l->zd g j l
theorem Ch.set_get{S:Ch}{j l}(h:S.sets[j]? =some l):S.set j=l:=by unfold Ch.set;grind
abbrev oT:=@Ch.set_get
theorem Gj.set{g S j}(h:Gj g S):zd g j (S.set j):=by
 cases a:S.sets[j]? with
 |some l=>rw[oT a];exact h j l a
 |none=>unfold Ch.set;rw[List.getD_eq_getElem?_getD,a];exact⟨kQ,Z⟩
theorem Ch.add_len{S:Ch}{j x}:(S.add j x).sets.length=S.sets.length:=by unfold Ch.add;split<;>simp
abbrev AL:=@Ch.add_len
theorem Ch.add_done{S:Ch}{j x}:(S.add j x).done=S.done:=by unfold Ch.add;split<;>rfl
abbrev GU:=@Ch.add_done
theorem Gj.add{g S j x}(h:Gj g S)(W:Vm g j x):Gj g (S.add j x):=by
 unfold Ch.add
 split
 ·exact h
 ·rename_i i
  intro k l c;simp only[List.getElem?_set]at c
  split at c
  ·rename_i e
   subst e
   split at c
   ·cases c;have f:=h.set (j:=j)
    exact⟨rC.2 ⟨f.1,by simp,λa m b n e=>i Z⟩,λy d=>by
     rcases dW.1 d with d|d
     ·exact f.2 y d
     grind⟩
   ·cases c
  ·exact h k l c
theorem Gj.adds{g j}:∀{l:List It} {S:Ch},Gj g S->(∀x∈l,Vm g j x)->Gj g (S.adds j l)
 |[],_,h,_=>h
 |x::l,S,h,a=>by
  show Gj g ((S.add j x).adds j l)
  exact Gj.adds (h.add (a x (cX ..))) λy b=>a y (ch _ b)
theorem Ch.adds_len{j}:∀{l:List It} {S:Ch},(S.adds j l).sets.length=S.sets.length
 |[],_=>rfl
 |x::l,S=>by show((S.add j x).adds j l).sets.length=_;rw[Ch.adds_len,AL]
abbrev pI:=@Ch.adds_len
theorem Vn{g s j}:∀x∈Su g s j,Vm g j x:=λx b=>by
 obtain⟨r,a,rfl⟩:=dO.1 b;have:=(gS.1 a).1;exact⟨jW.1 this,bU _,Y⟩
theorem HN{g j k x p}(h:Vm g j x)(X:j<=k)(a:dC g x=some p):Vm g k (i' x):=
 ⟨h.1,(bQ.1 a).1,bD h.2.2 X⟩
structure Kp (g:Gr)(S T:Ch):Prop where
 ok:Gj g T
 len:T.sets.length=S.sets.length
theorem Tq{g s x S}(h:Gj g S)(j:s.2.1<=s.2.2)(W:Vm g s.2.1 x):Kp g S (Fc g s x S)/\(Fc g s x S).done=S.done:=by
 unfold Fc
 split
 ·rename_i p a
  split
  ·exact⟨⟨h.add (HN W j a),AL⟩,GU⟩
  ·exact⟨⟨h,rfl⟩,rfl⟩
 ·exact⟨⟨h,rfl⟩,rfl⟩
theorem Asc{g s}(j:s.2.1<=s.2.2):∀(f i:Nat) (S:Ch),Gj g S->Kp g S (fP g s f i S)/\(fP g s f i S).done=S.done
 |0,_,_,h=>⟨⟨h,rfl⟩,rfl⟩
 |f+1,i,S,h=>by
  unfold fP
  split
  ·exact⟨⟨h,rfl⟩,rfl⟩
  ·rename_i x c
   have a:=Tq (x:=x) h j (h.set.2 x (fA.2 ⟨_,c⟩));have b:=Asc j f (i+1) _ a.1.ok;exact⟨⟨b.1.ok,b.1.len.trans a.1.len⟩,b.2.trans a.2⟩
theorem OG{g n j x S}(h:Gj g S)(W:Vm g j x):Kp g S (Dj g n j x S):=by
 unfold Dj
 split
 ·split
  ·exact⟨h,rfl⟩
  ·have b:Gj g { S with done:=(iY g x.1,x.2.2,j)::S.done }:=h;have a:=Asc (g:=g) (s:=(iY g x.1,x.2.2,j)) W.2.2 (Cu g n+1) 0 _ b;exact⟨a.1.ok,a.1.len⟩
 ·rename_i p c
  have a:Gj g (S.pred g p.sort j):=h.adds Vn
  split
  ·exact⟨h,rfl⟩
  ·split
   ·exact⟨a.add (HN W Y c),Ch.add_len.trans pI⟩
   ·exact⟨a,pI⟩
theorem Asd{g n j}:∀(f i:Nat) (S:Ch),Gj g S->Kp g S (cls g n j f i S)
 |0,_,_,h=>⟨h,rfl⟩
 |f+1,i,S,h=>by
  unfold cls
  split
  ·exact⟨h,rfl⟩
  ·rename_i x c
   have a:=OG (n:=n) (x:=x) h (h.set.2 x (fA.2 ⟨_,c⟩));have b:=Asd (n:=n) (j:=j) f (i+1) _ a.ok;exact⟨b.ok,b.len.trans a.len⟩
theorem EL{g S}(h:Gj g S):Gj g S.open':=λj l a=>by
 unfold Ch.open' at a;simp only[List.getElem?_append]at a
 split at a
 ·exact h j l a
 ·have:=fA.2 ⟨_,a⟩;rw[cI]at this;subst this;exact⟨kQ,Z⟩
theorem QN{g j l a}(h:∀x∈l,Vm g j x):∀x∈Ma g l a,Vm g (j+1) x:=λx c=>by
 obtain⟨y,d,e⟩:=List.mem_filterMap.1 c;unfold lY at e
 split at e
 ·rename_i p b
  split at e
  ·cases e;exact HN (h y d) (kG _) b
  ·cases e
 ·cases e
theorem ZR{g R j S T}(h:Gj g S)(a:S.scan g R j=some T):Gj g T/\T.sets.length=S.sets.length+1:=by
 unfold Ch.scan at a
 split at a
 ·cases a
 ·cases a;refine⟨(EL h).adds (QN h.set.2),?_⟩;rw[pI];unfold Ch.open'
  simp
theorem OE{g s}:Gj g (xX g s)/\(xX g s).sets.length=1:=by
 have a:Gj g ⟨[[]],[]⟩:=λj l b=>by
  have:=fA.2 ⟨_,b⟩;rw[cI]at this;subst this;exact⟨kQ,Z⟩
 exact⟨a.adds Vn,pI⟩
end
section
open Go
def qE(g:Gr)(r:Nat):Nat:=((du g r).filter λp=>decide (p.sort≠[])).length
structure oH (g:Gr)(N:Nat)(w:Wy):Prop where
 rule:w.rule<g.rules.length
 len:w.kids.length=qE g w.rule
 kid:∀k∈w.kids,k<N
theorem oH.mono{g N E w}(h:oH g N w)(K:N<=E):oH g E w:=⟨h.rule,h.len,λk a=>cC (h.kid k a) K⟩
theorem Ahf{k R v}:∀(c:List Pt) (a:Nat) (b:List Sp),∀l∈wyP k R v c a b,l.length=b.length
 |[],a,b,l,h=>by
  unfold wyP at h
  split at h
  ·rw[cI]at h;rw[h]
  ·cases h
 |p::c,a,b,l,h=>by
  unfold wyP at h
  split at h
  ·cases h
  ·split at h
   ·exact Ahf c _ _ l h
   ·obtain⟨e,_,h⟩:=List.mem_flatMap.1 h
    split at h
    ·rw[Ahf c _ _ l h,jO]
    ·cases h
theorem Apn{g k R r a v}:∀l∈Qx g k R r a v,l.length=qE g r:=λl h=>by
 unfold Qx at h;rw[Ahf _ _ _ l h,kA];rfl
theorem Auz{g k R s}:∀x∈kL g k R s,x.1<g.rules.length/\x.2.length=qE g x.1:=λx h=>by
 obtain⟨r,b,h⟩:=List.mem_flatMap.1 h;obtain⟨l,a,rfl⟩:=dO.1 h;exact⟨jW.1 (gS.1 b).1,Apn l a⟩
theorem Asf{L s}:(D2 L s).1<(D2 L s).2.length/\L.length<=(D2 L s).2.length:=by
 unfold D2
 split
 ·rename_i h;exact⟨List.idxOf_lt_length_of_mem h,Y⟩
 ·simp
theorem Xa:∀(l:List Sp) (L:List Sp) (o:List Nat),(∀k∈o,k<L.length)->(Ct L l o).1.length=o.length+l.length/\L.length<=(Ct L l o).2.length/\∀k∈(Ct L l o).1,k<(Ct L l o).2.length
 |[],L,o,h=>⟨rfl,Y,h⟩
 |s::r,L,o,h=>by
  unfold Ct;obtain⟨f,b⟩:=Asf (L:=L) (s:=s)
  obtain⟨c,d,e⟩:=Xa r (D2 L s).2 (o++[(D2 L s).1]) λk a=>by
   rcases dW.1 a with a|a
   ·exact cC (h k a) b
   ·rw[cI]at a;rw[a];exact f
  refine⟨by rw[c];simp;omega,bD b d,e⟩
theorem VU{g x P Q}(W:x.1<g.rules.length/\x.2.length=qE g x.1)(i:∀w∈P.ways,oH g P.list.length w)(h:F7 x P=some Q):
  (∀w∈Q.ways,oH g Q.list.length w)/\P.list.length<=Q.list.length/\Q.list.length<=4000:=by
 unfold F7 at h
 split at h
 ·cases h
 ·rename_i f
  cases h
  obtain⟨c,b,d⟩:=Xa x.2 P.list [] (λk e=>by cases e)
  refine⟨λw a=>?_,b,by show(Ct P.list x.2 []).2.length<=4000;omega⟩
  rcases dW.1 a with a|a
  ·exact(i w a).mono b
  ·rw[cI]at a;subst a
   exact⟨W.1,by rw[c,lP,dE];exact W.2,d⟩
theorem Ani{g}:∀(l:List (Nat×List Sp)) {P Q:Pk},(∀x∈l,x.1<g.rules.length/\x.2.length=qE g x.1)->(∀w∈P.ways,oH g P.list.length w)->P.list.length<=4000->Pj l P=some Q->
  (∀w∈Q.ways,oH g Q.list.length w)/\P.list.length<=Q.list.length/\Q.list.length<=4000
 |[],P,Q,_,a,b,h=>by cases h;exact⟨a,Y,b⟩
 |x::r,P,Q,c,a,b,h=>by
  unfold Pj at h
  split at h
  ·cases h
  ·rename_i o m
   obtain⟨d,e,f⟩:=VU (c x (cX ..)) a m;obtain⟨i,j,k⟩:=Ani r (λy n=>c y (ch _ n)) d f h
   exact⟨i,bD e j,k⟩
def jC(g:Gr)(N:Nat)(o:List cN):Prop:=∀x∈o,∀w∈x.ways,oH g N w
theorem Ajl{g k R}:∀(f i b:Nat) (L:List Sp) (a d:List cN),a.length=i->i<=L.length->L.length<=4000->jC g L.length a->Pf g k R f i b L a=some d->jC g d.length d/\(0<L.length->0<d.length)/\d.length<=4000
 |0,_,_,_,_,_,_,_,_,_,h=>by cases h
 |f+1,i,b,L,a,d,B,G,y,n,h=>by
  unfold Pf at h
  split at h
  ·rename_i u
   cases h;have:=List.getElem?_eq_none_iff.1 u
   have e:a.length=L.length:=by omega
   exact⟨by rw[e];exact n,λh=>by omega,by omega⟩
  ·rename_i s E
   split at h
   ·cases h
   ·rename_i P v
    obtain⟨o,l,p⟩:=Ani (g:=g) _ (λx c=>Auz x c) (λw j=>by cases j) y v
    have m:=(bQ.1 E).1
    obtain⟨q,r,t⟩:=Ajl f (i+1) P.total P.list (a++[⟨s,P.ways⟩]) d (by simp[B]) (bD m l) p (λx c w j=>by
     rcases dW.1 c with c|c
     ·exact(n x c w j).mono l
     ·rw[cI]at c;subst c;exact o w j) h
    exact⟨q,λC=>r (cC C l),t⟩
theorem EV{g k R w o}(h:Im g k R w=some o):jC g o.length o/\0<o.length/\o.length<=4000:=by
 obtain⟨a,b,c⟩:=Ajl 4002 0 0 [w] [] o rfl (bU _) zS (λx d=>by cases d) h
 exact⟨a,b zS,c⟩
end
end Go.AM

