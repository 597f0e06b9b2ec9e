/- A part of the proof; shortened by program. -/
import Derived.Test.YtmkaboegdoadhaaGreatDoorP07
set_option maxRecDepth 100000
set_option maxHeartbeats 4000000
set_option linter.all false
namespace Go.AM
open Go
section
mutual
def I.und (N:Nat):I->Bool
 |.pr a _=>Nat.blt a N
 |.sr a _ _ _ _=>Nat.blt a N
 |.mp a=>Nat.blt a N
 |.it a=>Nat.blt a N
 |.stp a=>Nat.blt a N
 |.yl a=>Nat.blt a N
 |.pv cs=>I.unds N cs
 |.sv cs _ _ _=>I.unds N cs
 |.fn _ p q=>I.unds N p&&I.unds N q
 |.ifc _ x=>I.und N x
 |.agg cs=>I.unds N cs
 |.tup vs=>I.unds N vs
 |_=>true
def I.unds (N:Nat):List I->Bool
 |[]=>true
 |x::r=>I.und N x&&I.unds N r
end
structure p' (C' C:aO):Prop where
 loc:∀a p,C'.loc a=some p->C.loc a=some p
 stm:C'.stm=C.stm
 lr:C'.lr=C.lr
 res:C'.res=C.res
section
variable {C:aO}{N M:Nat}{w:World}
theorem Ce{a N}(h:a<N):Nat.blt a N=true:=by simpa using h
theorem Gy{a N}(h:Nat.blt a N=true):a<N:=by simpa using h
mutual
theorem R.und:∀(x:I) (v:Value),R C N w x v->I.und N x=true
 |.any,_,_=>rfl
 |.bool _,_,_=>rfl
 |.int _ _,_,_=>rfl
 |.str _,_,_=>rfl
 |.nil _,_,_=>rfl
 |.flt _ _,_,_=>rfl
 |.pr a _,v,h=>by unfold R at h;obtain⟨_,_,h,_⟩:=h;exact Ce h
 |.sr a _ _ _ _,v,h=>by unfold R at h;obtain⟨_,_,_,h,_⟩:=h;exact Ce h
 |.mp a,v,h=>by unfold R at h;obtain⟨_,_,h,_⟩:=h;exact Ce h
 |.it a,v,h=>by unfold R at h;obtain⟨_,_,h,_⟩:=h;exact Ce h
 |.stp a,v,h=>by unfold R at h;exact Ce h.2
 |.yl a,v,h=>by unfold R at h;exact Ce h.2
 |.pv cs,v,h=>by unfold R at h;obtain⟨c,o,_,_,h⟩:=h;exact RC.unds cs c o h
 |.sv cs sz len cap,v,h=>by
  unfold R at h;obtain⟨ado,k,_,h1,_,h2,h3,h4⟩:=h;cases ado with
  |none=>
   have hk:=h3 rfl
   have hl:len=0:=by omega
   rw[hl,lH]at h2;have:=oD h2;subst this;rfl
  |some ad=>exact RC.unds cs _ _ (h4 ad rfl).2.2
 |.fn _ p q,v,h=>by
  unfold R at h;obtain⟨a,b,_,h1,h2⟩:=h;simp only[I.und,bg];exact⟨RL.unds p _ h1,RL.unds q _ h2⟩
 |.ifc _ x,v,h=>by unfold R at h;obtain⟨y,_,h⟩:=h;exact R.und x y h
 |.agg cs,v,h=>by unfold R at h;obtain⟨a,_,h,_⟩:=h;exact RL.unds cs _ h
 |.tup vs,v,h=>by unfold R at h;obtain⟨a,_,h⟩:=h;exact RL.unds vs _ h
theorem RC.unds:∀(cs:List I) (c o:Nat),RC C N w c cs o->I.unds N cs=true
 |[],_,_,_=>rfl
 |x::r,c,o,h=>by
  unfold RC at h;obtain⟨⟨v,_,_,h1⟩,h2⟩:=h;simp only[I.unds,bg];exact⟨R.und x v h1,RC.unds r c (o+1) h2⟩
theorem RL.unds:∀(l:List I) (vs:List Value),RL C N w l vs->I.unds N l=true
 |[],[],_=>rfl
 |x::r,v::s,h=>by
  unfold RL at h;simp only[I.unds,bg];exact⟨R.und x v h.1,RL.unds r s h.2⟩
 |[],_::_,h=>by unfold RL at h;grind
 |_::_,[],h=>by unfold RL at h;grind
end
theorem p'.own{b}(k:p' b C){c}(h:b.own c):C.own c:=by
 rcases h with h|⟨a,o,h⟩
 ·exact .inl (by rw[<-k.res];exact h)
 ·exact .inr ⟨a,o,k.loc a _ h⟩
variable {C':aO}
mutual
theorem R.cut (k:p' C' C):∀(x:I) (v:Value),I.und M x=true->R C N w x v->R C' M w x v
 |.any,_,_,_=>by unfold R;trivial
 |.bool _,_,_,h=>by unfold R at *;exact h
 |.int _ _,_,_,h=>by unfold R at *;exact h
 |.str _,_,_,h=>by unfold R at *;exact h
 |.nil _,_,_,h=>by unfold R at *;exact h
 |.flt _ _,_,_,h=>by unfold R at *;exact h
 |.pr a _,v,b,h=>by
  unfold R at *;obtain⟨ad,h1,h2,h3⟩:=h;exact⟨ad,h1,Gy b,λc o hc=>h3 c o (k.loc _ _ hc)⟩
 |.sr a _ _ _ _,v,b,h=>by
  unfold R at *;obtain⟨ad,kk,h1,h2,h3,h4,h5⟩:=h;exact⟨ad,kk,h1,Gy b,h3,h4,λc o hc=>h5 c o (k.loc _ _ hc)⟩
 |.mp a,v,b,h=>by
  unfold R at *;obtain⟨c,h1,h2,h3⟩:=h;exact⟨c,h1,Gy b,λc' o hc=>h3 c' o (k.loc _ _ hc)⟩
 |.it a,v,b,h=>by
  unfold R at *;obtain⟨c,h1,h2,h3⟩:=h;exact⟨c,h1,Gy b,λc' o hc=>h3 c' o (k.loc _ _ hc)⟩
 |.stp a,v,b,h=>by unfold R at *;rw[k.stm];exact⟨h.1,Gy b⟩
 |.yl a,v,b,h=>by unfold R at *;rw[k.stm];exact⟨h.1,Gy b⟩
 |.pv cs,v,b,h=>by
  unfold R at *;obtain⟨c,o,h1,h2,h3⟩:=h;exact⟨c,o,h1,λhne ho=>h2 hne (k.own ho),RC.cut k cs c o b h3⟩
 |.sv cs sz len cap,v,b,h=>by
  unfold R at *;obtain⟨ado,kk,h1,h2,h3,h4,h0,hh⟩:=h;refine⟨ado,kk,h1,h2,h3,h4,h0,λad ha=>?_⟩
  obtain⟨h5,h6,h7⟩:=hh ad ha;exact⟨h5,λhne ho=>h6 hne (k.own ho),RC.cut k cs _ _ b h7⟩
 |.fn _ p q,v,b,h=>by
  simp only[I.und,bg]at b;unfold R at *;obtain⟨a,c,h1,h2,h3⟩:=h;exact⟨a,c,h1,RL.cut k p _ b.1 h2,RL.cut k q _ b.2 h3⟩
 |.ifc _ x,v,b,h=>by unfold R at *;obtain⟨y,h1,h2⟩:=h;exact⟨y,h1,R.cut k x y b h2⟩
 |.agg cs,v,b,h=>by unfold R at *;obtain⟨a,h1,h2,h3⟩:=h;exact⟨a,h1,RL.cut k cs _ b h2,h3⟩
 |.tup vs,v,b,h=>by unfold R at *;obtain⟨a,h1,h2⟩:=h;exact⟨a,h1,RL.cut k vs _ b h2⟩
theorem RC.cut (k:p' C' C):∀(cs:List I) (c o:Nat),I.unds M cs=true->RC C N w c cs o->RC C' M w c cs o
 |[],_,_,_,_=>by unfold RC;trivial
 |x::r,c,o,b,h=>by
  simp only[I.unds,bg]at b;unfold RC at *;obtain⟨⟨v,h1,h2,h3⟩,h4⟩:=h;exact⟨⟨v,h1,h2,R.cut k x v b.1 h3⟩,RC.cut k r c (o+1) b.2 h4⟩
theorem RL.cut (k:p' C' C):∀(l:List I) (vs:List Value),I.unds M l=true->RL C N w l vs->RL C' M w l vs
 |[],[],_,_=>by unfold RL;trivial
 |x::r,v::s,b,h=>by
  simp only[I.unds,bg]at b;unfold RL at *;exact⟨R.cut k x v b.1 h.1,RL.cut k r s b.2 h.2⟩
 |[],_::_,_,h=>by unfold RL at h;grind
 |_::_,[],_,h=>by unfold RL at h;grind
end
def Jc(N:Nat)(a:List (aQ×I)):Bool:=a.all λx=>I.und N x.2
theorem ER.und:∀{a:List (aQ×I)} {L:List MapEntry},ER C N w a L->Jc N a=true
 |[],[],_=>rfl
 |x::r,f::s,h=>by
  unfold ER at h;simp only[Jc,gX,bg];exact⟨R.und _ _ h.1.2,ER.und h.2⟩
 |[],_::_,h=>by unfold ER at h;grind
 |_::_,[],h=>by unfold ER at h;grind
theorem ER.cut(k:p' C' C):∀{a:List (aQ×I)} {L:List MapEntry},Jc M a=true->ER C N w a L->ER C' M w a L
 |[],[],_,_=>by unfold ER;trivial
 |x::r,f::s,b,h=>by
  simp only[Jc,gX,bg]at b;unfold ER at *;exact⟨⟨h.1.1,R.cut k _ _ b.1 h.1.2⟩,ER.cut k b.2 h.2⟩
 |[],_::_,_,h=>by unfold ER at h;grind
 |_::_,[],_,h=>by unfold ER at h;grind
end
mutual
inductive Fz (J U:F):I->I->Prop
 |same {v:I}:I.und (O U) v=true->Fz J U v v
 |any {v:I}:Fz J U v .any
 |pr {a off:Nat} {vs l:List I}:J.get a=some (.cells vs)->U.get a=none->cH J U (vs.drop off) l->Fz J U (.pr a off) (.pv l)
 |sr {a off sz len:Nat} {cap:Option Nat} {vs cs l:List I}:J.get a=some (.cells vs)->U.get a=none->Dr (len*sz) (vs.drop off)=some cs->cH J U cs l->Fz J U (.sr a off sz len cap) (.sv l sz len none)
 |nils {sz:Nat} {cap:Option Nat}:(∀q,cap=some q->q=0)->Fz J U (.nil (.slice none 0 0)) (.sv [] sz 0 cap)
 |agg {a b:List I}:cH J U a b->Fz J U (.agg a) (.agg b)
 |tup {a b:List I}:cH J U a b->Fz J U (.tup a) (.tup b)
 |sv {a b:List I} {sz len:Nat} {cap cap':Option Nat}:(∀q,cap'=some q->cap=some q)->cH J U a b->Fz J U (.sv a sz len cap) (.sv b sz len cap')
inductive cH (J U:F):List I->List I->Prop
 |nil:cH J U [] []
 |cons {x y:I} {r s:List I}:Fz J U x y->cH J U r s->cH J U (x::r) (y::s)
end
theorem cH.length{J U}:∀{a b:List I},cH J U a b->a.length=b.length
 |_,_,.nil=>rfl
 |_,_,.cons _ h=>by simp[cH.length h]
theorem cH.same{J U}:∀{a:List I},I.unds (O U) a=true->cH J U a a
 |[],_=>.nil
 |x::r,h=>by simp only[I.unds,bg]at h;exact .cons (.same h.1) (cH.same h.2)
abbrev jg:=@cH.same
section
variable {P:Program}{C:aO}{w:World}{J U:F}
theorem aO.keep_sub(C U):p' (C.keep U) C:=by
 refine⟨λa p h=>?_,rfl,rfl,rfl⟩
 simp only[aO.keep]at h
 grind
theorem aX.freed(h:aX P C w J){a c o}(d:C.loc a=some (c,o))(m:U.get a=none):¬(C.keep U).own c:=by
 rintro(f|⟨b,g,e⟩)
 ·exact h.rdis a c o d f
 ·simp only[aO.keep]at e
  split at e
  ·rename_i i
   have:=h.inj a b c o g d e
   grind
  grind
mutual
theorem Fz.R (h:aX P C w J):∀{v v':I} {x:Value},Fz J U v v'->R C (O J) w v x->R (C.keep U) (O U) w v' x
 |v,_,x,.same hu,hr=>R.cut (C.keep_sub U) v x hu hr
 |v,_,x,.any,hr=>by unfold AM.R;trivial
 |.pr a off,_,x,.pr (vs:=vs) (l:=l) H ht hl,hr=>by
  obtain⟨c,o,cs,T,k1,k2,k3⟩:=h.obj a _ H;unfold AM.R at hr⊢;obtain⟨ad,rfl,_,h3⟩:=hr;have:=h3 c o k1;subst this;exact⟨c,o+off,rfl,λ_=>h.freed k1 ht,cH.RC h hl (k3.drop off)⟩
 |.sr a off sz len cap,_,x,.sr (vs:=vs) (cs:=cs) (l:=l) H ht hk hl,hr=>by
  obtain⟨c,o,cs₀,T,k1,k2,k3⟩:=h.obj a _ H;unfold AM.R at hr⊢;obtain⟨ad,k,rfl,_,h4,h5,h6⟩:=hr;obtain⟨q1,q2⟩:=h6 c o k1;obtain⟨t1,t2⟩:=Hu hk
  have bl:l.length=len*sz:=by rw[<-hl.length];exact t2
  refine⟨some ad,k,rfl,h4,λq hq=>(by cases hq),bl,λhh=>(by cases hh),λad' ha=>?_⟩
  cases ha
  have ec:l≠[]->0<k:=λhne=>by
   rcases oL len with h0|h0
   ·rw[h0,lH]at bl;grind
   ·omega
  refine⟨Z,λhne=>by rw[q1 (ec hne)];exact h.freed k1 ht,?_⟩
  by_cases hne:l=[]
  ·subst hne;unfold AM.RC;trivial
  ·rw[q1 (ec hne)];exact cH.RC h hl ((k3.drop off).take _ hk)
 |_,_,x,.nils (sz:=sz) hc,hr=>by
  unfold AM.R at hr⊢
  grind
 |_,_,x,.agg hl,hr=>by
  unfold AM.R at hr⊢;obtain⟨a,h1,h2,h3⟩:=hr;exact⟨a,h1,cH.RL h hl h2,h3⟩
 |_,_,x,.tup hl,hr=>by
  unfold AM.R at hr⊢;obtain⟨a,h1,h2⟩:=hr;exact⟨a,h1,cH.RL h hl h2⟩
 |_,_,x,.sv (a:=a) (b:=b) hc hl,hr=>by
  unfold AM.R at hr⊢;obtain⟨ado,k,h1,h2,h3,h4,h5,h6⟩:=hr
  refine⟨ado,k,h1,h2,λq hq=>h3 q (hc q hq),by rw[<-hl.length];exact h4,h5,λad ha=>?_⟩
  obtain⟨q1,q2,q3⟩:=h6 ad ha;refine⟨q1,λhne ho=>q2 (λh0=>?_) ((C.keep_sub U).own ho),cH.RC h hl q3⟩
  have:=hl.length
  grind
theorem cH.RL (h:aX P C w J):∀{l l':List I} {xs:List Value},cH J U l l'->RL C (O J) w l xs->RL (C.keep U) (O U) w l' xs
 |_,_,[],.nil,hr=>by unfold AM.RL;trivial
 |_,_,_::_,.nil,hr=>by unfold AM.RL at hr;grind
 |_,_,[],.cons _ _,hr=>by unfold AM.RL at hr;grind
 |_,_,x::xs,.cons h1 h2,hr=>by unfold AM.RL at hr⊢;exact⟨Fz.R h h1 hr.1,cH.RL h h2 hr.2⟩
theorem cH.RC (h:aX P C w J):∀{l l':List I} {c o:Nat},cH J U l l'->RC C (O J) w c l o->RC (C.keep U) (O U) w c l' o
 |_,_,_,_,.nil,hr=>by unfold AM.RC;trivial
 |_,_,c,o,.cons h1 h2,hr=>by
  unfold AM.RC at hr⊢;obtain⟨⟨v,k1,k2,k3⟩,k4⟩:=hr;exact⟨⟨v,k1,k2,Fz.R h h1 k3⟩,cH.RC h h2 k4⟩
end
def Aov(J U:F):List (aQ×I)->List (aQ×I)->Prop
 |[],[]=>True
 |x::r,y::s=>x.1=y.1/\Fz J U x.2 y.2/\Aov J U r s
 |_,_=>False
theorem Aov.ER(h:aX P C w J):∀{l c:List (aQ×I)} {L:List MapEntry},Aov J U l c->ER C (O J) w l L->ER (C.keep U) (O U) w c L
 |[],[],[],_,_=>by unfold AM.ER;trivial
 |[],[],_::_,_,a=>by unfold AM.ER at a;grind
 |_::_,_::_,[],_,a=>by unfold AM.ER at a;grind
 |x::r,y::s,f::L,b,a=>by
  obtain⟨g,d,e⟩:=b;unfold AM.ER at a⊢;exact⟨⟨Z,d.R h a.1.2⟩,Aov.ER h e a.2⟩
 |[],_::_,_,b,_=>b.elim
 |_::_,[],_,b,_=>b.elim
def AO.und(N:Nat):AO->Bool
 |.cells b=>I.unds N b
 |.map _ a _=>Jc N a
 |.iter m _ _ _=>match m with|none=>true|some r=>Nat.blt r N
 |.stamp m _ _=>Nat.blt m N
 |.loop _=>true
def DD(N:Nat):Option (aQ×I)->Bool
 |none=>true
 |some x=>I.und N x.2
def zg(U:F):AO->Prop
 |.iter (some r) b left a=>∀d c,U.get r=some (.map d c b)->Jc (O U) left=true/\DD (O U) a=true
 |_=>True
inductive tP (J U:F):AO->AO->Prop
 |iter {m:Option Nat} {ver:Nat} {left:List (aQ×I)} {cur:Option (aQ×I)}:AO.und (O U) (.iter m ver left cur)=true->zg U (.iter m ver left cur)->tP J U (.iter m ver left cur) (.iter m ver left cur)
 |stamp {m ver:Nat} {k:aQ}:AO.und (O U) (.stamp m ver k)=true->tP J U (.stamp m ver k) (.stamp m ver k)
 |cells {a b:List I}:cH J U a b->tP J U (.cells a) (.cells b)
 |map {kt ver:Nat} {a b:List (aQ×I)}:Aov J U a b->tP J U (.map kt a ver) (.map kt b ver)
 |loop {st:LS}:tP J U (.loop st) (.loop st)
def Ds(J U:F):Prop:=O U<=O J/\∀a c,U.get a=some c->a<O U/\∃b,J.get a=some b/\tP J U b c
theorem aX.frz(h:aX P C w J)(N:Ds J U):aX P (C.keep U) w U:=by
 have k:=C.keep_sub U;refine⟨λa u n=>?_,λa u n=>(N.2 a u n).1,λa p hp=>?_,λa b c o o' n hb=>h.inj a b c o o' (k.loc _ _ n) (k.loc _ _ hb),
  λa c o n=>h.lt a c o (k.loc _ _ n),h.rlt,λa c o n=>h.rdis a c o (k.loc _ _ n)⟩
 ·obtain⟨h1,s,h2,h3⟩:=N.2 a u n;have v:=h.obj a s h2
  have y:(C.keep U).loc a=C.loc a:=by simp[aO.keep,n]
  cases h3 with
  |cells B=>
   obtain⟨c,o,cs,T,i,q,g⟩:=v;exact⟨c,o,cs,T,y.trans i,q,B.RC h g⟩
  |map B=>
   obtain⟨c,E,d,i,q,g⟩:=v;exact⟨c,E,d,y.trans i,q,g.typed,let⟨L,G,K⟩:=g.perm;⟨L,G,B.ER h K⟩,g.keys,g.born,g.apart⟩
  |loop=>
   obtain⟨c,r,i,q,g⟩:=v;exact⟨c,r,y.trans i,q,g⟩
  |stamp hu=>
   obtain⟨k0,i⟩:=v
   rename_i m a7 ky
   refine⟨Gy hu,λkt es Q H=>?_⟩
   obtain⟨_,t,W,X⟩:=N.2 m _ H;cases X with
   |map B=>
    obtain⟨G,K⟩:=i _ _ _ W;refine⟨G,λhv=>?_⟩
    obtain⟨S,E,d,p1,p2,p3⟩:=K hv
    exact⟨S,E,d,by simp[aO.keep,H,p1],p2,p3⟩
  |iter u1 hu=>
   rename_i m a7 left a8
   cases m with
   |none=>
    obtain⟨c,e,l,j,i,q,g⟩:=v;exact⟨c,e,l,j,y.trans i,q,g⟩
   |some m=>
    obtain⟨k0,c,S,e,l,j,i,q,g⟩:=v;refine⟨Gy u1,c,S,e,l,j,y.trans i,q,λkt es Q H=>?_⟩
    obtain⟨_,t,W,X⟩:=N.2 m _ H;cases X with
    |map B=>
     obtain⟨G,K⟩:=g _ _ _ W;refine⟨G,λhv=>?_⟩
     subst hv;obtain⟨u2,u3⟩:=hu _ _ H;obtain⟨E,p1,p2,p3,⟨L,p4,p5⟩,p6⟩:=K rfl
     refine⟨E,by simp[aO.keep,H,p1],p2,p3,⟨L,p4,ER.cut k u2 p5⟩,λky x hx=>?_⟩
     obtain⟨f,f1,f2,f3,f4⟩:=p6 ky x hx;subst hx;exact⟨f,f1,f2,f3,R.cut k _ _ u3 f4⟩
 ·have hs:(U.get a).isSome=true:=by
   simp only[aO.keep]at hp
   grind
  obtain⟨u,hO⟩:=gV.1 hs;obtain⟨_,s,h2,h3⟩:=N.2 a u hO;obtain⟨t,h4,h5⟩:=h.dom a p (k.loc a p hp);rw[h2]at h4;cases h4;refine⟨u,hO,?_⟩
  cases h3<;>first|rfl|exact h5
def bY(J:F):Prop:=∀a b,J.get a=some b->a<O J/\AO.und (O J) b=true/\zg J b
theorem aX.wfs(h:aX P C w J):bY J:=by
 intro a e H;refine⟨h.bound a e H,?_⟩;have d:=h.obj a e H;cases e with
 |cells vs=>obtain⟨c,o,Q,T,_,_,k⟩:=d;exact⟨RC.unds _ _ _ k,trivial⟩
 |map y p b=>obtain⟨c,E,g,_,_,k⟩:=d;obtain⟨L,_,q⟩:=k.perm;exact⟨ER.und q,trivial⟩
 |stamp m b k=>exact⟨Ce d.1,trivial⟩
 |loop st=>exact⟨rfl,trivial⟩
 |iter m b left i=>
  cases m with
  |none=>exact⟨rfl,trivial⟩
  |some r=>
   obtain⟨u,c,N,j,n,l,X,k2,v⟩:=d;refine⟨Ce u,λy p t=>?_⟩
   obtain⟨_,K⟩:=v _ _ _ t;obtain⟨E,p1,p2,p3,⟨L,p4,B⟩,G⟩:=K rfl;refine⟨ER.und B,?_⟩;cases i with
   |none=>rfl
   |some x=>obtain⟨f,S,U,W,s⟩:=G x.1 x.2 rfl;exact R.und _ _ s
theorem Oi(h:∀{v:I},I.und (O U) v=true->Fz J U v v):∀{a:List (aQ×I)},Jc (O U) a=true->Aov J U a a
 |[],_=>trivial
 |x::r,k=>by
  simp only[Jc,gX,bg]at k;exact⟨rfl,h k.1,Oi h k.2⟩
theorem Ds.of_same(h:bY U)(S:O U<=O J)(H:∀a,a<O U->J.get a=U.get a):Ds J U:=by
 refine⟨S,λa d f=>?_⟩
 obtain⟨e,c,i⟩:=h a d f;refine⟨e,d,(H a e).trans f,?_⟩;cases d with
 |cells o=>exact .cells (jg c)
 |map l j b=>exact .map (Oi .same c)
 |iter m b left g=>exact .iter c i
 |stamp m b k=>exact .stamp c
 |loop n=>exact .loop
abbrev a_:=@Ds.of_same
theorem bC.base{c N J B d}(h:bC C N w c J d)(x:B<=N):bC C B w c B d:=
 ⟨Y,h.size,h.keep,λa b=>h.loc a z,λa b=>h.stm a z,λa b=>h.lr a z,λa b=>h.bsz a z,h.res,h.os⟩
theorem bC.top{a B J b}(h:bC C B w a B b)(x:B<=J):bC C B w a J b:=
 ⟨x,h.size,h.keep,h.loc,h.stm,h.lr,h.bsz,h.res,h.os⟩
theorem bC.keepB(C U B w):bC C B w (C.keep U) B w:=
 ⟨Y,Y,λb _ d=>⟨λc=>d ((C.keep_sub U).own c),rfl⟩,λa _ p e=>(C.keep_sub U).loc a p e,λ_ _=>rfl,λ_ _=>rfl,λ_ _ _ _ _=>rfl,⟨rfl,λ_ _=>rfl⟩,rfl,rfl⟩
abbrev qL:=@bC.keepB
end
end
def Oj(l:Ad):Tr I:=l.foldr (λp t=>t.put (p.1+1) p.1 (some p.2)) .e
def Km:Ad->Ad->Prop
 |[],_=>True
 |(i,v)::r,a=>Ad.at a i=some v/\Km r a
theorem Km.at:∀{b c:Ad},Km b c->∀i v,Ad.at b i=some v->Ad.at c i=some v
 |[],c,_,i,v,h=>by simp[Ad.at]at h
 |(j,u)::r,c,h,i,v,a=>by
  obtain⟨e,f⟩:=h;simp only[Ad.at]at a;cases d:Nat.beq j i with
  |true=>rw[d]at a;cases a;have:=bK d;subst this;exact e
  |false=>rw[d]at a;exact Km.at f i v a
theorem Has.subL{n f s}(h:Has n f)(k:Km s f):Has n s:=λi v a=>h i v (k.at i v a)
def Al(E:aZ)(f:Nat)(b:List I)(J:F)(a:I->F->Prop):Prop:=
 ∀(C:aO) (w:World) (g:Array Value),aX E.P C w J->Iw C (O J) w E->RL C (O J) w b g.toList->
  yr E.P f/\Calls E.P f g w λ
   |.returned x,e=>∃v c d,a v c/\aX E.P d e c/\bC C (O J) w d (O c) e/\R d (O c) e v x
   |_,_=>False
theorem Al.mono{E f b J a x}(h:Al E f b J a)(k:∀v c,a v c->x v c):Al E f b J x:=by
 intro C w l j H i;obtain⟨d,g⟩:=h C w l j H i;refine⟨d,g.mono λe n m=>?_⟩
 grind
open Classical in
noncomputable def Dk:List (Nat×List I×F×I×F)->bP
 |[],_,_,_=>none
 |(f,a,s,v,s')::r,.fn f',a',J=>if f'=f/\a'=a/\J=s then some (v,s')else Dk r (.fn f') a' J
 |_::_,.yl _,_,_=>none
def Aev(E:aZ):List (Nat×List I×F×I×F)->Prop
 |[]=>True
 |(f,a,s,v,b)::r=>Al E f a s (λu U=>u=v/\U=b)/\Aev E r
theorem Aq1{a}:∀(l:List (Nat×List I×F×I×F)) (x:List I) (J:F),Dk l (.yl a) x J=none
 |[],_,_=>rfl
 |_::_,_,_=>rfl
theorem Aih{E d}:∀{l:List (Nat×List I×F×I×F)},Aev E l->BU E d (Dk l (.fn d))
 |[],_=>λC w J b k v g j H i h=>by cases h
 |(f,a,s,v,B)::r,m=>λC w J b k u g j H i h=>by
  simp only[Dk]at h
  split at h
  ·rename_i c
   obtain⟨rfl,rfl,rfl⟩:=c;cases h;obtain⟨o,p⟩:=m.1 C w k j H i;refine⟨o,p.mono λe G c=>?_⟩
   cases e with
   |returned x=>obtain⟨v,g,n,⟨rfl,rfl⟩,q,t,y⟩:=c;exact⟨n,q,t,y⟩
   |panicked _=>exact c.elim
   |outgrown=>exact c.elim
  ·exact Aih m.2 C w J b k u g j H i h
theorem Bw{E l}(X:Aev E l)(c:∀f,E.pu f=true->False:=by intro f h;exact absurd (show false=true from h) zD):Bk E (Dk l):=
 ⟨λ_=>Aih X,λa C w J b i v d g H e h=>(by rw[Aq1]at h;cases h),λf h=>(c f h).elim⟩
abbrev Cc:=XE->Ad->F->Prop
def Sd(E:aZ)(h:Nat)(l:List (Nat×List I))(B:Nat)(Q:Cc)(C:aO)(w:World):Exit->Act->World->Prop:=λe g f=>
 ∃x a b c d,Jj x=e/\Has a b/\Q x b c/\cV E d f ⟨a,h,l,c⟩ g/\B<=O c/\bC C B w d B f
def T(E:aZ)(b:Nat)(l:List (Nat×List I))(B:Nat)(c:Code)(Q:Cc)(f:Ad)(J:F):Prop:=
 ∀(d:Option Nat) (n:Nat),(d=none\/Ln c=true)->∀(C:aO) (w:World) (e:Tr I) (a:Act),Has e f->cV E C w ⟨e,b,l,J⟩ a->B<=O J->c.wpIn (Cy d) n E.P (Sd E b l B Q C w) a w
def TO(E:aZ)(q:Nat)(l:List (Nat×List I))(B:Nat)(G r:List Oper)(K:Ad->F->Prop)(f:Ad)(J:F):Prop:=
 ∀(h:Option Nat) (n:Nat),(h=none\/D6 r=true)->∀(C:aO) (w:World) (s:Tr I) (a:Act),Has s f->cV E C w ⟨s,q,l,J⟩ a->B<=O J->∀(b:Array Oper) (i:Nat) (o:Exit->Act->World->Prop) (c:List Nat),b.toList=G->(∀j,j<r.length->r[j]? =b[i+j]?)->
  (∀m k p d e g,Has d e->K e g->cV E m k ⟨d,q,l,g⟩ p->B<=O g->bC C B w m B k->wpOpsIn (Cy h) n E.P b o c p k)->wpOpsIn (Cy h) n E.P b o (List.range' i r.length++c) a w
section
variable {E:aZ}{nt B:Nat}{df:List (Nat×List I)}{Q Q':Cc}{ρ ρ':Ad}{J J':F}{K:Ad->F->Prop}
theorem Sd.mono{C w e a d}(h:Sd E nt df B Q C w e a d)(y:∀x f J,Q x f J->Q' x f J):Sd E nt df B Q' C w e a d:=by
 obtain⟨x,b,c,i,g,j,k,l,m⟩:=h;exact⟨x,b,c,i,g,j,k,y _ _ _ l,m⟩
theorem Sd.from{C R w b e a f}(h:Sd E nt df B Q C w e a f)(W:bC R B b C B w):Sd E nt df B Q R b e a f:=by
 obtain⟨x,c,d,i,g,j,k,l,m,o,n⟩:=h;exact⟨x,c,d,i,g,j,k,l,m,o,W.trans n⟩
theorem T.mono{c}(h:T E nt df B c Q ρ J)(y:∀x ρ J,Q x ρ J->Q' x ρ J):T E nt df B c Q' ρ J:=
 λro n hn C w tm a i k hB=>wpIn_mono (h ro n hn C w tm a i k hB) λe m w' f=>f.mono y
theorem T.sub{c}(h:T E nt df B c Q ρ' J)(j:Km ρ' ρ):T E nt df B c Q ρ J:=
 λe n b C w g a d f=>h e n b C w g a (d.subL j) f
theorem T.wp{c}(h:T E nt df B c Q ρ J)(C w b a)(m:Has b ρ)(d:cV E C w ⟨b,nt,df,J⟩ a)(x:B<=O J):c.wp E.P (Sd E nt df B Q C w) a w:=(wpIn_wide (n:=0)).1 (h none 0 (.inl rfl) C w b a m d x)
theorem GO(h:Q .normal ρ J):T E nt df B .skip Q ρ J:=λ_ _ _ C w e a c d b=>wpIn_skip ⟨.normal,e,ρ,J,C,rfl,c,h,d,b,dJ _ _ _⟩
theorem LV{n}(h:Q .normal ρ J):T E nt df B (.label n) Q ρ J:=λ_ _ _ C w e a c d b=>wpIn_label ⟨.normal,e,ρ,J,C,rfl,c,h,d,b,dJ _ _ _⟩
theorem HC{n}(h:Q (.exit n) ρ J):T E nt df B (.exit n) Q ρ J:=λ_ _ _ C w e a c d b=>wpIn_exit ⟨.exit n,e,ρ,J,C,rfl,c,h,d,b,dJ _ _ _⟩
theorem ES(h:Q .ret ρ J):T E nt df B .ret Q ρ J:=λ_ _ _ C w e a c d b=>wpIn_ret ⟨.ret,e,ρ,J,C,rfl,c,h,d,b,dJ _ _ _⟩
def Pa(k:Ad->F->Prop)(Q:Cc):Cc
 |.normal=>k
 |x=>Q x
theorem sN{x y}(h:T E nt df B x (Pa (T E nt df B y Q) Q) ρ J):T E nt df B (.seq x y) Q ρ J:=by
 intro p n m C w K a u G t;simp only[Ln,bg]at m;refine wpIn_seq (wpIn_mono (h p n (m.imp (λh=>h) (·.1)) C w K a u G t) λe q L l=>?_)
 obtain⟨P,c,d,o,f,s,g,i,j,b,k⟩:=l;subst s;cases P with
 |normal=>exact wpIn_mono (i p n (m.imp (λh=>h) (·.2)) f L c q g j b) λe r N l=>l.from k
 |exit v=>exact⟨.exit v,c,d,o,f,rfl,g,i,j,b,k⟩
 |ret=>exact⟨.ret,c,d,o,f,rfl,g,i,j,b,k⟩
theorem Ab{c x y b}(P:Ah E ρ c=some (.bool b))(u:b=true->T E nt df B x Q ρ J)(r:b=false->T E nt df B y Q ρ J):T E nt df B (.cond c x y) Q ρ J:=by
 intro j n f C w k a g e i;simp only[Ln,bg]at f;have d:=Be e.glob e.tmps c;rw[g.opd P]at d;unfold R at d;cases b with
 |true=>exact wpIn_cond_true d (u rfl j n (f.imp (λh=>h) (·.1)) C w k a g e i)
 |false=>exact wpIn_cond_false d (r rfl j n (f.imp (λh=>h) (·.2)) C w k a g e i)
def Qf(v:Nat)(Q:Cc):Cc
 |.exit j=>cond (Nat.beq j v) (Q .normal) (Q (.exit j))
 |x=>Q x
theorem OO{v c}(h:T E nt df B c (Qf v Q) ρ J):T E nt df B (.block v c) Q ρ J:=by
 intro y n u C w K a x G s;refine wpIn_block (wpIn_mono (h y n u C w K a x G s) λe N P t=>?_)
 obtain⟨L,d,f,k,i,r,l,g,m,b,o⟩:=t;subst r;cases L with
 |normal=>exact⟨.normal,d,f,k,i,rfl,l,g,m,b,o⟩
 |ret=>exact⟨.ret,d,f,k,i,rfl,l,g,m,b,o⟩
 |exit j=>
  simp only[Qf]at g
  by_cases q:j=v
  ·subst q;rw[cb]at g;simp only[Jj,Exit.inBlock,if_true];exact⟨.normal,d,f,k,i,rfl,l,g,m,b,o⟩
  ·have p:Nat.beq j v=false:=by cases p:Nat.beq j v with|true=>exact absurd (bK p) q|false=>rfl
   rw[p]at g;simp only[Jj,Exit.inBlock,if_neg q];exact⟨.exit j,d,f,k,i,rfl,l,g,m,b,o⟩
theorem ON{c}(h:T E nt df B c Q ρ J):T E nt df B (.scope c) Q ρ J:=by
 intro t n r C w v a s u p;refine Sc (wpIn_mono (h t n r C w v a s u p) λe y G q=>?_)
 obtain⟨x,d,f,i,g,j,k,l,m,b,o⟩:=q;subst j;cases x<;>exact⟨_,d,f,i,g,rfl,k,l,m,b,o⟩
theorem Aw0{c}(q:Nat->Ad->F->Prop)(n)(h0:∃ρ',Km ρ' ρ/\q n ρ' J)
  (hs:∀n ρ J,q n ρ J->T E nt df B c (Pa (λρ' J'=>∃m f,m<n/\Km f ρ'/\q m f J') Q) ρ J):T E nt df B (.loop c) Q ρ J:=by
 intro ro m hn;have a8:∀(n:Nat) (ρ:Ad) (J:F),q n ρ J->∀(C:aO) (w:World) (v:Tr I) (a:Act),Has v ρ->cV E C w ⟨v,nt,df,J⟩ a->B<=O J->∀(b:Frame) (k:List Item) (o:List Frame),b.roundOf=(Cy ro).round->(Cy ro).fn b.fn->(Cy ro).room (o.length+1+m)->
   ∃e R w',Sd E nt df B Q C w e R w'/\ArrivesIn (Machine.fenced E.P (Cy ro)) E.P (lone (b.atR a (.code c::.inLoop c::k)) o w) b k o e R w':=by
  intro n
  induction n using Nat.strongRecOn with
  |_ n ih=>
   intro ρ J hI C w v a ht st hB b k o j t hr;obtain⟨e,a₁,w₁,hq,br⟩:=hs n ρ J hI ro m hn C w v a ht st hB b (.inLoop c::k) o j t hr;obtain⟨x',tm',ρ',J',U,h1,X,h3,h4,hB',h5⟩:=hq;subst h1;cases x' with
   |normal=>
    obtain⟨m,f,hm,cc,hI'⟩:=h3;obtain⟨L,G,P,r,h⟩:=ih m hm f J' hI' U w₁ tm' a₁ (X.subL cc) h4 hB' b k o j t hr;exact⟨L,G,P,r.from h5,.of_steps (StepsIn.trans br (.one (fenced_calm t hr rfl) stepR_inLoop)) h⟩
   |exit id=>exact⟨.exit id,a₁,w₁,⟨_,tm',ρ',J',U,rfl,X,h3,h4,hB',h5⟩,.pass (x:=.inLoop c) rfl (λ_ _=>.inl (by simp)) br⟩
   |ret=>exact⟨.ret,a₁,w₁,⟨_,tm',ρ',J',U,rfl,X,h3,h4,hB',h5⟩,.pass (x:=.inLoop c) rfl (λ_ _=>.inl (by simp)) br⟩
 intro C w v a ht st hB b k o j t hr;obtain⟨ρ',cc,hI⟩:=h0;obtain⟨e,R,w',hq,br⟩:=a8 n ρ' J hI C w v a (ht.subL cc) st hB b k o j t hr;exact⟨e,R,w',hq,.of_steps (.one (fenced_calm t hr rfl) stepR_loop) br⟩
theorem Ci{α:Type}{c}(ρI:α->Ad)(P:α->F->Prop)(d:α->Nat)(e)(h0:Km (ρI e) ρ)(h1:P e J)
  (j:∀a J,P a J->T E nt df B c (Pa (λg h=>∃b,d b<d a/\Km (ρI b) g/\P b h) Q) (ρI a) J):T E nt df B (.loop c) Q ρ J:=by
 refine Aw0 (λn ρ J=>∃a,n=d a/\ρ=ρI a/\P a J) (d e) ⟨ρI e,h0,e,rfl,rfl,h1⟩ ?_
 grind
theorem Bz{c}(a)(t:Nat->Ad)(P:Nat->F->Prop)(h:Km (t 0) ρ)(u:P 0 J)
  (j:∀i J,i<=a->P i J->T E nt df B c (Pa (λb e=>i<a/\Km (t (i+1)) b/\P (i+1) e) Q) (t i) J):T E nt df B (.loop c) Q ρ J:=by
 refine Ci t (λi J=>i<=a/\P i J) (λi=>a-i) 0 h ⟨bU _,u⟩ ?_
 rintro i J ⟨k,l⟩;refine(j i J k l).mono λx b e d=>?_
 cases x with
 |normal=>obtain⟨m,f,g⟩:=d;exact⟨i+1,by omega,f,by omega,g⟩
 |exit n=>exact d
 |ret=>exact d
theorem B7{id ops}(h:TO E nt df B ops.toList ops.toList (λρ J=>Q .normal ρ J) ρ J):T E nt df B (.region id ops false) Q ρ J:=by
 intro q n o C w s a ht st hB;refine wpIn_region ?_;rw[zM,<-kE];have:=h q n o C w s a ht st hB ops 0 (Sd E nt df B Q C w) [] rfl Z λe u a' b d J' g h2 j h4 l=>⟨.normal,b,d,J',e,rfl,g,h2,j,h4,l⟩
 grind
theorem Dd{G}(h:K ρ J):TO E nt df B G [] K ρ J:=by
 intro _ _ _ C w j a f g d c i k b _ _ e;simp only[lP,JX,fK];exact e C w a j ρ J f h g d (dJ _ _ _)
theorem TQ{G g r}(h:TO E nt df B G g (λd m=>TO E nt df B G r K d m) ρ J):TO E nt df B G (g++r) K ρ J:=by
 intro q n e C w tm a W st R b i o c p U S;rw[gW,<-List.range'_append_1,iC];simp only[D6,List.all_append,bg]at e;refine h q n (e.imp (λh=>h) (·.1)) C w tm a W st R b i o _ p (λj T=>?_) λs w' v f d m y L N P Q=>?_
 ·grind
 ·refine L q n (e.imp (λh=>h) (·.2)) s w' f v y N P b (i+g.length) o c p (λj T=>?_) λt w2 x k l u X q2 q3 qB q4=>S t w2 x k l u X q2 q3 qB (Q.trans q4)
  have:=U (g.length+j) Z
  grind
theorem QO(n){G r}(h:TO E nt df B G (r.take n) (λa b=>TO E nt df B G (r.drop n) K a b) ρ J):TO E nt df B G r K ρ J:=by
 have:=TQ h
 rwa[gK]at this
theorem TO.mono{ops r K'}(h:TO E nt df B ops r K ρ J)(k:∀ρ J,K ρ J->K' ρ J):TO E nt df B ops r K' ρ J:=
 λL n t C w P a ht st q d i l b o h2 hQ=>h L n t C w P a ht st q d i l b o h2 λg w' a' tm' f J' x q2=>hQ g w' a' tm' f J' x (k _ _ q2)
def Ga:Op->Bool
 |.defer _=>false
 |_=>true
theorem L1{b o r}(h:b=none\/D6 (o::r)=true):CP b o.op/\(b=none\/D6 r=true):=by
 rcases h with h|h
 ·exact⟨.inl h,.inl h⟩
 ·simp only[D6,gX,bg]at h;exact⟨.inr Z,.inr h.2⟩
theorem Qg{G r o g}(x:Bk E g){ρ₁ J₁}
  (h:∀e,Has e ρ->∃b,Yi E G o g ⟨e,nt,df,J⟩=some ⟨b,nt,df,J₁⟩/\Has b ρ₁)(k:TO E nt df B G r K ρ₁ J₁):TO E nt df B G (o::r) K ρ J:=by
 intro ro n hn C w e a ht st L c i f d W N X;obtain⟨p,q⟩:=L1 hn;obtain⟨b,h1,m⟩:=h e ht
 have ho:c[i]? =some o:=by have:=N 0 zS;grind
 simp only[cZ,kI,dL,wpOpsIn,ho];have l:Yi E c.toList o g ⟨e,nt,df,J⟩=some ⟨b,nt,df,J₁⟩:=Z;have:=VX (K:=wpOpsIn (Cy ro) n E.P c f (List.range' (i+1) r.length++d)) (Q:=f) x st l (ro:=ro) (n:=n) (hpl:=p) λP w' T s v=>
  k ro n q P w' b T m s (bD L v.next) c (i+1) f d W (λj hj=>by have:=N (j+1) Z;grind)
   λR w2 U t u S q1 q2 q3 qB q4=>X R w2 U t u S q1 q2 q3 qB ((v.base L).trans q4)
 rcases this with⟨m,y⟩|⟨m,y⟩
 ·grind
 ·rw[if_neg Z];exact⟨λ_ _=>trivial,y⟩
def Dt:Option Nat->I->Ad->Ad
 |none,_,a=>a
 |some d,v,a=>(d,v)::a
def B0(a:Nat):Option Nat->Bool
 |none=>true
 |some d=>Nat.blt d a
theorem C6{n dst}(g:B0 nt dst=true)(m:Has n ρ)(v):∃a,Ka dst n nt v=some a/\Has a (Dt dst v ρ):=by
 cases dst with
 |none=>exact⟨n,rfl,m⟩
 |some d=>
  refine⟨n.put (d+1) d (some v),?_,m.put d v⟩;have g:Nat.blt d nt=true:=g;simp only[Ka,g,cond_true,Ef]
theorem Rk{G o a s}(H:Bn G o s.tm=some true)(S:Ga o.op=true):
  Yi E G o a s=match bB E o.op a s.tm s.sto with
   |some (v,J)=>match Ka o.dst s.tm s.nt v with
    |some d=>some ⟨d,s.nt,s.df,J⟩
    |none=>none
   |none=>none:=by
 unfold Yi;rw[H];simp only
 split
 ·rename_i c b;rw[b]at S;simp[Ga]at S
 ·rfl
theorem X4{G r op dst}{l:Nat}{pos after a v c}(x:Bk E a)(S:Ga op=true)(g:B0 nt dst=true)(h:As E a op ρ J v c)
  (k:TO E nt df B G r K (Dt dst v ρ) c):TO E nt df B G ({ dst:=dst,op:=op,type:=l,pos:=pos,after:=after,guard:=none }::r) K ρ J:=by
 refine Qg x (λe d=>?_) k
 obtain⟨b,f,i⟩:=C6 (dst:=dst) g d v;refine⟨b,?_,i⟩;rw[Rk (s:=⟨e,nt,df,J⟩) rfl S];simp only[h e d,f]
theorem Az{G r f b}{c:Array Nat}{dst}{l:Nat}{pos after}{k:Nat}{first y vs t d}(hd:B0 nt dst=true)
  (hf:Ah E ρ f=some (.fn (.func k) first y))(ha:Kc E ρ b.toList=some vs)(hl:first++vs++y=t)(hc:Al E k t J d)
  (kk:∀v s,d v s->TO E nt df B G r K (Dt dst v ρ) s):TO E nt df B G ({ dst:=dst,op:=.call ⟨.value f,b,c⟩,type:=l,pos:=pos,after:=after,guard:=none }::r) K ρ J:=by
 intro ro n hn C w tm a S h hB g i QQ o br hr hQ;obtain⟨P,Q⟩:=L1 hn
 have ho:g[i]? =some { dst:=dst,op:=.call ⟨.value f,b,c⟩,type:=l,pos:=pos,after:=after,guard:=none }:=by have:=hr 0 zS;grind
 simp only[cZ,kI,dL,wpOpsIn,ho];have hw:Region.wanted { dst:=dst,op:=.call ⟨.value f,b,c⟩,type:=l,pos:=pos,after:=after,guard:=none } (yielded g a.tmps)=true:=rfl;rw[if_pos hw];refine Ev P ?_;have m:=Be h.glob h.tmps f;rw[S.opd hf]at m;unfold R at m;obtain⟨p,q,m,hp,hq⟩:=m;have bp:=Dm h.glob h.tmps b.toList;rw[S.opds ha]at bp
 have bs:RL C (O J) w t (p++b.map a.eval++q).toList:=by
  subst hl;simp only[pM,c_];exact(hp.append bp).append hq
 obtain⟨⟨fn,g1,g2,g3⟩,b8⟩:=hc C w _ h.sim h.glob bs
 have bq:(execOp a.eval { dst:=dst,op:=.call ⟨.value f,b,c⟩,type:=l,pos:=pos,after:=after,guard:=none }).run E.P w=.ok (.enter k (p++b.map a.eval++q)) w:=by
  have u:fn.name≠ "runtime.NumGoroutine" :=Z;have L:fn.body≠none:=Z
  simp[execOp,resolve,m,Deferred.ofValue,invoke,callFunc,g1,u,L]
 unfold Oper.wp;rw[bq,Oper.upon_enter];refine b8.mono λe w' N=>?_
 cases e with
 |returned x=>
  obtain⟨v,s,C',k0,k1,T,k3⟩:=N;obtain⟨U,h1,h2⟩:=C6 (dst:=dst) hd S v
  exact kk v s k0 ro n Q C' w' U _ h2 (h.put k1 T k3 h1) (bD hB T.next) g (i+1) QQ o br (λj hj=>by have:=hr (j+1) Z;grind)
   λC2 w2 a2 W X J2 q1 q2 q3 qB q4=>hQ C2 w2 a2 W X J2 q1 q2 q3 qB ((T.base hB).trans q4)
 |panicked _=>exact N.elim
 |outgrown=>exact N.elim
theorem Hf{G}{o a:Oper}{j d:Nat}{b n c}(m:Has c ρ)(H:o.guard=some (j,n))(h:G[j]? =some a)(g:a.dst=some d)(Q:Ad.at ρ d=some (.bool b)):Bn G o c=some (cond b n (!n)):=by
 simp only[Bn,H,h,g,m d _ Q]
theorem Bi{G r}{o l:Oper}{a v c}{j d:Nat}{b n}(H:o.guard=some (j,n))(u:G[j]? =some l)(t:l.dst=some d)(Q:Ad.at ρ d=some (.bool b))(i:cond b n (!n)=true)
  (x:Bk E a)(S:Ga o.op=true)(g:B0 nt o.dst=true)(h:As E a o.op ρ J v c)(k:TO E nt df B G r K (Dt o.dst v ρ) c):TO E nt df B G (o::r) K ρ J:=by
 refine Qg x (λm e=>?_) k
 obtain⟨f,p,q⟩:=C6 (dst:=o.dst) g e v;refine⟨f,?_,q⟩
 rw[Rk (s:=⟨m,nt,df,J⟩) (by rw[Hf e H u t Q,i]) S]
 simp only[h m e,p]
theorem Co{G r}{o e:Oper}{j d:Nat}{b n}(H:o.guard=some (j,n))(h:G[j]? =some e)(t:e.dst=some d)(Q:Ad.at ρ d=some (.bool b))(i:cond b n (!n)=false)
  (g:B0 nt o.dst=true)(k:TO E nt df B G r K (Dt o.dst An ρ) J):TO E nt df B G (o::r) K ρ J:=by
 refine Qg sQ (λm c=>?_) k
 obtain⟨a,l,f⟩:=C6 (dst:=o.dst) g c An;refine⟨a,?_,f⟩;unfold Yi;rw[Hf c H h t Q,i]
 grind
end
def Hg:List I->Nat->Ad
 |[],_=>[]
 |v::r,i=>(i,v)::Hg r (i+1)
theorem L3:∀(l:List I) (i j:Nat),Ad.at (Hg l i) j=if i<=j/\j<i+l.length then l[j-i]? else none
 |[],i,j=>by simp only[Hg,Ad.at];grind
 |x::r,i,j=>by
  simp only[Hg,Ad.at,cZ]
  by_cases b:i=j
  ·subst b;simp[cb]
  ·have a:Nat.beq i j=false:=by cases a:Nat.beq i j with|true=>exact absurd (bK a) b|false=>rfl
   rw[a,cond_false,L3 r (i+1) j]
   grind
def Us(E:aZ)(f:Ad)(J:F):List ResultVar->Option (List I)
 |[]=>some []
 |.tmp t::r=>match Ad.at f t,Us E f J r with
  |some v,some l=>some (v::l)
  |_,_=>none
 |.cell a t::r=>match Ay E.P t with
  |some d=>match Ad.at f a with
   |some (.pr b c)=>match J.cells b with
    |some e=>match Cz d.size d.isAgg (e.drop c),Us E f J r with
     |some v,some l=>some (v::l)
     |_,_=>none
    |none=>none
   |_=>none
  |none=>none
theorem S8{E n f J}(m:Has n f):∀{j:List ResultVar} {c:List I},Us E f J j=some c->Ahw E.P n J j=some c
 |[],c,h=>h
 |.tmp t::r,c,h=>by
  simp only[Us]at h
  split at h
  ·rename_i v l i e
   cases h;simp only[Ahw,uO,m t v i,S8 m e]
  grind
 |.cell a t::r,c,h=>by
  simp only[Us]at h
  split at h
  ·rename_i q g
   split at h
   ·rename_i b o k
    split at h
    ·rename_i p d
     split at h
     ·rename_i v l i e
      cases h;simp only[Ahw,uO,g,m a _ k,d,Ml,i,S8 m e]
     grind
    grind
   grind
  grind
def jI(E:aZ)(e:Func)(N:Nat)(a:I->F->Prop)(f:Ad)(J:F):Prop:=
 ∃d,Us E f J e.results.toList=some d/\∃c b,Ds J b/\N<=O b/\Fz J b (pW d) c/\a c b
def AD(K:Ad->F->Prop):Cc
 |.normal=>K
 |.ret=>K
 |.exit _=>λ_ _=>False
theorem Aw1{E f fn c a J g}(N:E.P.funcs[f]? =some fn)(b:(fn.name== "runtime.NumGoroutine")=false)(P:fn.body=some c)(q:Nat.ble a.length fn.ntmps=true)
  (h:bY J->I.unds (O J) a=true->T E fn.ntmps [] (O J) c (AD (jI E fn (O J) g)) (Hg a 0) J):Al E f a J g:=by
 intro C w vs K H G;refine⟨⟨fn,N,b,Z⟩,?_⟩;refine calls_of_wp_defers N P ((wpIn_wide (n:=0)).1 ?_);have q:=dB q;have st:=Ur (E:=E) (fn:=fn) K H G q
 have W:Has (Kz a 0 .e) (Hg a 0):=λi v X=>by
  rw[Ig];rw[L3]at X
  grind
 refine wpIn_mono (h K.wfs (RL.unds _ _ G) none 0 (.inl rfl) C w _ _ W st Y) λe s l U=>?_
 obtain⟨x,a7,B,o,m,L,Q,t,r,hB,S⟩:=U;subst L;have p:jI E fn (O J) g B o->Leaves E.P fn s.tmps (λ
   |.returned x,l=>∃v j m,g v j/\aX E.P m l j/\bC C (O J) w m (O j) l/\R m (O j) l v x
   |_,_=>False) s.defers .returning l:=by
  intro hx;obtain⟨y,r1,v',j,r2,r3,r4,r5⟩:=hx
  have k:s.defers=[]:=by
   have u:=r.dfs;cases k:s.defers with
   |nil=>rfl
   |cons d ds=>rw[k]at u;unfold DR at u;exact u.elim
  obtain⟨x,k1,k2⟩:=Hx (fn:=fn) r.sim r.tmps (S8 Q r1);rw[k];exact⟨x,k1,v',j,_,r5,r.sim.frz r2,(S.trans (qL m j _ l)).top r3,r4.R r.sim k2⟩
 cases x with
 |normal=>exact p t
 |ret=>exact p t
 |exit id=>exact t.elim
class Se (E:aZ):Prop where
 ok:∀g cs,E.gl g=some cs->I.unds 0 cs=true
 lp:E.loops=[]
mutual
theorem I.und_mono {N M:Nat} (h:N<=M):∀(x:I),I.und N x=true->I.und M x=true
 |.any,_=>rfl
 |.bool _,_=>rfl
 |.int _ _,_=>rfl
 |.str _,_=>rfl
 |.nil _,_=>rfl
 |.flt _ _,_=>rfl
 |.pr a _,k=>Ce (cC (Gy k) h)
 |.sr a _ _ _ _,k=>Ce (cC (Gy k) h)
 |.mp a,k=>Ce (cC (Gy k) h)
 |.it a,k=>Ce (cC (Gy k) h)
 |.stp a,k=>Ce (cC (Gy k) h)
 |.yl a,k=>Ce (cC (Gy k) h)
 |.pv cs,k=>I.unds_mono h cs k
 |.sv cs _ _ _,k=>I.unds_mono h cs k
 |.fn _ p q,k=>by simp only[I.und,bg]at k⊢;exact⟨I.unds_mono h p k.1,I.unds_mono h q k.2⟩
 |.ifc _ x,k=>I.und_mono h x k
 |.agg cs,k=>I.unds_mono h cs k
 |.tup cs,k=>I.unds_mono h cs k
theorem I.unds_mono {N M:Nat} (h:N<=M):∀(l:List I),I.unds N l=true->I.unds M l=true
 |[],_=>rfl
 |x::r,k=>by simp only[I.unds,bg]at k⊢;exact⟨I.und_mono h x k.1,I.unds_mono h r k.2⟩
end
theorem Iw.frz{E}[Se E]{C N w U}(h:Iw C N w E):Iw (C.keep U) (O U) w E:=by
 refine⟨λg d H=>R.cut (C.keep_sub U) _ _ (I.unds_mono (bU _) d (Se.ok g d H)) (h.1 g d H),λc P j=>?_,λL e=>by rw[Se.lp]at e;cases e⟩
 obtain⟨f,i⟩:=h.2.1 c P j;refine⟨λb=>f ?_,i⟩
 rcases b with b|⟨a,o,b⟩
 ·exact .inl b
 ·exact .inr ⟨a,o,(C.keep_sub U).loc _ _ b⟩
def Mm(J U:F):Ad->Ad->Prop
 |[],_=>True
 |(i,b)::r,a=>(∃v,Ad.at a i=some v/\Fz J U v b)/\Mm J U r a
theorem Mm.at{J U}:∀{b c:Ad},Mm J U b c->∀i e,Ad.at b i=some e->∃v,Ad.at c i=some v/\Fz J U v e
 |[],c,_,i,v,h=>by simp[Ad.at]at h
 |(j,u)::r,c,h,i,v,a=>by
  obtain⟨f,g⟩:=h;simp only[Ad.at]at a;cases d:Nat.beq j i with
  |true=>rw[d]at a;cases a;have:=bK d;subst this;exact f
  |false=>rw[d]at a;exact Mm.at g i v a
theorem Mn:∀(l:Ad) (i:Nat),(Oj l).get i=Ad.at l i
 |[],i=>rfl
 |(j,v)::r,i=>by
  show(Tr.put (j+1) (Oj r) j (some v)).get i=_
  rw[jL];simp only[Ad.at]
  by_cases h:i=j
  ·subst h;rw[if_pos rfl,cb,cond_true]
  ·rw[if_neg h]
   have a:Nat.beq j i=false:=by cases a:Nat.beq j i with|true=>exact absurd (bK a).symm h|false=>rfl
   rw[a,cond_false,Mn r i]
theorem Kf(l):Has (Oj l) l:=λi v h=>by rw[Mn];exact h
theorem cV.frz{E}[Se E]{C w n g J U a f s}(b:cV E C w ⟨n,g,[],J⟩ a)(m:Has n f)(N:Ds J U)(j:∀i h,Ad.at s i=some h->∃v,Ad.at f i=some v/\Fz J U v h):
  cV E (C.keep U) w ⟨Oj s,g,[],U⟩ a:=by
 refine⟨b.sim.frz N,Iw.frz b.glob,λi v c=>?_,b.size,?_⟩
 ·have c:(Oj s).get i=some v:=c;rw[Mn]at c;obtain⟨u,k,l⟩:=j i v c;exact l.R b.sim (b.tmps i u (m i u k))
 ·have:=b.dfs;cases e:a.defers with
  |nil=>unfold DR;trivial
  |cons d o=>rw[e]at this;unfold DR at this;exact this.elim
theorem PZ{E}[Se E]{b B c Q f J}(U s)(N:Ds J U)(x:B<=O U)(j:Mm J U s f)(k:T E b [] B c Q s U):T E b [] B c Q f J:=
 λi n g C w o a h l _=>wpIn_mono (k i n g (C.keep U) w _ a (Kf s) (l.frz h N j.at) x) λe m p d=>d.from (qL C U B w)
theorem JK{E}[Se E]{g B G r K f J}(U s)(N:Ds J U)(x:B<=O U)(j:∀i h,Ad.at s i=some h->∃v,Ad.at f i=some v/\Fz J U v h)(k:TO E g [] B G r K s U):TO E g [] B G r K f J:=
 λW n y C w tm a L X _ c i o b q t u=>k W n y (C.keep U) w _ a (Kf s) (X.frz L N j) x c i o b q t λl w2 p d e m P Q R T S=>u l w2 p d e m P Q R T ((qL C U B w).trans S)
end Go.AM

