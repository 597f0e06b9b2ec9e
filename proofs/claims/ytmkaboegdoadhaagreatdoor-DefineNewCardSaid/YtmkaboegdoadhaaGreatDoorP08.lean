/- A part of the proof; shortened by program. -/
import Derived.Test.YtmkaboegdoadhaaGreatDoorP07
set_option maxRecDepth 100000
set_option maxHeartbeats 4000000
set_option linter.unusedSimpArgs false
set_option linter.unusedVariables false
namespace Go.AM
open Go
section
mutual
def AV.und (N:Nat):AV->Bool
 |.pr a _=>Nat.blt a N
 |.sr a _ _ _ _=>Nat.blt a N
 |.mp a=>Nat.blt a N
 |.it a=>Nat.blt a N
 |.stp a=>Nat.blt a N
 |.yl a=>Nat.blt a N
 |.pv cs=>AV.unds N cs
 |.sv cs _ _ _=>AV.unds N cs
 |.fn _ p q=>AV.unds N p&&AV.unds N q
 |.ifc _ x=>AV.und N x
 |.agg cs=>AV.unds N cs
 |.tup vs=>AV.unds N vs
 |_=>true
def AV.unds (N:Nat):List AV->Bool
 |[]=>true
 |x::r=>AV.und N x&&AV.unds N r
end
structure Ak2 (C' C:Ctx):Prop where
 loc:∀a p,C'.loc a=some p->C.loc a=some p
 stm:C'.stm=C.stm
 lr:C'.lr=C.lr
 res:C'.res=C.res
section
variable {C:Ctx}{N M:Nat}{w:World}
theorem Ce{a N}(h:a<N):Nat.blt a N=true:=by simpa using h
theorem Gy{a N}(h:Nat.blt a N=true):a<N:=by simpa using h
mutual
theorem R.und:∀(x:AV) (v:Value),R C N w x v->AV.und N x=true
 |.any,_,_=>rfl
 |.bool _,_,_=>rfl
 |.int _ _,_,_=>rfl
 |.str _,_,_=>rfl
 |.nil _,_,_=>rfl
 |.flt _ _,_,_=>rfl
 |.pr a _,v,h=>by unfold R at h;obtain⟨_,_,h,_⟩:=h;exact Ce h
 |.sr a _ _ _ _,v,h=>by unfold R at h;obtain⟨_,_,_,h,_⟩:=h;exact Ce h
 |.mp a,v,h=>by unfold R at h;obtain⟨_,_,h,_⟩:=h;exact Ce h
 |.it a,v,h=>by unfold R at h;obtain⟨_,_,h,_⟩:=h;exact Ce h
 |.stp a,v,h=>by unfold R at h;exact Ce h.2
 |.yl a,v,h=>by unfold R at h;exact Ce h.2
 |.pv cs,v,h=>by unfold R at h;obtain⟨c,o,_,_,h⟩:=h;exact RC.unds cs c o h
 |.sv cs sz len cap,v,h=>by
  unfold R at h;obtain⟨ado,k,_,h1,_,h2,h3,h4⟩:=h;cases ado with
  |none=>
   have hk:=h3 rfl
   have hl:len=0:=by omega
   rw[hl,dw_]at h2;have:=ce_ h2;subst this;rfl
  |some ad=>exact RC.unds cs _ _ (h4 ad rfl).2.2
 |.fn _ p q,v,h=>by
  unfold R at h;obtain⟨a,b,_,h1,h2⟩:=h;simp only[AV.und,ad_];exact⟨RL.unds p _ h1,RL.unds q _ h2⟩
 |.ifc _ x,v,h=>by unfold R at h;obtain⟨y,_,h⟩:=h;exact R.und x y h
 |.agg cs,v,h=>by unfold R at h;obtain⟨a,_,h,_⟩:=h;exact RL.unds cs _ h
 |.tup vs,v,h=>by unfold R at h;obtain⟨a,_,h⟩:=h;exact RL.unds vs _ h
theorem RC.unds:∀(cs:List AV) (c o:Nat),RC C N w c cs o->AV.unds N cs=true
 |[],_,_,_=>rfl
 |x::r,c,o,h=>by
  unfold RC at h;obtain⟨⟨v,_,_,h1⟩,h2⟩:=h;simp only[AV.unds,ad_];exact⟨R.und x v h1,RC.unds r c (o+1) h2⟩
theorem RL.unds:∀(l:List AV) (vs:List Value),RL C N w l vs->AV.unds N l=true
 |[],[],_=>rfl
 |x::r,v::s,h=>by
  unfold RL at h;simp only[AV.unds,ad_];exact⟨R.und x v h.1,RL.unds r s h.2⟩
 |[],_::_,h=>by unfold RL at h;grind
 |_::_,[],h=>by unfold RL at h;grind
end
theorem Ak2.own{C'}(k:Ak2 C' C){c}(h:C'.own c):C.own c:=by
 rcases h with h|⟨a,o,h⟩
 ·exact .inl (by rw[←k.res];exact h)
 ·exact .inr ⟨a,o,k.loc a _ h⟩
variable {C':Ctx}
mutual
theorem R.cut (k:Ak2 C' C):∀(x:AV) (v:Value),AV.und M x=true->R C N w x v->R C' M w x v
 |.any,_,_,_=>by unfold R;trivial
 |.bool _,_,_,h=>by unfold R at *;exact h
 |.int _ _,_,_,h=>by unfold R at *;exact h
 |.str _,_,_,h=>by unfold R at *;exact h
 |.nil _,_,_,h=>by unfold R at *;exact h
 |.flt _ _,_,_,h=>by unfold R at *;exact h
 |.pr a _,v,b,h=>by
  unfold R at *;obtain⟨ad,h1,h2,h3⟩:=h;exact⟨ad,h1,Gy b,fun c o hc=>h3 c o (k.loc _ _ hc)⟩
 |.sr a _ _ _ _,v,b,h=>by
  unfold R at *;obtain⟨ad,kk,h1,h2,h3,h4,h5⟩:=h;exact⟨ad,kk,h1,Gy b,h3,h4,fun c o hc=>h5 c o (k.loc _ _ hc)⟩
 |.mp a,v,b,h=>by
  unfold R at *;obtain⟨c,h1,h2,h3⟩:=h;exact⟨c,h1,Gy b,fun c' o hc=>h3 c' o (k.loc _ _ hc)⟩
 |.it a,v,b,h=>by
  unfold R at *;obtain⟨c,h1,h2,h3⟩:=h;exact⟨c,h1,Gy b,fun c' o hc=>h3 c' o (k.loc _ _ hc)⟩
 |.stp a,v,b,h=>by unfold R at *;rw[k.stm];exact⟨h.1,Gy b⟩
 |.yl a,v,b,h=>by unfold R at *;rw[k.stm];exact⟨h.1,Gy b⟩
 |.pv cs,v,b,h=>by
  unfold R at *;obtain⟨c,o,h1,h2,h3⟩:=h;exact⟨c,o,h1,fun hne ho=>h2 hne (k.own ho),RC.cut k cs c o b h3⟩
 |.sv cs sz len cap,v,b,h=>by
  unfold R at *;obtain⟨ado,kk,h1,h2,h3,h4,h0,hh⟩:=h;refine⟨ado,kk,h1,h2,h3,h4,h0,fun ad ha=>?_⟩
  obtain⟨h5,h6,h7⟩:=hh ad ha;exact⟨h5,fun hne ho=>h6 hne (k.own ho),RC.cut k cs _ _ b h7⟩
 |.fn _ p q,v,b,h=>by
  simp only[AV.und,ad_]at b;unfold R at *;obtain⟨a,c,h1,h2,h3⟩:=h;exact⟨a,c,h1,RL.cut k p _ b.1 h2,RL.cut k q _ b.2 h3⟩
 |.ifc _ x,v,b,h=>by unfold R at *;obtain⟨y,h1,h2⟩:=h;exact⟨y,h1,R.cut k x y b h2⟩
 |.agg cs,v,b,h=>by unfold R at *;obtain⟨a,h1,h2,h3⟩:=h;exact⟨a,h1,RL.cut k cs _ b h2,h3⟩
 |.tup vs,v,b,h=>by unfold R at *;obtain⟨a,h1,h2⟩:=h;exact⟨a,h1,RL.cut k vs _ b h2⟩
theorem RC.cut (k:Ak2 C' C):∀(cs:List AV) (c o:Nat),AV.unds M cs=true->RC C N w c cs o->RC C' M w c cs o
 |[],_,_,_,_=>by unfold RC;trivial
 |x::r,c,o,b,h=>by
  simp only[AV.unds,ad_]at b;unfold RC at *;obtain⟨⟨v,h1,h2,h3⟩,h4⟩:=h;exact⟨⟨v,h1,h2,R.cut k x v b.1 h3⟩,RC.cut k r c (o+1) b.2 h4⟩
theorem RL.cut (k:Ak2 C' C):∀(l:List AV) (vs:List Value),AV.unds M l=true->RL C N w l vs->RL C' M w l vs
 |[],[],_,_=>by unfold RL;trivial
 |x::r,v::s,b,h=>by
  simp only[AV.unds,ad_]at b;unfold RL at *;exact⟨R.cut k x v b.1 h.1,RL.cut k r s b.2 h.2⟩
 |[],_::_,_,h=>by unfold RL at h;grind
 |_::_,[],_,h=>by unfold RL at h;grind
end
def Jc(N:Nat)(es:List (Key×AV)):Bool:=es.all fun x=>AV.und N x.2
theorem ER.und:∀{es:List (Key×AV)} {L:List MapEntry},ER C N w es L->Jc N es=true
 |[],[],_=>rfl
 |x::r,f::s,h=>by
  unfold ER at h;simp only[Jc,cs_,ad_];exact⟨R.und _ _ h.1.2,ER.und h.2⟩
 |[],_::_,h=>by unfold ER at h;grind
 |_::_,[],h=>by unfold ER at h;grind
theorem ER.cut(k:Ak2 C' C):∀{es:List (Key×AV)} {L:List MapEntry},Jc M es=true->ER C N w es L->ER C' M w es L
 |[],[],_,_=>by unfold ER;trivial
 |x::r,f::s,b,h=>by
  simp only[Jc,cs_,ad_]at b;unfold ER at *;exact⟨⟨h.1.1,R.cut k _ _ b.1 h.1.2⟩,ER.cut k b.2 h.2⟩
 |[],_::_,_,h=>by unfold ER at h;grind
 |_::_,[],_,h=>by unfold ER at h;grind
end
mutual
inductive Fz (σ τ:Sto):AV->AV->Prop
 |same {v:AV}:AV.und (nx τ) v=true->Fz σ τ v v
 |any {v:AV}:Fz σ τ v .any
 |pr {a off:Nat} {vs l:List AV}:σ.get a=some (.cells vs)->τ.get a=none->FzL σ τ (vs.drop off) l->Fz σ τ (.pr a off) (.pv l)
 |sr {a off sz len:Nat} {cap:Option Nat} {vs cs l:List AV}:σ.get a=some (.cells vs)->τ.get a=none->Dr (len*sz) (vs.drop off)=some cs->FzL σ τ cs l->Fz σ τ (.sr a off sz len cap) (.sv l sz len none)
 |nils {sz:Nat} {cap:Option Nat}:(∀q,cap=some q->q=0)->Fz σ τ (.nil (.slice none 0 0)) (.sv [] sz 0 cap)
 |agg {a b:List AV}:FzL σ τ a b->Fz σ τ (.agg a) (.agg b)
 |tup {a b:List AV}:FzL σ τ a b->Fz σ τ (.tup a) (.tup b)
 |sv {a b:List AV} {sz len:Nat} {cap cap':Option Nat}:(∀q,cap'=some q->cap=some q)->FzL σ τ a b->Fz σ τ (.sv a sz len cap) (.sv b sz len cap')
inductive FzL (σ τ:Sto):List AV->List AV->Prop
 |nil:FzL σ τ [] []
 |cons {x y:AV} {r s:List AV}:Fz σ τ x y->FzL σ τ r s->FzL σ τ (x::r) (y::s)
end
theorem FzL.length{σ τ}:∀{a b:List AV},FzL σ τ a b->a.length=b.length
 |_,_,.nil=>rfl
 |_,_,.cons _ h=>by simp[FzL.length h]
theorem FzL.same{σ τ}:∀{a:List AV},AV.unds (nx τ) a=true->FzL σ τ a a
 |[],_=>.nil
 |x::r,h=>by simp only[AV.unds,ad_]at h;exact .cons (.same h.1) (FzL.same h.2)
abbrev dj_:=@FzL.same
section
variable {P:Program}{C:Ctx}{w:World}{σ τ:Sto}
theorem Ctx.keep_sub(C τ):Ak2 (C.keep τ) C:=by
 refine⟨fun a p h=>?_,rfl,rfl,rfl⟩
 simp only[Ctx.keep]at h
 grind
theorem Sim.freed(h:Sim P C w σ){a c o}(hl:C.loc a=some (c,o))(ht:τ.get a=none):¬(C.keep τ).own c:=by
 rintro(hr|⟨b,o',hb⟩)
 ·exact h.rdis a c o hl hr
 ·simp only[Ctx.keep]at hb
  split at hb
  ·rename_i hs
   have:=h.inj a b c o o' hl hb
   grind
  grind
mutual
theorem Fz.R (h:Sim P C w σ):∀{v v':AV} {x:Value},Fz σ τ v v'->R C (nx σ) w v x->R (C.keep τ) (nx τ) w v' x
 |v,_,x,.same hu,hr=>R.cut (C.keep_sub τ) v x hu hr
 |v,_,x,.any,hr=>by unfold AM.R;trivial
 |.pr a off,_,x,.pr (vs:=vs) (l:=l) hg ht hl,hr=>by
  obtain⟨c,o,cs,T,k1,k2,k3⟩:=h.obj a _ hg;unfold AM.R at hr⊢;obtain⟨ad,rfl,_,h3⟩:=hr;have:=h3 c o k1;subst this;exact⟨c,o+off,rfl,fun _=>h.freed k1 ht,FzL.RC h hl (k3.drop off)⟩
 |.sr a off sz len cap,_,x,.sr (vs:=vs) (cs:=cs) (l:=l) hg ht hk hl,hr=>by
  obtain⟨c,o,cs₀,T,k1,k2,k3⟩:=h.obj a _ hg;unfold AM.R at hr⊢;obtain⟨ad,k,rfl,_,h4,h5,h6⟩:=hr;obtain⟨q1,q2⟩:=h6 c o k1;obtain⟨t1,t2⟩:=Hu hk
  have bl:l.length=len*sz:=by rw[←hl.length];exact t2
  refine⟨some ad,k,rfl,h4,fun q hq=>(by cases hq),bl,fun hh=>(by cases hh),fun ad' ha=>?_⟩
  cases ha
  have ec:l≠[]->0<k:=fun hne=>by
   rcases de_ len with h0|h0
   ·rw[h0,dw_]at bl;grind
   ·omega
  refine⟨gr,fun hne=>by rw[q1 (ec hne)];exact h.freed k1 ht,?_⟩
  by_cases hne:l=[]
  ·subst hne;unfold AM.RC;trivial
  ·rw[q1 (ec hne)];exact FzL.RC h hl ((k3.drop off).take _ hk)
 |_,_,x,.nils (sz:=sz) hc,hr=>by
  unfold AM.R at hr⊢
  grind
 |_,_,x,.agg hl,hr=>by
  unfold AM.R at hr⊢;obtain⟨a,h1,h2,h3⟩:=hr;exact⟨a,h1,FzL.RL h hl h2,h3⟩
 |_,_,x,.tup hl,hr=>by
  unfold AM.R at hr⊢;obtain⟨a,h1,h2⟩:=hr;exact⟨a,h1,FzL.RL h hl h2⟩
 |_,_,x,.sv (a:=a) (b:=b) hc hl,hr=>by
  unfold AM.R at hr⊢;obtain⟨ado,k,h1,h2,h3,h4,h5,h6⟩:=hr
  refine⟨ado,k,h1,h2,fun q hq=>h3 q (hc q hq),by rw[←hl.length];exact h4,h5,fun ad ha=>?_⟩
  obtain⟨q1,q2,q3⟩:=h6 ad ha;refine⟨q1,fun hne ho=>q2 (fun h0=>?_) ((C.keep_sub τ).own ho),FzL.RC h hl q3⟩
  have:=hl.length
  grind
theorem FzL.RL (h:Sim P C w σ):∀{l l':List AV} {xs:List Value},FzL σ τ l l'->RL C (nx σ) w l xs->RL (C.keep τ) (nx τ) w l' xs
 |_,_,[],.nil,hr=>by unfold AM.RL;trivial
 |_,_,_::_,.nil,hr=>by unfold AM.RL at hr;grind
 |_,_,[],.cons _ _,hr=>by unfold AM.RL at hr;grind
 |_,_,x::xs,.cons h1 h2,hr=>by unfold AM.RL at hr⊢;exact⟨Fz.R h h1 hr.1,FzL.RL h h2 hr.2⟩
theorem FzL.RC (h:Sim P C w σ):∀{l l':List AV} {c o:Nat},FzL σ τ l l'->RC C (nx σ) w c l o->RC (C.keep τ) (nx τ) w c l' o
 |_,_,_,_,.nil,hr=>by unfold AM.RC;trivial
 |_,_,c,o,.cons h1 h2,hr=>by
  unfold AM.RC at hr⊢;obtain⟨⟨v,k1,k2,k3⟩,k4⟩:=hr;exact⟨⟨v,k1,k2,Fz.R h h1 k3⟩,FzL.RC h h2 k4⟩
end
def Aov(σ τ:Sto):List (Key×AV)->List (Key×AV)->Prop
 |[],[]=>True
 |x::r,y::s=>x.1=y.1/\Fz σ τ x.2 y.2/\Aov σ τ r s
 |_,_=>False
theorem Aov.ER(h:Sim P C w σ):∀{l l':List (Key×AV)} {L:List MapEntry},Aov σ τ l l'->ER C (nx σ) w l L->ER (C.keep τ) (nx τ) w l' L
 |[],[],[],_,_=>by unfold AM.ER;trivial
 |[],[],_::_,_,hr=>by unfold AM.ER at hr;grind
 |_::_,_::_,[],_,hr=>by unfold AM.ER at hr;grind
 |x::r,y::s,f::L,hf,hr=>by
  obtain⟨h1,h2,h3⟩:=hf;unfold AM.ER at hr⊢;exact⟨⟨gr,h2.R h hr.1.2⟩,Aov.ER h h3 hr.2⟩
 |[],_::_,_,hf,_=>hf.elim
 |_::_,[],_,hf,_=>hf.elim
def AO.und(N:Nat):AO->Bool
 |.cells vs=>AV.unds N vs
 |.map _ es _=>Jc N es
 |.iter m _ _ _=>match m with|none=>true|some r=>Nat.blt r N
 |.stamp m _ _=>Nat.blt m N
 |.loop _=>true
def Ak3(N:Nat):Option (Key×AV)->Bool
 |none=>true
 |some x=>AV.und N x.2
def Agt(τ:Sto):AO->Prop
 |.iter (some r) ver left cur=>∀kt es,τ.get r=some (.map kt es ver)->Jc (nx τ) left=true/\Ak3 (nx τ) cur=true
 |_=>True
inductive FzO (σ τ:Sto):AO->AO->Prop
 |iter {m:Option Nat} {ver:Nat} {left:List (Key×AV)} {cur:Option (Key×AV)}:AO.und (nx τ) (.iter m ver left cur)=true->Agt τ (.iter m ver left cur)->FzO σ τ (.iter m ver left cur) (.iter m ver left cur)
 |stamp {m ver:Nat} {k:Key}:AO.und (nx τ) (.stamp m ver k)=true->FzO σ τ (.stamp m ver k) (.stamp m ver k)
 |cells {a b:List AV}:FzL σ τ a b->FzO σ τ (.cells a) (.cells b)
 |map {kt ver:Nat} {a b:List (Key×AV)}:Aov σ τ a b->FzO σ τ (.map kt a ver) (.map kt b ver)
 |loop {st:LS}:FzO σ τ (.loop st) (.loop st)
def Ds(σ τ:Sto):Prop:=nx τ<=nx σ/\∀a O,τ.get a=some O->a<nx τ/\∃O₀,σ.get a=some O₀/\FzO σ τ O₀ O
theorem Sim.frz(h:Sim P C w σ)(hf:Ds σ τ):Sim P (C.keep τ) w τ:=by
 have k:=C.keep_sub τ;refine⟨fun a O ha=>?_,fun a O ha=>(hf.2 a O ha).1,fun a p hp=>?_,fun a b c o o' ha hb=>h.inj a b c o o' (k.loc _ _ ha) (k.loc _ _ hb),
  fun a c o ha=>h.lt a c o (k.loc _ _ ha),h.rlt,fun a c o ha=>h.rdis a c o (k.loc _ _ ha)⟩
 ·obtain⟨h1,O₀,h2,h3⟩:=hf.2 a O ha;have ho:=h.obj a O₀ h2
  have hk:(C.keep τ).loc a=C.loc a:=by simp[Ctx.keep,ha]
  cases h3 with
  |cells hl=>
   obtain⟨c,o,cs,T,k1,k2,k3⟩:=ho;exact⟨c,o,cs,T,hk.trans k1,k2,hl.RC h k3⟩
  |map hl=>
   obtain⟨c,E,clock,k1,k2,k3⟩:=ho;exact⟨c,E,clock,hk.trans k1,k2,k3.typed,let⟨L,q1,q2⟩:=k3.perm;⟨L,q1,hl.ER h q2⟩,k3.keys,k3.born,k3.apart⟩
  |loop=>
   obtain⟨c,r,k1,k2,k3⟩:=ho;exact⟨c,r,hk.trans k1,k2,k3⟩
  |stamp hu=>
   obtain⟨k0,k1⟩:=ho
   rename_i m ver ky
   refine⟨Gy hu,fun kt es ver' hg=>?_⟩
   obtain⟨_,O₁,g1,g2⟩:=hf.2 m _ hg;cases g2 with
   |map hl=>
    obtain⟨q1,q2⟩:=k1 _ _ _ g1;refine⟨q1,fun hv=>?_⟩
    obtain⟨cm,E,clock,p1,p2,p3⟩:=q2 hv
    exact⟨cm,E,clock,by simp[Ctx.keep,hg,p1],p2,p3⟩
  |iter u1 hu=>
   rename_i m ver left cur
   cases m with
   |none=>
    obtain⟨c,since,seen,last,k1,k2,k3⟩:=ho;exact⟨c,since,seen,last,hk.trans k1,k2,k3⟩
   |some m=>
    obtain⟨k0,c,cm,since,seen,last,k1,k2,k3⟩:=ho;refine⟨Gy u1,c,cm,since,seen,last,hk.trans k1,k2,fun kt es ver' hg=>?_⟩
    obtain⟨_,O₁,g1,g2⟩:=hf.2 m _ hg;cases g2 with
    |map hl=>
     obtain⟨q1,q2⟩:=k3 _ _ _ g1;refine⟨q1,fun hv=>?_⟩
     subst hv;obtain⟨u2,u3⟩:=hu _ _ hg;obtain⟨E,p1,p2,p3,⟨L,p4,p5⟩,p6⟩:=q2 rfl
     refine⟨E,by simp[Ctx.keep,hg,p1],p2,p3,⟨L,p4,ER.cut k u2 p5⟩,fun ky x hx=>?_⟩
     obtain⟨f,f1,f2,f3,f4⟩:=p6 ky x hx;subst hx;exact⟨f,f1,f2,f3,R.cut k _ _ u3 f4⟩
 ·have hs:(τ.get a).isSome=true:=by
   simp only[Ctx.keep]at hp
   grind
  obtain⟨O,hO⟩:=bg_.1 hs;obtain⟨_,O₀,h2,h3⟩:=hf.2 a O hO;obtain⟨O₁,h4,h5⟩:=h.dom a p (k.loc a p hp);rw[h2]at h4;cases h4;refine⟨O,hO,?_⟩
  cases h3<;>first|rfl|exact h5
def WFS(σ:Sto):Prop:=∀a O,σ.get a=some O->a<nx σ/\AO.und (nx σ) O=true/\Agt σ O
theorem Sim.wfs(h:Sim P C w σ):WFS σ:=by
 intro a O hg;refine⟨h.bound a O hg,?_⟩;have ho:=h.obj a O hg;cases O with
 |cells vs=>obtain⟨c,o,cs,T,_,_,k⟩:=ho;exact⟨RC.unds _ _ _ k,trivial⟩
 |map kt es ver=>obtain⟨c,E,clock,_,_,k⟩:=ho;obtain⟨L,_,q⟩:=k.perm;exact⟨ER.und q,trivial⟩
 |stamp m ver k=>exact⟨Ce ho.1,trivial⟩
 |loop st=>exact⟨rfl,trivial⟩
 |iter m ver left cur=>
  cases m with
  |none=>exact⟨rfl,trivial⟩
  |some r=>
   obtain⟨k0,c,cm,since,seen,last,k1,k2,k3⟩:=ho;refine⟨Ce k0,fun kt es hr=>?_⟩
   obtain⟨_,q2⟩:=k3 _ _ _ hr;obtain⟨E,p1,p2,p3,⟨L,p4,p5⟩,p6⟩:=q2 rfl;refine⟨ER.und p5,?_⟩;cases cur with
   |none=>rfl
   |some x=>obtain⟨f,f1,f2,f3,f4⟩:=p6 x.1 x.2 rfl;exact R.und _ _ f4
theorem Oi(h:∀{v:AV},AV.und (nx τ) v=true->Fz σ τ v v):∀{es:List (Key×AV)},Jc (nx τ) es=true->Aov σ τ es es
 |[],_=>trivial
 |x::r,k=>by
  simp only[Jc,cs_,ad_]at k;exact⟨rfl,h k.1,Oi h k.2⟩
theorem Ds.of_same(h:WFS τ)(hn:nx τ<=nx σ)(hg:∀a,a<nx τ->σ.get a=τ.get a):Ds σ τ:=by
 refine⟨hn,fun a O ha=>?_⟩
 obtain⟨h1,h2,h3⟩:=h a O ha;refine⟨h1,O,(hg a h1).trans ha,?_⟩;cases O with
 |cells vs=>exact .cells (dj_ h2)
 |map kt es ver=>exact .map (Oi .same h2)
 |iter m ver left cur=>exact .iter h2 h3
 |stamp m ver k=>exact .stamp h2
 |loop st=>exact .loop
abbrev a_:=@Ds.of_same
theorem Ext.base{C' N N' B w'}(h:Ext C N w C' N' w')(hB:B<=N):Ext C B w C' B w':=
 ⟨nl,h.size,h.keep,fun a ha=>h.loc a Om,fun a ha=>h.stm a Om,fun a ha=>h.lr a Om,fun a ha=>h.bsz a Om,h.res,h.os⟩
theorem Ext.top{C' B N' w'}(h:Ext C B w C' B w')(hB:B<=N'):Ext C B w C' N' w':=
 ⟨hB,h.size,h.keep,h.loc,h.stm,h.lr,h.bsz,h.res,h.os⟩
theorem Ext.keepB(C τ B w):Ext C B w (C.keep τ) B w:=
 ⟨nl,nl,fun b _ ho=>⟨fun hh=>ho ((C.keep_sub τ).own hh),rfl⟩,fun a _ p hp=>(C.keep_sub τ).loc a p hp,fun _ _=>rfl,fun _ _=>rfl,fun _ _ _ _ _=>rfl,⟨rfl,fun _ _=>rfl⟩,rfl,rfl⟩
abbrev en_:=@Ext.keepB
end
end
def Oj(l:Ad):Tr AV:=l.foldr (fun p t=>t.put (p.1+1) p.1 (some p.2)) .e
def Km:Ad->Ad->Prop
 |[],_=>True
 |(i,v)::r,ρ=>Ad.at ρ i=some v/\Km r ρ
theorem Km.at:∀{ρ' ρ:Ad},Km ρ' ρ->∀i v,Ad.at ρ' i=some v->Ad.at ρ i=some v
 |[],ρ,_,i,v,h=>by simp[Ad.at]at h
 |(j,u)::r,ρ,h,i,v,hv=>by
  obtain⟨h1,h2⟩:=h;simp only[Ad.at]at hv;cases hb:Nat.beq j i with
  |true=>rw[hb]at hv;cases hv;have:=ac_ hb;subst this;exact h1
  |false=>rw[hb]at hv;exact Km.at h2 i v hv
theorem Has.subL{tm ρ ρ'}(h:Has tm ρ)(k:Km ρ' ρ):Has tm ρ':=fun i v hv=>h i v (k.at i v hv)
def Al(E:Env)(f:Nat)(args:List AV)(σ:Sto)(Post:AV->Sto->Prop):Prop:=
 ∀(C:Ctx) (w:World) (vs:Array Value),Sim E.P C w σ->Iw C (nx σ) w E->RL C (nx σ) w args vs.toList->
  Aa2 E.P f/\Calls E.P f vs w fun
   |.returned x,w'=>∃v σ' C',Post v σ'/\Sim E.P C' w' σ'/\Ext C (nx σ) w C' (nx σ') w'/\R C' (nx σ') w' v x
   |_,_=>False
theorem Al.mono{E f args σ Post Post'}(h:Al E f args σ Post)(k:∀v σ',Post v σ'->Post' v σ'):Al E f args σ Post':=by
 intro C w vs hs hg ha;obtain⟨h1,h2⟩:=h C w vs hs hg ha;refine⟨h1,h2.mono fun e w' he=>?_⟩
 grind
open Classical in
noncomputable def Dk:List (Nat×List AV×Sto×AV×Sto)->Rec
 |[],_,_,_=>none
 |(f,a,s,v,s')::r,.fn f',a',σ=>if f'=f/\a'=a/\σ=s then some (v,s')else Dk r (.fn f') a' σ
 |_::_,.yl _,_,_=>none
def Aev(E:Env):List (Nat×List AV×Sto×AV×Sto)->Prop
 |[]=>True
 |(f,a,s,v,s')::r=>Al E f a s (fun u τ=>u=v/\τ=s')/\Aev E r
theorem Aq1{a}:∀(l:List (Nat×List AV×Sto×AV×Sto)) (x:List AV) (σ:Sto),Dk l (.yl a) x σ=none
 |[],_,_=>rfl
 |_::_,_,_=>rfl
theorem Aih{E f'}:∀{l:List (Nat×List AV×Sto×AV×Sto)},Aev E l->Akz E f' (Dk l (.fn f'))
 |[],_=>fun C w σ args vs v σ' hs hg ha h=>by cases h
 |(f,a,s,v,s')::r,hk=>fun C w σ args vs u σ' hs hg ha h=>by
  simp only[Dk]at h
  split at h
  ·rename_i he
   obtain⟨rfl,rfl,rfl⟩:=he;cases h;obtain⟨h1,h2⟩:=hk.1 C w vs hs hg ha;refine⟨h1,h2.mono fun e w' he=>?_⟩
   cases e with
   |returned x=>obtain⟨v,σ',C',⟨rfl,rfl⟩,k1,k2,k3⟩:=he;exact⟨C',k1,k2,k3⟩
   |panicked _=>exact he.elim
   |outgrown=>exact he.elim
  ·exact Aih hk.2 C w σ args vs u σ' hs hg ha h
theorem Bw{E l}(hk:Aev E l)(hp:∀f,E.pu f=true->False:=by intro f h;exact absurd (show false=true from h) (by decide)):Bk E (Dk l):=
 ⟨fun _=>Aih hk,fun a C w σ args vs v σ' hs hg ha h=>(by rw[Aq1]at h;cases h),fun f h=>(hp f h).elim⟩
abbrev Cc:=XE->Ad->Sto->Prop
def Sd(E:Env)(nt:Nat)(df:List (Nat×List AV))(B:Nat)(Q:Cc)(C:Ctx)(w:World):Exit->Act->World->Prop:=fun e a' w'=>
 ∃x tm' ρ' σ' C',Jj x=e/\Has tm' ρ'/\Q x ρ' σ'/\SSt E C' w' ⟨tm',nt,df,σ'⟩ a'/\B<=nx σ'/\Ext C B w C' B w'
def T(E:Env)(nt:Nat)(df:List (Nat×List AV))(B:Nat)(c:Code)(Q:Cc)(ρ:Ad)(σ:Sto):Prop:=
 ∀(ro:Option Nat) (n:Nat),(ro=none∨Ln c=true)->∀(C:Ctx) (w:World) (tm:Tr AV) (a:Act),Has tm ρ->SSt E C w ⟨tm,nt,df,σ⟩ a->B<=nx σ->c.wpIn (Cy ro) n E.P (Sd E nt df B Q C w) a w
def TO(E:Env)(nt:Nat)(df:List (Nat×List AV))(B:Nat)(ops r:List Oper)(K:Ad->Sto->Prop)(ρ:Ad)(σ:Sto):Prop:=
 ∀(ro:Option Nat) (n:Nat),(ro=none∨D6 r=true)->∀(C:Ctx) (w:World) (tm:Tr AV) (a:Act),Has tm ρ->SSt E C w ⟨tm,nt,df,σ⟩ a->B<=nx σ->∀(arr:Array Oper) (i:Nat) (QQ:Exit->Act->World->Prop) (rest:List Nat),arr.toList=ops->(∀j,j<r.length->r[j]? =arr[i+j]?)->
  (∀C' w' a' tm' ρ' σ',Has tm' ρ'->K ρ' σ'->SSt E C' w' ⟨tm',nt,df,σ'⟩ a'->B<=nx σ'->Ext C B w C' B w'->wpOpsIn (Cy ro) n E.P arr QQ rest a' w')->wpOpsIn (Cy ro) n E.P arr QQ (List.range' i r.length++rest) a w
section
variable {E:Env}{nt B:Nat}{df:List (Nat×List AV)}{Q Q':Cc}{ρ ρ':Ad}{σ σ':Sto}{K:Ad->Sto->Prop}
theorem Sd.mono{C w e a w'}(h:Sd E nt df B Q C w e a w')(hQ:∀x ρ σ,Q x ρ σ->Q' x ρ σ):Sd E nt df B Q' C w e a w':=by
 obtain⟨x,tm',ρ',σ',C',h1,h2,h3,h4⟩:=h;exact⟨x,tm',ρ',σ',C',h1,h2,hQ _ _ _ h3,h4⟩
theorem Sd.from{C C₀ w w₀ e a w'}(h:Sd E nt df B Q C w e a w')(hx:Ext C₀ B w₀ C B w):Sd E nt df B Q C₀ w₀ e a w':=by
 obtain⟨x,tm',ρ',σ',C',h1,h2,h3,h4,hB,h5⟩:=h;exact⟨x,tm',ρ',σ',C',h1,h2,h3,h4,hB,hx.trans h5⟩
theorem T.mono{c}(h:T E nt df B c Q ρ σ)(hQ:∀x ρ σ,Q x ρ σ->Q' x ρ σ):T E nt df B c Q' ρ σ:=
 fun ro n hn C w tm a ht st hB=>wpIn_mono (h ro n hn C w tm a ht st hB) fun e a' w' he=>he.mono hQ
theorem T.sub{c}(h:T E nt df B c Q ρ' σ)(hs:Km ρ' ρ):T E nt df B c Q ρ σ:=
 fun ro n hn C w tm a ht st=>h ro n hn C w tm a (ht.subL hs) st
theorem T.wp{c}(h:T E nt df B c Q ρ σ)(C w tm a)(ht:Has tm ρ)(st:SSt E C w ⟨tm,nt,df,σ⟩ a)(hB:B<=nx σ):c.wp E.P (Sd E nt df B Q C w) a w:=(wpIn_wide (n:=0)).1 (h none 0 (.inl rfl) C w tm a ht st hB)
theorem Agu(h:Q .normal ρ σ):T E nt df B .skip Q ρ σ:=fun _ _ _ C w tm a ht st hB=>wpIn_skip ⟨.normal,tm,ρ,σ,C,rfl,ht,h,st,hB,cf_ _ _ _⟩
theorem Aud{n}(h:Q .normal ρ σ):T E nt df B (.label n) Q ρ σ:=fun _ _ _ C w tm a ht st hB=>wpIn_label ⟨.normal,tm,ρ,σ,C,rfl,ht,h,st,hB,cf_ _ _ _⟩
theorem Agv{n}(h:Q (.exit n) ρ σ):T E nt df B (.exit n) Q ρ σ:=fun _ _ _ C w tm a ht st hB=>wpIn_exit ⟨.exit n,tm,ρ,σ,C,rfl,ht,h,st,hB,cf_ _ _ _⟩
theorem Amj(h:Q .ret ρ σ):T E nt df B .ret Q ρ σ:=fun _ _ _ C w tm a ht st hB=>wpIn_ret ⟨.ret,tm,ρ,σ,C,rfl,ht,h,st,hB,cf_ _ _ _⟩
def Pa(k:Ad->Sto->Prop)(Q:Cc):Cc
 |.normal=>k
 |x=>Q x
theorem Aew{x y}(h:T E nt df B x (Pa (T E nt df B y Q) Q) ρ σ):T E nt df B (.seq x y) Q ρ σ:=by
 intro ro n hn C w tm a ht st hB;simp only[Ln,ad_]at hn;refine wpIn_seq (wpIn_mono (h ro n (hn.imp (fun h=>h) (·.1)) C w tm a ht st hB) fun e a' w' he=>?_)
 obtain⟨x',tm',ρ',σ',C',h1,h2,h3,h4,hB',h5⟩:=he;subst h1;cases x' with
 |normal=>exact wpIn_mono (h3 ro n (hn.imp (fun h=>h) (·.2)) C' w' tm' a' h2 h4 hB') fun e a'' w'' he=>he.from h5
 |exit id=>exact⟨.exit id,tm',ρ',σ',C',rfl,h2,h3,h4,hB',h5⟩
 |ret=>exact⟨.ret,tm',ρ',σ',C',rfl,h2,h3,h4,hB',h5⟩
theorem Ab{c x y b}(hc:Ah E ρ c=some (.bool b))(h1:b=true->T E nt df B x Q ρ σ)(h2:b=false->T E nt df B y Q ρ σ):T E nt df B (.cond c x y) Q ρ σ:=by
 intro ro n hn C w tm a ht st hB;simp only[Ln,ad_]at hn;have hv:=Be st.glob st.tmps c;rw[ht.opd hc]at hv;unfold R at hv;cases b with
 |true=>exact wpIn_cond_true hv (h1 rfl ro n (hn.imp (fun h=>h) (·.1)) C w tm a ht st hB)
 |false=>exact wpIn_cond_false hv (h2 rfl ro n (hn.imp (fun h=>h) (·.2)) C w tm a ht st hB)
def Qf(id:Nat)(Q:Cc):Cc
 |.exit j=>cond (Nat.beq j id) (Q .normal) (Q (.exit j))
 |x=>Q x
theorem Amk{id c}(h:T E nt df B c (Qf id Q) ρ σ):T E nt df B (.block id c) Q ρ σ:=by
 intro ro n hn C w tm a ht st hB;refine wpIn_block (wpIn_mono (h ro n hn C w tm a ht st hB) fun e a' w' he=>?_)
 obtain⟨x',tm',ρ',σ',C',h1,h2,h3,h4,hB',h5⟩:=he;subst h1;cases x' with
 |normal=>exact⟨.normal,tm',ρ',σ',C',rfl,h2,h3,h4,hB',h5⟩
 |ret=>exact⟨.ret,tm',ρ',σ',C',rfl,h2,h3,h4,hB',h5⟩
 |exit j=>
  simp only[Qf]at h3
  by_cases hj:j=id
  ·subst hj;rw[aw_]at h3;simp only[Jj,Exit.inBlock,if_true];exact⟨.normal,tm',ρ',σ',C',rfl,h2,h3,h4,hB',h5⟩
  ·have hb:Nat.beq j id=false:=by cases hb:Nat.beq j id with|true=>exact absurd (ac_ hb) hj|false=>rfl
   rw[hb]at h3;simp only[Jj,Exit.inBlock,if_neg hj];exact⟨.exit j,tm',ρ',σ',C',rfl,h2,h3,h4,hB',h5⟩
theorem Aue{c}(h:T E nt df B c Q ρ σ):T E nt df B (.scope c) Q ρ σ:=by
 intro ro n hn C w tm a ht st hB;refine Sc (wpIn_mono (h ro n hn C w tm a ht st hB) fun e a' w' he=>?_)
 obtain⟨x',tm',ρ',σ',C',h1,h2,h3,h4,hB',h5⟩:=he;subst h1;cases x'<;>exact⟨_,tm',ρ',σ',C',rfl,h2,h3,h4,hB',h5⟩
theorem Aw0{c}(I:Nat->Ad->Sto->Prop)(n)(h0:∃ρ',Km ρ' ρ/\I n ρ' σ)
  (hs:∀n ρ σ,I n ρ σ->T E nt df B c (Pa (fun ρ' σ'=>∃m ρ'',m<n/\Km ρ'' ρ'/\I m ρ'' σ') Q) ρ σ):T E nt df B (.loop c) Q ρ σ:=by
 intro ro m hn;have key:∀(n:Nat) (ρ:Ad) (σ:Sto),I n ρ σ->∀(C:Ctx) (w:World) (tm:Tr AV) (a:Act),Has tm ρ->SSt E C w ⟨tm,nt,df,σ⟩ a->B<=nx σ->∀(b:Frame) (k:List Item) (cs:List Frame),b.roundOf=(Cy ro).round->(Cy ro).fn b.fn->(Cy ro).room (cs.length+1+m)->
   ∃e a' w',Sd E nt df B Q C w e a' w'/\ArrivesIn (Machine.fenced E.P (Cy ro)) E.P (lone (b.atR a (.code c::.inLoop c::k)) cs w) b k cs e a' w':=by
  intro n
  induction n using Nat.strongRecOn with
  |_ n ih=>
   intro ρ σ hI C w tm a ht st hB b k cs hro hb hr;obtain⟨e,a₁,w₁,hq,br⟩:=hs n ρ σ hI ro m hn C w tm a ht st hB b (.inLoop c::k) cs hro hb hr;obtain⟨x',tm',ρ',σ',C',h1,h2,h3,h4,hB',h5⟩:=hq;subst h1;cases x' with
   |normal=>
    obtain⟨m,ρ'',hm,cc,hI'⟩:=h3;obtain⟨e₂,a₂,w₂,hq₂,harr₂⟩:=ih m hm ρ'' σ' hI' C' w₁ tm' a₁ (h2.subL cc) h4 hB' b k cs hro hb hr;exact⟨e₂,a₂,w₂,hq₂.from h5,.of_steps (StepsIn.trans br (.one (fenced_calm hb hr rfl) stepR_inLoop)) harr₂⟩
   |exit id=>exact⟨.exit id,a₁,w₁,⟨_,tm',ρ',σ',C',rfl,h2,h3,h4,hB',h5⟩,.pass (x:=.inLoop c) rfl (fun _ _=>.inl (by simp)) br⟩
   |ret=>exact⟨.ret,a₁,w₁,⟨_,tm',ρ',σ',C',rfl,h2,h3,h4,hB',h5⟩,.pass (x:=.inLoop c) rfl (fun _ _=>.inl (by simp)) br⟩
 intro C w tm a ht st hB b k cs hro hb hr;obtain⟨ρ',cc,hI⟩:=h0;obtain⟨e,a',w',hq,br⟩:=key n ρ' σ hI C w tm a (ht.subL cc) st hB b k cs hro hb hr;exact⟨e,a',w',hq,.of_steps (.one (fenced_calm hb hr rfl) stepR_loop) br⟩
theorem Ci{α:Type}{c}(ρI:α->Ad)(P:α->Sto->Prop)(μ:α->Nat)(a₀)(h0:Km (ρI a₀) ρ)(h1:P a₀ σ)
  (hs:∀a σ,P a σ->T E nt df B c (Pa (fun ρ' σ'=>∃a',μ a'<μ a/\Km (ρI a') ρ'/\P a' σ') Q) (ρI a) σ):T E nt df B (.loop c) Q ρ σ:=by
 refine Aw0 (fun n ρ σ=>∃a,n=μ a/\ρ=ρI a/\P a σ) (μ a₀) ⟨ρI a₀,h0,a₀,rfl,rfl,h1⟩ ?_
 grind
theorem Bz{c}(len)(ρI:Nat->Ad)(P:Nat->Sto->Prop)(h0:Km (ρI 0) ρ)(h1:P 0 σ)
  (hs:∀i σ,i<=len->P i σ->T E nt df B c (Pa (fun ρ' σ'=>i<len/\Km (ρI (i+1)) ρ'/\P (i+1) σ') Q) (ρI i) σ):T E nt df B (.loop c) Q ρ σ:=by
 refine Ci ρI (fun i σ=>i<=len/\P i σ) (fun i=>len-i) 0 h0 ⟨aq_ _,h1⟩ ?_
 rintro i σ ⟨hi,hp⟩;refine(hs i σ hi hp).mono fun x ρ' σ' hq=>?_
 cases x with
 |normal=>obtain⟨g1,g2,g3⟩:=hq;exact⟨i+1,by omega,g2,by omega,g3⟩
 |exit id=>exact hq
 |ret=>exact hq
theorem B7{id ops}(h:TO E nt df B ops.toList ops.toList (fun ρ σ=>Q .normal ρ σ) ρ σ):T E nt df B (.region id ops false) Q ρ σ:=by
 intro ro n hn C w tm a ht st hB;refine wpIn_region ?_;rw[dr_,←cd_];have:=h ro n hn C w tm a ht st hB ops 0 (Sd E nt df B Q C w) [] rfl gr fun C' w' a' tm' ρ' σ' h1 h2 h3 h4 h5=>⟨.normal,tm',ρ',σ',C',rfl,h1,h2,h3,h4,h5⟩
 grind
theorem Dd{ops}(h:K ρ σ):TO E nt df B ops [] K ρ σ:=by
 intro _ _ _ C w tm a ht st hB arr i QQ rest _ _ hQ;simp only[cu_,gr_,bd_];exact hQ C w a tm ρ σ ht h st hB (cf_ _ _ _)
theorem Aow{ops g r}(h:TO E nt df B ops g (fun ρ' σ'=>TO E nt df B ops r K ρ' σ') ρ σ):TO E nt df B ops (g++r) K ρ σ:=by
 intro ro n hn C w tm a ht st hB arr i QQ rest br hr hQ;rw[bx_,←List.range'_append_1,ca_];simp only[D6,List.all_append,ad_]at hn;refine h ro n (hn.imp (fun h=>h) (·.1)) C w tm a ht st hB arr i QQ _ br (fun j hj=>?_) fun C' w' a' tm' ρ' σ' h1 h2 h3 h4 h5=>?_
 ·grind
 ·refine h2 ro n (hn.imp (fun h=>h) (·.2)) C' w' tm' a' h1 h3 h4 arr (i+g.length) QQ rest br (fun j hj=>?_) fun C2 w2 a2 tm2 ρ2 σ2 q1 q2 q3 qB q4=>hQ C2 w2 a2 tm2 ρ2 σ2 q1 q2 q3 qB (h5.trans q4)
  have:=hr (g.length+j) gr
  grind
theorem Aq2(n){ops r}(h:TO E nt df B ops (r.take n) (fun ρ' σ'=>TO E nt df B ops (r.drop n) K ρ' σ') ρ σ):TO E nt df B ops r K ρ σ:=by
 have:=Aow h
 rwa[cc_]at this
theorem TO.mono{ops r K'}(h:TO E nt df B ops r K ρ σ)(k:∀ρ σ,K ρ σ->K' ρ σ):TO E nt df B ops r K' ρ σ:=
 fun ro n hn C w tm a ht st hB arr i QQ rest h1 h2 hQ=>h ro n hn C w tm a ht st hB arr i QQ rest h1 h2 fun C' w' a' tm' ρ' σ' q1 q2=>hQ C' w' a' tm' ρ' σ' q1 (k _ _ q2)
def Ga:Op->Bool
 |.defer _=>false
 |_=>true
theorem L1{ro o r}(h:ro=none∨D6 (o::r)=true):Aqr ro o.op/\(ro=none∨D6 r=true):=by
 rcases h with h|h
 ·exact⟨.inl h,.inl h⟩
 ·simp only[D6,cs_,ad_]at h;exact⟨.inr gr,.inr h.2⟩
theorem Qg{ops r o Rr}(hR:Bk E Rr){ρ₁ σ₁}
  (h:∀tm,Has tm ρ->∃tm',Yi E ops o Rr ⟨tm,nt,df,σ⟩=some ⟨tm',nt,df,σ₁⟩/\Has tm' ρ₁)(k:TO E nt df B ops r K ρ₁ σ₁):TO E nt df B ops (o::r) K ρ σ:=by
 intro ro n hn C w tm a ht st hB arr i QQ rest br hr hQ;obtain⟨hn1,hn2⟩:=L1 hn;obtain⟨tm',h1,h2⟩:=h tm ht
 have ho:arr[i]? =some o:=by have:=hr 0 (by simp);grind
 simp only[as_,cj_,ay_,wpOpsIn,ho];have h1':Yi E arr.toList o Rr ⟨tm,nt,df,σ⟩=some ⟨tm',nt,df,σ₁⟩:=gr;have:=Aa3 (K:=wpOpsIn (Cy ro) n E.P arr QQ (List.range' (i+1) r.length++rest)) (Q:=QQ) hR st h1' (ro:=ro) (n:=n) (hpl:=hn1) fun C' w' a' st' e'=>
  k ro n hn2 C' w' tm' a' h2 st' (ai_ hB e'.next) arr (i+1) QQ rest br (fun j hj=>by have:=hr (j+1) gr;grind)
   fun C2 w2 a2 tm2 ρ2 σ2 q1 q2 q3 qB q4=>hQ C2 w2 a2 tm2 ρ2 σ2 q1 q2 q3 qB ((e'.base hB).trans q4)
 rcases this with⟨h2,h3⟩|⟨h2,h3⟩
 ·grind
 ·rw[if_neg gr];exact⟨fun _ _=>trivial,h3⟩
def Dt:Option Nat->AV->Ad->Ad
 |none,_,ρ=>ρ
 |some d,v,ρ=>(d,v)::ρ
def B0(nt:Nat):Option Nat->Bool
 |none=>true
 |some d=>Nat.blt d nt
theorem C6{tm dst}(hd:B0 nt dst=true)(ht:Has tm ρ)(v):∃tm',Ka dst tm nt v=some tm'/\Has tm' (Dt dst v ρ):=by
 cases dst with
 |none=>exact⟨tm,rfl,ht⟩
 |some d=>
  refine⟨tm.put (d+1) d (some v),?_,ht.put d v⟩;have hd:Nat.blt d nt=true:=hd;simp only[Ka,hd,cond_true,Ef]
theorem Rk{ops o Rr s}(hg:Bn ops o s.tm=some true)(hn:Ga o.op=true):
  Yi E ops o Rr s=match opA E o.op Rr s.tm s.sto with
   |some (v,σ)=>match Ka o.dst s.tm s.nt v with
    |some tm=>some ⟨tm,s.nt,s.df,σ⟩
    |none=>none
   |none=>none:=by
 unfold Yi;rw[hg];simp only
 split
 ·rename_i c hc;rw[hc]at hn;simp[Ga]at hn
 ·rfl
theorem X4{ops r op dst}{ty:Nat}{pos after Rr v σ₁}(hR:Bk E Rr)(hn:Ga op=true)(hd:B0 nt dst=true)(h:As E Rr op ρ σ v σ₁)
  (k:TO E nt df B ops r K (Dt dst v ρ) σ₁):TO E nt df B ops ({ dst:=dst,op:=op,type:=ty,pos:=pos,after:=after,guard:=none }::r) K ρ σ:=by
 refine Qg hR (fun tm ht=>?_) k
 obtain⟨tm',h1,h2⟩:=C6 (dst:=dst) hd ht v;refine⟨tm',?_,h2⟩;rw[Rk (s:=⟨tm,nt,df,σ⟩) rfl hn];simp only[h tm ht,h1]
theorem Az{ops r f args}{tys:Array Nat}{dst}{ty:Nat}{pos after}{k:Nat}{first cap vs full Post}(hd:B0 nt dst=true)
  (hf:Ah E ρ f=some (.fn (.func k) first cap))(ha:Kc E ρ args.toList=some vs)(hl:first++vs++cap=full)(hc:Al E k full σ Post)
  (kk:∀v σ',Post v σ'->TO E nt df B ops r K (Dt dst v ρ) σ'):TO E nt df B ops ({ dst:=dst,op:=.call ⟨.value f,args,tys⟩,type:=ty,pos:=pos,after:=after,guard:=none }::r) K ρ σ:=by
 intro ro n hn C w tm a ht st hB arr i QQ rest br hr hQ;obtain⟨hn1,hn2⟩:=L1 hn
 have ho:arr[i]? =some { dst:=dst,op:=.call ⟨.value f,args,tys⟩,type:=ty,pos:=pos,after:=after,guard:=none }:=by have:=hr 0 (by simp);grind
 simp only[as_,cj_,ay_,wpOpsIn,ho];have hw:Region.wanted { dst:=dst,op:=.call ⟨.value f,args,tys⟩,type:=ty,pos:=pos,after:=after,guard:=none } (yielded arr a.tmps)=true:=rfl;rw[if_pos hw];refine Ev hn1 ?_;have hV:=Be st.glob st.tmps f;rw[ht.opd hf]at hV;unfold R at hV;obtain⟨p,q,hV,hp,hq⟩:=hV;have bp:=Dm st.glob st.tmps args.toList;rw[ht.opds ha]at bp
 have bs:RL C (nx σ) w full (p++args.map a.eval++q).toList:=by
  subst hl;simp only[cv_,c_];exact(hp.append bp).append hq
 obtain⟨⟨fn,g1,g2,g3⟩,b8⟩:=hc C w _ st.sim st.glob bs
 have bq:(execOp a.eval { dst:=dst,op:=.call ⟨.value f,args,tys⟩,type:=ty,pos:=pos,after:=after,guard:=none }).run E.P w=.ok (.enter k (p++args.map a.eval++q)) w:=by
  have g2':fn.name≠ "runtime.NumGoroutine" :=gr;have g3':fn.body≠none:=gr
  simp[execOp,resolve,hV,Deferred.ofValue,invoke,callFunc,g1,g2',g3']
 unfold Oper.wp;rw[bq,Oper.upon_enter];refine b8.mono fun e w' he=>?_
 cases e with
 |returned x=>
  obtain⟨v,σ',C',k0,k1,k2,k3⟩:=he;obtain⟨tm',h1,h2⟩:=C6 (dst:=dst) hd ht v
  exact kk v σ' k0 ro n hn2 C' w' tm' _ h2 (st.put k1 k2 k3 h1) (ai_ hB k2.next) arr (i+1) QQ rest br (fun j hj=>by have:=hr (j+1) gr;grind)
   fun C2 w2 a2 tm2 ρ2 σ2 q1 q2 q3 qB q4=>hQ C2 w2 a2 tm2 ρ2 σ2 q1 q2 q3 qB ((k2.base hB).trans q4)
 |panicked _=>exact he.elim
 |outgrown=>exact he.elim
theorem Hf{ops}{o oj:Oper}{j d:Nat}{b want tm}(ht:Has tm ρ)(hg:o.guard=some (j,want))(hj:ops[j]? =some oj)(hd:oj.dst=some d)(hb:Ad.at ρ d=some (.bool b)):Bn ops o tm=some (cond b want (!want)):=by
 simp only[Bn,hg,hj,hd,ht d _ hb]
theorem Bi{ops r}{o oj:Oper}{Rr v σ₁}{j d:Nat}{b want}(hg:o.guard=some (j,want))(hj:ops[j]? =some oj)(hdj:oj.dst=some d)(hb:Ad.at ρ d=some (.bool b))(hw:cond b want (!want)=true)
  (hR:Bk E Rr)(hn:Ga o.op=true)(hd:B0 nt o.dst=true)(h:As E Rr o.op ρ σ v σ₁)(k:TO E nt df B ops r K (Dt o.dst v ρ) σ₁):TO E nt df B ops (o::r) K ρ σ:=by
 refine Qg hR (fun tm ht=>?_) k
 obtain⟨tm',h1,h2⟩:=C6 (dst:=o.dst) hd ht v;refine⟨tm',?_,h2⟩
 rw[Rk (s:=⟨tm,nt,df,σ⟩) (by rw[Hf ht hg hj hdj hb,hw]) hn]
 simp only[h tm ht,h1]
theorem Co{ops r}{o oj:Oper}{j d:Nat}{b want}(hg:o.guard=some (j,want))(hj:ops[j]? =some oj)(hdj:oj.dst=some d)(hb:Ad.at ρ d=some (.bool b))(hw:cond b want (!want)=false)
  (hd:B0 nt o.dst=true)(k:TO E nt df B ops r K (Dt o.dst An ρ) σ):TO E nt df B ops (o::r) K ρ σ:=by
 refine Qg di_ (fun tm ht=>?_) k
 obtain⟨tm',h1,h2⟩:=C6 (dst:=o.dst) hd ht An;refine⟨tm',?_,h2⟩;unfold Yi;rw[Hf ht hg hj hdj hb,hw]
 grind
end
def Hg:List AV->Nat->Ad
 |[],_=>[]
 |v::r,i=>(i,v)::Hg r (i+1)
theorem L3:∀(l:List AV) (i j:Nat),Ad.at (Hg l i) j=if i<=j/\j<i+l.length then l[j-i]? else none
 |[],i,j=>by simp only[Hg,Ad.at];grind
 |x::r,i,j=>by
  simp only[Hg,Ad.at,as_]
  by_cases hj:i=j
  ·subst hj;simp[aw_]
  ·have hb:Nat.beq i j=false:=by cases hb:Nat.beq i j with|true=>exact absurd (ac_ hb) hj|false=>rfl
   rw[hb,cond_false,L3 r (i+1) j]
   grind
def Us(E:Env)(ρ:Ad)(σ:Sto):List ResultVar->Option (List AV)
 |[]=>some []
 |.tmp t::r=>match Ad.at ρ t,Us E ρ σ r with
  |some v,some l=>some (v::l)
  |_,_=>none
 |.cell a t::r=>match Ay E.P t with
  |some ti=>match Ad.at ρ a with
   |some (.pr b off)=>match σ.cells b with
    |some vs=>match Cz ti.size ti.isAgg (vs.drop off),Us E ρ σ r with
     |some v,some l=>some (v::l)
     |_,_=>none
    |none=>none
   |_=>none
  |none=>none
theorem S8{E tm ρ σ}(ht:Has tm ρ):∀{rs:List ResultVar} {vs:List AV},Us E ρ σ rs=some vs->Ahw E.P tm σ rs=some vs
 |[],vs,h=>h
 |.tmp t::r,vs,h=>by
  simp only[Us]at h
  split at h
  ·rename_i v l hv hl
   cases h;simp only[Ahw,Aai,ht t v hv,S8 ht hl]
  grind
 |.cell a t::r,vs,h=>by
  simp only[Us]at h
  split at h
  ·rename_i ti hti
   split at h
   ·rename_i b off hb
    split at h
    ·rename_i cs hcs
     split at h
     ·rename_i v l hv hl
      cases h;simp only[Ahw,Aai,hti,ht a _ hb,hcs,Ml,hv,S8 ht hl]
     grind
    grind
   grind
  grind
def Agw(E:Env)(fn:Func)(N:Nat)(Post:AV->Sto->Prop)(ρ:Ad)(σ:Sto):Prop:=
 ∃vs,Us E ρ σ fn.results.toList=some vs/\∃v' σ',Ds σ σ'/\N<=nx σ'/\Fz σ σ' (Akq vs) v'/\Post v' σ'
def Aox(K:Ad->Sto->Prop):Cc
 |.normal=>K
 |.ret=>K
 |.exit _=>fun _ _=>False
theorem Aw1{E f fn c args σ Post}(hfn:E.P.funcs[f]? =some fn)(dz:(fn.name== "runtime.NumGoroutine")=false)(hc:fn.body=some c)(hle:Nat.ble args.length fn.ntmps=true)
  (h:WFS σ->AV.unds (nx σ) args=true->T E fn.ntmps [] (nx σ) c (Aox (Agw E fn (nx σ) Post)) (Hg args 0) σ):Al E f args σ Post:=by
 intro C w vs hs hg bp;refine⟨⟨fn,hfn,dz,gr⟩,?_⟩;refine calls_of_wp_defers hfn hc ((wpIn_wide (n:=0)).1 ?_);have hle:=al_ hle;have st:=Ur (E:=E) (fn:=fn) hs hg bp hle
 have ht:Has (Kz args 0 .e) (Hg args 0):=fun i v hv=>by
  rw[Ig];rw[L3]at hv
  grind
 refine wpIn_mono (h hs.wfs (RL.unds _ _ bp) none 0 (.inl rfl) C w _ _ ht st nl) fun e a' w' he=>?_
 obtain⟨x,tm',ρ',σ₁,C',h1,h2,h3,h4,hB,h5⟩:=he;subst h1;have fin:Agw E fn (nx σ) Post ρ' σ₁->Leaves E.P fn a'.tmps (fun
   |.returned x,w'=>∃v σ' C',Post v σ'/\Sim E.P C' w' σ'/\Ext C (nx σ) w C' (nx σ') w'/\R C' (nx σ') w' v x
   |_,_=>False) a'.defers .returning w':=by
  intro hx;obtain⟨vs₁,r1,v',σ',r2,r3,r4,r5⟩:=hx
  have hds:a'.defers=[]:=by
   have hd:=h4.dfs;cases hds:a'.defers with
   |nil=>rfl
   |cons d ds=>rw[hds]at hd;unfold DR at hd;exact hd.elim
  obtain⟨x,k1,k2⟩:=Hx (fn:=fn) h4.sim h4.tmps (S8 h2 r1);rw[hds];exact⟨x,k1,v',σ',_,r5,h4.sim.frz r2,(h5.trans (en_ C' σ' _ w')).top r3,r4.R h4.sim k2⟩
 cases x with
 |normal=>exact fin h3
 |ret=>exact fin h3
 |exit id=>exact h3.elim
class Se (E:Env):Prop where
 ok:∀g cs,E.gl g=some cs->AV.unds 0 cs=true
 lp:E.loops=[]
mutual
theorem AV.und_mono {N M:Nat} (h:N<=M):∀(x:AV),AV.und N x=true->AV.und M x=true
 |.any,_=>rfl
 |.bool _,_=>rfl
 |.int _ _,_=>rfl
 |.str _,_=>rfl
 |.nil _,_=>rfl
 |.flt _ _,_=>rfl
 |.pr a _,k=>Ce (ak_ (Gy k) h)
 |.sr a _ _ _ _,k=>Ce (ak_ (Gy k) h)
 |.mp a,k=>Ce (ak_ (Gy k) h)
 |.it a,k=>Ce (ak_ (Gy k) h)
 |.stp a,k=>Ce (ak_ (Gy k) h)
 |.yl a,k=>Ce (ak_ (Gy k) h)
 |.pv cs,k=>AV.unds_mono h cs k
 |.sv cs _ _ _,k=>AV.unds_mono h cs k
 |.fn _ p q,k=>by simp only[AV.und,ad_]at k⊢;exact⟨AV.unds_mono h p k.1,AV.unds_mono h q k.2⟩
 |.ifc _ x,k=>AV.und_mono h x k
 |.agg cs,k=>AV.unds_mono h cs k
 |.tup cs,k=>AV.unds_mono h cs k
theorem AV.unds_mono {N M:Nat} (h:N<=M):∀(l:List AV),AV.unds N l=true->AV.unds M l=true
 |[],_=>rfl
 |x::r,k=>by simp only[AV.unds,ad_]at k⊢;exact⟨AV.und_mono h x k.1,AV.unds_mono h r k.2⟩
end
theorem Iw.frz{E}[Se E]{C N w τ}(h:Iw C N w E):Iw (C.keep τ) (nx τ) w E:=by
 refine⟨fun g cs hg=>R.cut (C.keep_sub τ) _ _ (AV.unds_mono (aq_ _) cs (Se.ok g cs hg)) (h.1 g cs hg),fun c P hc=>?_,fun L hL=>by rw[Se.lp]at hL;cases hL⟩
 obtain⟨h1,h2⟩:=h.2.1 c P hc;refine⟨fun hh=>h1 ?_,h2⟩
 rcases hh with hh|⟨a,o,hh⟩
 ·exact .inl hh
 ·exact .inr ⟨a,o,(C.keep_sub τ).loc _ _ hh⟩
def Mm(σ τ:Sto):Ad->Ad->Prop
 |[],_=>True
 |(i,v')::r,ρ=>(∃v,Ad.at ρ i=some v/\Fz σ τ v v')/\Mm σ τ r ρ
theorem Mm.at{σ τ}:∀{ρ' ρ:Ad},Mm σ τ ρ' ρ->∀i v',Ad.at ρ' i=some v'->∃v,Ad.at ρ i=some v/\Fz σ τ v v'
 |[],ρ,_,i,v,h=>by simp[Ad.at]at h
 |(j,u)::r,ρ,h,i,v,hv=>by
  obtain⟨h1,h2⟩:=h;simp only[Ad.at]at hv;cases hb:Nat.beq j i with
  |true=>rw[hb]at hv;cases hv;have:=ac_ hb;subst this;exact h1
  |false=>rw[hb]at hv;exact Mm.at h2 i v hv
theorem Mn:∀(l:Ad) (i:Nat),(Oj l).get i=Ad.at l i
 |[],i=>rfl
 |(j,v)::r,i=>by
  show(Tr.put (j+1) (Oj r) j (some v)).get i=_
  rw[dd_];simp only[Ad.at]
  by_cases h:i=j
  ·subst h;rw[if_pos rfl,aw_,cond_true]
  ·rw[if_neg h]
   have hb:Nat.beq j i=false:=by cases hb:Nat.beq j i with|true=>exact absurd (ac_ hb).symm h|false=>rfl
   rw[hb,cond_false,Mn r i]
theorem Kf(l):Has (Oj l) l:=fun i v h=>by rw[Mn];exact h
theorem SSt.frz{E}[Se E]{C w tm nt σ τ a ρ ρ'}(st:SSt E C w ⟨tm,nt,[],σ⟩ a)(ht:Has tm ρ)(hf:Ds σ τ)(hs:∀i v',Ad.at ρ' i=some v'->∃v,Ad.at ρ i=some v/\Fz σ τ v v'):
  SSt E (C.keep τ) w ⟨Oj ρ',nt,[],τ⟩ a:=by
 refine⟨st.sim.frz hf,Iw.frz st.glob,fun i v hv=>?_,st.size,?_⟩
 ·have hv:(Oj ρ').get i=some v:=hv;rw[Mn]at hv;obtain⟨u,h1,h2⟩:=hs i v hv;exact h2.R st.sim (st.tmps i u (ht i u h1))
 ·have:=st.dfs;cases hds:a.defers with
  |nil=>unfold DR;trivial
  |cons d ds=>rw[hds]at this;unfold DR at this;exact this.elim
theorem Av2{E}[Se E]{nt B c Q ρ σ}(τ ρ')(hf:Ds σ τ)(hB:B<=nx τ)(hs:Mm σ τ ρ' ρ)(k:T E nt [] B c Q ρ' τ):T E nt [] B c Q ρ σ:=
 fun ro n hn C w tm a ht st _=>wpIn_mono (k ro n hn (C.keep τ) w _ a (Kf ρ') (st.frz ht hf hs.at) hB) fun e a' w' he=>he.from (en_ C τ B w)
theorem Aq3{E}[Se E]{nt B ops r K ρ σ}(τ ρ')(hf:Ds σ τ)(hB:B<=nx τ)(hs:∀i v',Ad.at ρ' i=some v'->∃v,Ad.at ρ i=some v/\Fz σ τ v v')(k:TO E nt [] B ops r K ρ' τ):TO E nt [] B ops r K ρ σ:=
 fun ro n hn C w tm a ht st _ arr i QQ rest h1 h2 hQ=>k ro n hn (C.keep τ) w _ a (Kf ρ') (st.frz ht hf hs) hB arr i QQ rest h1 h2 fun C2 w2 a2 tm2 ρ2 σ2 q1 q2 q3 qB q4=>hQ C2 w2 a2 tm2 ρ2 σ2 q1 q2 q3 qB ((en_ C τ B w).trans q4)
end Go.AM
