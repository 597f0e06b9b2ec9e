/- A part of the proof; shortened by program. -/
import Derived.Wp
import Derived.Laws.Sem
import Derived.Laws.Strings
import Derived.IntWalk
import Derived.Test.YtmkaboegdoadhaaGreatDoorP00
set_option maxRecDepth 100000
set_option maxHeartbeats 4000000
set_option linter.all false
namespace Go.AM
open Go
section
structure aO where
 loc:Nat->Option (Nat×Nat)
 stm:Nat->Int
 res:Nat->Prop
 lr:Nat->Option Loop
def aO.own(C:aO)(c:Nat):Prop:=C.res c\/∃a o,C.loc a=some (c,o)
def csize(w:World)(c:Nat):Nat:=match w.heap[c]? with|some (.cells a _ _)=>a.size|_=>0
mutual
def R (C:aO) (N:Nat) (w:World):I->Value->Prop
 |.any,_=>True
 |.bool b,v=>v=.bool b
 |.int k n,v=>v=.int k n
 |.str l,v=>∃s,v=.string s/\B2 s=l
 |.nil x,v=>v=x/\Xl x=true
 |.pr a off,v=>∃ad,v=.pointer (some ad)/\a<N/\∀c o,C.loc a=some (c,o)->ad=⟨c,o+off,none⟩
 |.pv cs,v=>∃c o,v=.pointer (some ⟨c,o,none⟩)/\(cs≠[]->¬C.own c)/\RC C N w c cs o
 |.sr a off sz len cap,v=>∃ad k,v=.slice (some ad) len k/\a<N/\len<=k/\(∀q,cap=some q->k=q)/\
   ∀c o,C.loc a=some (c,o)->(0<k->ad=⟨c,o+off,none⟩)/\o+off+k*sz<=csize w c
 |.sv cs sz len cap,v=>∃ado k,v=.slice ado len k/\len<=k/\(∀q,cap=some q->k=q)/\cs.length=len*sz/\(ado=none->k=0)/\
   ∀ad,ado=some ad->(0<k->ad.spot=none)/\(cs≠[]->¬C.own ad.block)/\RC C N w ad.block cs ad.off
 |.mp r,v=>∃c,v=.map (some c)/\r<N/\∀c' o,C.loc r=some (c',o)->c=c'
 |.it r,v=>∃c,v=.pointer (some ⟨c,0,none⟩)/\r<N/\∀c' o,C.loc r=some (c',o)->c=c'
 |.stp a,v=>v=.int .i64 (C.stm a)/\a<N
 |.flt k n,v=>v=.float k n
 |.yl a,v=>v=.func (.yield (C.stm a).toNat) #[] #[]/\a<N
 |.fn f p q,v=>∃a b,v=.func f a b/\RL C N w p a.toList/\RL C N w q b.toList
 |.ifc t x,v=>∃y,v=.iface t y/\R C N w x y
 |.agg cs,v=>∃a,v=.agg a/\RL C N w cs a.toList/\∀x∈a.toList,x.oneCell=true
 |.tup vs,v=>∃a,v=.tuple a/\RL C N w vs a.toList
def RC (C:aO) (N:Nat) (w:World) (c:Nat):List I->Nat->Prop
 |[],_=>True
 |x::r,o=>(∃v,w.cell? ⟨c,o,none⟩=some v/\v.oneCell=true/\R C N w x v)/\RC C N w c r (o+1)
def RL (C:aO) (N:Nat) (w:World):List I->List Value->Prop
 |[],[]=>True
 |x::r,v::s=>R C N w x v/\RL C N w r s
 |_,_=>False
end
structure bC (C:aO)(N:Nat)(w:World)(C':aO)(N':Nat)(w':World):Prop where
 next:N<=N'
 size:w.heap.size<=w'.heap.size
 keep:∀b,b<w.heap.size->¬C.own b->¬C'.own b/\w'.heap[b]? =w.heap[b]?
 loc:∀a,a<N->∀p,C'.loc a=some p->C.loc a=some p
 stm:∀a,a<N->C'.stm a=C.stm a
 lr:∀a,a<N->C'.lr a=C.lr a
 bsz:∀a,a<N->∀c o,C'.loc a=some (c,o)->csize w' c=csize w c
 res:C'.res=C.res/\∀b,C.res b->w'.heap[b]? =w.heap[b]?
 os:w'.os=w.os/\w'.output=w.output
theorem bC.refl(C N w):bC C N w C N w:=
 ⟨Y,Y,λ_ _ h=>⟨h,rfl⟩,λ_ _ _ h=>h,λ_ _=>rfl,λ_ _=>rfl,λ_ _ _ _ _=>rfl,⟨rfl,λ_ _=>rfl⟩,rfl,rfl⟩
abbrev dJ:=@bC.refl
theorem bC.trans{C e f:aO}{N g i:Nat}{w j l:World}(h:bC C N w e g j)(k:bC e g j f i l):bC C N w f i l where
 next:=bD h.next k.next
 size:=bD h.size k.size
 keep b n s:=by
  obtain⟨r,u⟩:=h.keep b n s;obtain⟨v,x⟩:=k.keep b (cC n h.size) r
  grind
 loc a d p t:=h.loc a d p (k.loc a (cC d h.next) p t)
 stm a d:=(k.stm a (cC d h.next)).trans (h.stm a d)
 lr a d:=(k.lr a (cC d h.next)).trans (h.lr a d)
 bsz a d c o q:=by
  have m:=cC d h.next;exact(k.bsz a m c o q).trans (h.bsz a d c o (k.loc a m _ q))
 res:=⟨k.res.1.trans h.res.1,λb n=>(k.res.2 b (by rw[h.res.1];exact n)).trans (h.res.2 b n)⟩
 os:=⟨k.os.1.trans h.os.1,k.os.2.trans h.os.2⟩
theorem RN{w:World}{a v}(h:w.cell? a=some v):a.block<w.heap.size:=by
 unfold World.cell? at h
 grind
theorem Ua{w a:World}{b}(h:a.heap[b]? =w.heap[b]?)(o s):a.cell? ⟨b,o,s⟩=w.cell? ⟨b,o,s⟩:=by
 unfold World.cell?;grind
section
variable {C C':aO}{N N':Nat}{w w':World}
mutual
theorem R.ext (e:bC C N w C' N' w'):∀(x:I) (v:Value),R C N w x v->R C' N' w' x v
 |.any,_,_=>by unfold R;trivial
 |.bool b,v,h=>by unfold R at *;exact h
 |.int k n,v,h=>by unfold R at *;exact h
 |.str l,v,h=>by unfold R at *;exact h
 |.nil x,v,h=>by unfold R at *;exact h
 |.pr a off,v,h=>by
  unfold R at *;obtain⟨ad,h1,h2,h3⟩:=h;exact⟨ad,h1,cC h2 e.next,λc o hc=>h3 c o (e.loc a h2 _ hc)⟩
 |.pv cs,v,h=>by
  unfold R at *;obtain⟨c,o,h1,h2,h3⟩:=h;exact⟨c,o,h1,RC.extOwn e c cs o h2 h3,RC.ext e c cs o h2 h3⟩
 |.sr a off sz len cap,v,h=>by
  unfold R at *;obtain⟨ad,k,h1,h2,h3,h4,h5⟩:=h;refine⟨ad,k,h1,cC h2 e.next,h3,h4,λc o hc=>?_⟩
  obtain⟨h6,h7⟩:=h5 c o (e.loc a h2 _ hc)
  exact⟨h6,by rw[e.bsz a h2 c o hc];exact h7⟩
 |.sv cs sz len cap,v,h=>by
  unfold R at *;obtain⟨ado,k,h1,h2,h3,h4,h5,h6⟩:=h;refine⟨ado,k,h1,h2,h3,h4,h5,λad ha=>?_⟩
  obtain⟨h7,h8,h9⟩:=h6 ad ha;exact⟨h7,RC.extOwn e ad.block cs ad.off h8 h9,RC.ext e ad.block cs ad.off h8 h9⟩
 |.mp r,v,h=>by
  unfold R at *;obtain⟨c,h1,h2,h3⟩:=h;exact⟨c,h1,cC h2 e.next,λc' o hc=>h3 c' o (e.loc r h2 _ hc)⟩
 |.it r,v,h=>by
  unfold R at *;obtain⟨c,h1,h2,h3⟩:=h;exact⟨c,h1,cC h2 e.next,λc' o hc=>h3 c' o (e.loc r h2 _ hc)⟩
 |.stp a,v,h=>by
  unfold R at *
  exact⟨by rw[e.stm a h.2];grind,cC h.2 e.next⟩
 |.flt k n,v,h=>by unfold R at *;exact h
 |.yl a,v,h=>by
  unfold R at *
  exact⟨by rw[e.stm a h.2];grind,cC h.2 e.next⟩
 |.fn f p q,v,h=>by
  unfold R at *;obtain⟨a,b,h1,h2,h3⟩:=h;exact⟨a,b,h1,RL.ext e p _ h2,RL.ext e q _ h3⟩
 |.ifc t x,v,h=>by
  unfold R at *;obtain⟨y,h1,h2⟩:=h;exact⟨y,h1,R.ext e x y h2⟩
 |.agg cs,v,h=>by
  unfold R at *;obtain⟨a,h1,h2,h3⟩:=h;exact⟨a,h1,RL.ext e cs _ h2,h3⟩
 |.tup vs,v,h=>by
  unfold R at *;obtain⟨a,h1,h2⟩:=h;exact⟨a,h1,RL.ext e vs _ h2⟩
theorem RC.extOwn (e:bC C N w C' N' w') (c:Nat):∀(cs:List I) (o:Nat),(cs≠[]->¬C.own c)->RC C N w c cs o->(cs≠[]->¬C'.own c)
 |[],_,_,_=>λh=>absurd rfl h
 |x::r,o,ho,h=>λ_=>by
  unfold RC at h;obtain⟨⟨v,h1,_⟩,_⟩:=h
  exact(e.keep c (RN h1) (ho (by simp))).1
theorem RC.ext (e:bC C N w C' N' w') (c:Nat):∀(cs:List I) (o:Nat),(cs≠[]->¬C.own c)->RC C N w c cs o->RC C' N' w' c cs o
 |[],_,_,_=>by unfold RC;trivial
 |x::r,o,ho,h=>by
  unfold RC at *;obtain⟨⟨v,h1,h2,h3⟩,h4⟩:=h
  exact⟨⟨v,(Ua (e.keep c (RN h1) (ho (by simp))).2 o none).trans h1,h2,R.ext e x v h3⟩,RC.ext e c r (o+1) (λ_=>ho (by simp)) h4⟩
theorem RL.ext (e:bC C N w C' N' w'):∀(l:List I) (vs:List Value),RL C N w l vs->RL C' N' w' l vs
 |[],[],_=>by unfold RL;trivial
 |x::r,v::s,h=>by
  unfold RL at *;exact⟨R.ext e x v h.1,RL.ext e r s h.2⟩
 |[],_::_,h=>by unfold RL at h;grind
 |_::_,[],h=>by unfold RL at h;grind
end
theorem RL.length:∀{l:List I} {a:List Value},RL C N w l a->l.length=a.length
 |[],[],_=>rfl
 |x::r,v::s,h=>by unfold RL at h;simp[RL.length h.2]
 |[],_::_,h=>by unfold RL at h;grind
 |_::_,[],h=>by unfold RL at h;grind
theorem RL.get:∀{l:List I} {b:List Value} (_:RL C N w l b) (i:Nat) (x:I),l[i]? =some x->∃v,b[i]? =some v/\R C N w x v
 |x::r,v::s,h,0,y,a=>by unfold RL at h;grind
 |x::r,v::s,h,i+1,y,a=>by unfold RL at h;exact RL.get h.2 i y Z
 |[],[],_,i,y,a=>Z
 |[],_::_,h,_,_,_=>Z
 |_::_,[],h,_,_,_=>by unfold RL at h;grind
theorem RL.append:∀{l:List I} {c:List Value} {b:List I} {a:List Value},RL C N w l c->RL C N w b a->RL C N w (l++b) (c++a)
 |[],[],_,_,_,k=>k
 |x::r,v::s,_,_,h,k=>by unfold RL at h;show RL C N w (x::(r++_)) (v::(s++_));unfold RL;exact⟨h.1,RL.append h.2 k⟩
 |[],_::_,_,_,h,_=>by unfold RL at h;grind
 |_::_,[],_,_,h,_=>by unfold RL at h;grind
theorem RL.drop:∀{l:List I} {a:List Value} (n:Nat),RL C N w l a->RL C N w (l.drop n) (a.drop n)
 |[],[],n,h=>by simp[RL]
 |x::r,v::s,0,h=>h
 |x::r,v::s,n+1,h=>by unfold RL at h;simpa using RL.drop n h.2
 |[],_::_,_,h=>by unfold RL at h;grind
 |_::_,[],_,h=>by unfold RL at h;grind
theorem RC.get:∀{a:List I} {c o:Nat} (_:RC C N w c a o) (i:Nat) (x:I),a[i]? =some x->∃v,w.cell? ⟨c,o+i,none⟩=some v/\v.oneCell=true/\R C N w x v
 |x::r,c,o,h,0,y,b=>by unfold RC at h;grind
 |x::r,c,o,h,i+1,y,b=>by
  unfold RC at h;have:=RC.get h.2 i y Z
  grind
 |[],_,_,_,i,y,b=>Z
theorem RC.drop:∀{a:List I} {c o:Nat} (n:Nat),RC C N w c a o->RC C N w c (a.drop n) (o+n)
 |a,c,o,0,h=>h
 |[],_,_,n+1,_=>by simp[RC]
 |x::r,c,o,n+1,h=>by
  unfold RC at h;have:=RC.drop n h.2
  grind
theorem RC.take:∀{b:List I} {c o:Nat} (n:Nat) {l:List I},Dr n b=some l->RC C N w c b o->RC C N w c l o
 |b,c,o,0,l,a,h=>by simp[Dr]at a;subst a;unfold RC;trivial
 |x::r,c,o,n+1,l,a,h=>by
  unfold RC at h;simp only[Dr]at a;cases d:Dr n r with
  |none=>simp[d]at a
  |some e=>
   simp[d]at a
   subst a;unfold RC;exact⟨h.1,RC.take n d h.2⟩
 |[],_,_,n+1,l,a,h=>by simp[Dr]at a
end
theorem Hu:∀{n:Nat} {l a:List I},Dr n l=some a->a=l.take n/\a.length=n
 |0,l,a,h=>by simp[Dr]at h;grind
 |n+1,[],a,h=>by simp[Dr]at h
 |n+1,x::r,a,h=>by
  simp only[Dr]at h;cases b:Dr n r with
  |none=>simp[b]at h
  |some e=>
   simp[b]at h
   subst h;obtain⟨c,d⟩:=Hu b
   exact⟨by simp[c],by simp[d]⟩
theorem Tr.get_mkL{C}(v)(l r:Tr C)(k):(Tr.mkL v l r).get k=(Tr.n v l r).get k:=by cases l<;>rfl
abbrev AQ:=@Tr.get_mkL
theorem Tr.get_mkR{C}(v)(l r:Tr C)(k):(Tr.mkR v l r).get k=(Tr.n v l r).get k:=by cases r<;>rfl
abbrev AP:=@Tr.get_mkR
theorem wT{n:Nat}(h:¬n=0):Nat.beq n 0=false:=by cases n with|zero=>exact absurd rfl h|succ n=>rfl
theorem Tr.get_succ{C}(v)(l r:Tr C)(k):(Tr.n v l r).get (k+1)=if k%2=0 then l.get (k / 2)else r.get (k / 2):=by
 simp only[Tr.get]
 by_cases h:k%2=0
 ·simp[h]
 ·have:Nat.beq (k%2) 0=false:=wT h
  grind
abbrev jU:=@Tr.get_succ
theorem Tr.get_put_ne{C}:∀(f:Nat) (t:Tr C) (k:Nat) (x:Option C) (j:Nat),j≠k->(t.put f k x).get j=t.get j
 |0,t,k,x,j,h=>rfl
 |f+1,.e,0,x,j,h=>by
  cases j with
  |zero=>exact absurd rfl h
  |succ j=>simp[Tr.put,jU,Tr.get]
 |f+1,.n v l r,0,x,j,h=>by
  cases j with
  |zero=>exact absurd rfl h
  |succ j=>simp[Tr.put,jU]
 |f+1,.e,k+1,x,j,h=>by
  simp only[Tr.put]
  by_cases c:k%2=0
  ·have b:Nat.beq (k%2) 0=true:=by simp[c]
   simp only[b,cond_true,AQ];cases j with
   |zero=>simp[Tr.get]
   |succ j=>
    rw[jU]
    by_cases a:j%2=0
    ·rw[if_pos a,Tr.get_put_ne f _ _ _ _ z];simp[Tr.get]
    ·rw[if_neg a];simp[Tr.get]
  ·have b:Nat.beq (k%2) 0=false:=wT c;simp only[b,cond_false,AP];cases j with
   |zero=>simp[Tr.get]
   |succ j=>
    rw[jU]
    by_cases a:j%2=0
    ·rw[if_pos a];simp[Tr.get]
    ·rw[if_neg a,Tr.get_put_ne f _ _ _ _ z];simp[Tr.get]
 |f+1,.n v l r,k+1,x,j,h=>by
  simp only[Tr.put]
  by_cases c:k%2=0
  ·have b:Nat.beq (k%2) 0=true:=by simp[c]
   simp only[b,cond_true,AQ];cases j with
   |zero=>simp[Tr.get]
   |succ j=>
    rw[jU,jU]
    by_cases a:j%2=0
    ·rw[if_pos a,if_pos a,Tr.get_put_ne f _ _ _ _ z]
    ·grind
  ·have b:Nat.beq (k%2) 0=false:=wT c;simp only[b,cond_false,AP];cases j with
   |zero=>simp[Tr.get]
   |succ j=>
    rw[jU,jU]
    by_cases a:j%2=0
    ·grind
    ·rw[if_neg a,if_neg a,Tr.get_put_ne f _ _ _ _ z]
abbrev eg_:=@Tr.get_put_ne
theorem Tr.get_put_eq{C}:∀(f:Nat) (t:Tr C) (k:Nat) (x:Option C),k<f->(t.put f k x).get k=x
 |0,t,k,x,h=>absurd h z
 |f+1,.e,0,x,_=>rfl
 |f+1,.n v l r,0,x,_=>rfl
 |f+1,.e,k+1,x,h=>by
  simp only[Tr.put]
  by_cases a:k%2=0
  ·have b:Nat.beq (k%2) 0=true:=by simp[a]
   simp only[b,cond_true,AQ];rw[jU,if_pos a,Tr.get_put_eq f .e (k / 2) x z]
  ·have b:Nat.beq (k%2) 0=false:=wT a;simp only[b,cond_false,AP];rw[jU,if_neg a,Tr.get_put_eq f .e (k / 2) x z]
 |f+1,.n v l r,k+1,x,h=>by
  simp only[Tr.put]
  by_cases a:k%2=0
  ·have b:Nat.beq (k%2) 0=true:=by simp[a]
   simp only[b,cond_true,AQ];rw[jU,if_pos a,Tr.get_put_eq f l (k / 2) x z]
  ·have b:Nat.beq (k%2) 0=false:=wT a;simp only[b,cond_false,AP];rw[jU,if_neg a,Tr.get_put_eq f r (k / 2) x z]
abbrev eh_:=@Tr.get_put_eq
theorem Tr.get_put{C}(t:Tr C)(k x j):(t.put (k+1) k x).get j=if j=k then x else t.get j:=by
 by_cases h:j=k
 ·subst h;rw[if_pos rfl,eh_ _ _ _ _ z]
 ·rw[if_neg h,eg_ _ _ _ _ _ h]
abbrev jL:=@Tr.get_put
theorem Ef{C J}(t)(k:Tr C->J):Ty t k=k t:=by cases t<;>rfl
theorem F.get_set(J:F)(a o b):(J.set a o).get b=if b=a then some o else J.get b:=by
 cases J;simp only[F.set,Ef,F.get,jL]
abbrev aU:=@F.get_set
theorem F.get_kill(J:F)(a b):(J.kill a).get b=if b=a then none else J.get b:=by
 cases J;simp only[F.kill,Ef,F.get,jL]
abbrev dF:=@F.get_kill
theorem F.get_new(J o b):(J.new o).get b=if b=O J then some o else J.get b:=by
 cases J;simp only[F.new,Ef,Ak,F.get,O,jL];rfl
abbrev a5:=@F.get_new
theorem Aq(J a o):O (J.set a o)=O J:=by cases J;simp only[F.set,Ef,O]
theorem B3(J a):O (J.kill a)=O J:=by cases J;simp only[F.kill,Ef,O]
theorem Ao(J o):O (J.new o)=O J+1:=by cases J;simp only[F.new,Ef,Ak,O]
mutual
def KV:aQ->Value->Prop
 |.bool b,v=>v=.bool b
 |.int k n,v=>v=.int k n
 |.str l,v=>∃s,v=.string s/\B2 s=l
 |.agg cs,v=>∃a,v=.agg a/\dM cs a.toList
def dM:List aQ->List Value->Prop
 |[],[]=>True
 |x::r,v::s=>KV x v/\dM r s
 |_,_=>False
end
def KS(d:TypeDesc)(v:Value):Prop:=
 match d with
 |.int k=>∃n,v=.int k n
 |.string=>∃s,v=.string s
 |.bool=>∃b,v=.bool b
 |_=>False
def KFs(P:Program):List Field->List Value->Prop
 |[],[]=>True
 |f::a, v::b=>(∃i d, P.info? f.type=some i/\P.underlying f.type=some d/\i.size=1/\Mx d=false/\KS d v/\f.name≠ "_")/\KFs P a b
 |_,_=>False
def KA(P:Program)(s:Nat)(v:Value):Prop:=
 ∃n e a d b,P.underlying s=some (.array n e)/\v=.agg a/\P.info? e=some b/\b.size=1/\P.underlying e=some d/\Mx d=false/\a.size=n/\n≠0/\∀x∈a.toList,KS d x
def KT(P:Program)(s:Nat)(v:Value):Prop:=
 (∃d,P.underlying s=some d/\KS d v)\/
 (∃b a,P.underlying s=some (.struct b)/\v=.agg a/\KFs P b.toList a.toList/\Jz b.toList 0=true/\P.stoodInHeld s=false)\/KA P s v
def ER(C:aO)(N:Nat)(w:World):List (aQ×I)->List MapEntry->Prop
 |[],[]=>True
 |x::r,e::s=>(KV x.1 e.key/\R C N w x.2 e.val)/\ER C N w r s
 |_,_=>False
structure D8 (P:Program)(C:aO)(N:Nat)(w:World)(kt:Nat)(es:List (aQ×I))(E:Array MapEntry)(clock:Nat):Prop where
 typed:∀e∈E.toList,KT P kt e.key
 perm:∃L,List.Perm L E.toList/\ER C N w es L
 keys:(E.toList.map (·.key)).Nodup
 born:∀e∈E.toList,e.born<clock
 apart:(E.toList.map (·.born)).Nodup
def tU:XE->Code
 |.normal=>.skip
 |.exit a=>.exit a
 |.ret=>.ret
def C9(r:Loop):LS->Loop
 |.ready=>{ r with state:=.ready,pending:=none }
 |.busy=>{ r with state:=.busy,pending:=none }
 |.done x=>{ r with state:=.done,pending:=some (tU x) }
def OR(P:Program)(C:aO)(w:World)(J:F)(a:Nat):AO->Prop
 |.cells t=>∃c o q T,C.loc a=some (c,o)/\w.heap[c]? =some (.cells q T (0,0))/\RC C (O J) w c t o
 |.map n l _=>∃c E f,C.loc a=some (c,0)/\w.heap[c]? =some (.map E f)/\D8 P C (O J) w n l E f
 |.iter none _ left _=>∃c b g h,C.loc a=some (c,0)/\w.heap[c]? =some (.mapIter none b g h)/\left=[]
 |.iter (some m) i left p=>m<O J/\∃c j b g h,C.loc a=some (c,0)/\w.heap[c]? =some (.mapIter (some j) b g h)/\
   ∀n l d,J.get m=some (.map n l d)->i<=d/\(i=d->∃E,C.loc m=some (j,0)/\w.heap[j]? =some (.map E b)/\h=b/\
    (∃L,List.Perm L (E.toList.filter λe=> !g.contains e.born)/\ER C (O J) w left L)/\
    ∀k v,p=some (k,v)->∃e∈E.toList,g.back? =some e.born/\KV k e.key/\R C (O J) w v e.val)
 |.stamp m i k=>m<O J/\∀n l d,J.get m=some (.map n l d)->i<=d/\(i=d->∃j E f,C.loc m=some (j,0)/\w.heap[j]? =some (.map E f)/\
    ∃e∈E.toList,KV k e.key/\C.stm a=e.born)
 |.loop s=>∃c r,C.loc a=some (c,0)/\C.lr a=some r/\w.heap[c]? =some (.loop (C9 r s))
def Zu:AO->Bool
 |.stamp .. =>true
 |_=>false
structure aX (P:Program)(C:aO)(w:World)(J:F):Prop where
 obj:∀a d,J.get a=some d->OR P C w J a d
 bound:∀a d,J.get a=some d->a<O J
 dom:∀a p,C.loc a=some p->∃d,J.get a=some d/\Zu d=false
 inj:∀a b c o o',C.loc a=some (c,o)->C.loc b=some (c,o')->a=b
 lt:∀a c o,C.loc a=some (c,o)->c<w.heap.size
 rlt:∀b,C.res b->b<w.heap.size
 rdis:∀a c o,C.loc a=some (c,o)->¬C.res c
section
variable {C C':aO}{N N':Nat}{w w':World}
theorem ER.ext(e:bC C N w C' N' w'):∀{l:List (aQ×I)} {L:List MapEntry},ER C N w l L->ER C' N' w' l L
 |[],[],_=>by unfold ER;trivial
 |x::r,f::s,h=>by unfold ER at *;exact⟨⟨h.1.1,R.ext e _ _ h.1.2⟩,ER.ext e h.2⟩
 |[],_::_,h=>by unfold ER at h;grind
 |_::_,[],h=>by unfold ER at h;grind
theorem D8.ext{P}(e:bC C N w C' N' w'){s b E a}(h:D8 P C N w s b E a):D8 P C' N' w' s b E a:=
 ⟨h.typed,let⟨L,c,d⟩:=h.perm;⟨L,c,d.ext e⟩,h.keys,h.born,h.apart⟩
theorem RC.extHeap(e:bC C N w C' N' w')(c)(b:w'.heap[c]? =w.heap[c]?):∀(a:List I) (o:Nat),RC C N w c a o->RC C' N' w' c a o
 |[],_,_=>by unfold RC;trivial
 |x::r,o,h=>by
  unfold RC at *;obtain⟨⟨v,d,f,g⟩,i⟩:=h;exact⟨⟨v,(Ua b o none).trans d,f,R.ext e x v g⟩,RC.extHeap e c b r (o+1) i⟩
abbrev Ql:=@RC.extHeap
end
theorem OR.ext{P C W w X J q a a7}(h:OR P C w J a a7)(e:bC C (O J) w W (O q) X)(ha:a<O J)
  (d:W.loc a=C.loc a)(K:∀c o,C.loc a=some (c,o)->X.heap[c]? =w.heap[c]?)
  (hm:∀m,m<O J->∀N j B,q.get m=some (.map N j B)->∃n G v,J.get m=some (.map n G v)/\v<=B/\(v=B->W.loc m=C.loc m/\∀c o,C.loc m=some (c,o)->X.heap[c]? =w.heap[c]?)):
  OR P W X q a a7:=by
 cases a7 with
 |cells vs=>
  obtain⟨c,o,cs,T,g,t,l⟩:=h;exact⟨c,o,cs,T,d.trans g,(K c o g).trans t,Ql e c (K c o g) vs o l⟩
 |map N G u=>
  obtain⟨c,E,b,g,t,l⟩:=h;exact⟨c,E,b,d.trans g,(K c 0 g).trans t,l.ext e⟩
 |iter m u left a8=>
  cases m with
  |none=>
   obtain⟨c,i,s,p,g,t,l⟩:=h;exact⟨c,i,s,p,d.trans g,(K c 0 g).trans t,l⟩
  |some m=>
   obtain⟨S,c,Q,i,s,p,g,t,l⟩:=h;refine⟨cC S e.next,c,Q,i,s,p,d.trans g,(K c 0 g).trans t,λN j B H=>?_⟩
   obtain⟨n,G,v,g1,g2,g3⟩:=hm m S N j B H;obtain⟨k1,k2⟩:=l n G v g1;refine⟨bD k1 g2,λhv=>?_⟩
   have y:u=v:=by omega
   obtain⟨g4,g5⟩:=g3 z;obtain⟨E,U,q2,q3,⟨L,q4,q5⟩,q6⟩:=k2 y;exact⟨E,g4.trans U,(g5 Q 0 U).trans q2,q3,⟨L,q4,q5.ext e⟩,λk x hk=>let⟨f,f1,f2,f3,f4⟩:=q6 k x hk;⟨f,f1,f2,f3,R.ext e _ _ f4⟩⟩
 |stamp m u k=>
  obtain⟨S,l⟩:=h;refine⟨cC S e.next,λN j B H=>?_⟩
  obtain⟨n,G,v,g1,g2,g3⟩:=hm m S N j B H;obtain⟨k1,k2⟩:=l n G v g1;refine⟨bD k1 g2,λhv=>?_⟩
  have y:u=v:=by omega
  obtain⟨g4,g5⟩:=g3 z;obtain⟨Q,E,b,U,q2,f,f1,f2,f3⟩:=k2 y
  exact⟨Q,E,b,g4.trans U,(g5 Q 0 U).trans q2,f,f1,f2,by rw[e.stm a ha];exact f3⟩
 |loop st=>
  obtain⟨c,r,g,t,l⟩:=h;exact⟨c,r,d.trans g,(e.lr a ha).trans t,(K c 0 g).trans l⟩
attribute [grind=] F.get_set F.get_new F.get_kill Aq Ao B3
end
structure Wr (w w':World)(c:Nat)(O:Obj):Prop where
 size:w'.heap.size=w.heap.size
 here:w'.heap[c]? =some O
 other:∀b,b≠c->w'.heap[b]? =w.heap[b]?
 os:w'.os=w.os/\w'.output=w.output
structure Pu (w w':World)(O:Obj):Prop where
 size:w'.heap.size=w.heap.size+1
 here:w'.heap[w.heap.size]? =some O
 other:∀b,b<w.heap.size->w'.heap[b]? =w.heap[b]?
 os:w'.os=w.os/\w'.output=w.output
theorem Pu.of_push{w a b}(h:a.heap=w.heap.push b)(c:a.os=w.os/\a.output=w.output):Pu w a b:=
 ⟨Z,Z,Z,c⟩
abbrev AN:=@Pu.of_push
def aO.add(C:aO)(a c o:Nat):aO:={ C with loc:=λb=>if b=a then some (c,o)else C.loc b }
def aO.del(C:aO)(a:Nat):aO:={ C with loc:=λb=>if b=a then none else C.loc b }
def aO.addStm(C:aO)(a:Nat)(n:Int):aO:={ C with stm:=λb=>if b=a then n else C.stm b }
section
variable {P:Program}{C:aO}{w w':World}{J:F}
theorem aX.own_lt(h:aX P C w J){c}(b:C.own c):c<w.heap.size:=b.elim (h.rlt c) λ⟨a,o,d⟩=>h.lt a c o d
theorem aX.same(h:aX P C w J)(j:w.heap.size<=w'.heap.size)(g:∀b,b<w.heap.size->w'.heap[b]? =w.heap[b]?)(r:w'.os=w.os/\w'.output=w.output):
  aX P C w' J/\bC C (O J) w C (O J) w':=by
 have e:bC C (O J) w C (O J) w':=⟨Y,j,λb d p=>⟨p,g b d⟩,λ_ _ _ h=>h,λ_ _=>rfl,λ_ _=>rfl,
  λa _ c o f=>by unfold csize;rw[g c (h.lt a c o f)],⟨rfl,λb d=>g b (h.rlt b d)⟩,r⟩
 refine⟨⟨λa l H=>?_,h.bound,h.dom,h.inj,λa c o n=>cC (h.lt a c o n) j,λb d=>cC (h.rlt b d) j,h.rdis⟩,e⟩
 exact(h.obj a l H).ext e (h.bound a l H) rfl (λc o f=>g c (h.lt a c o f)) λm _ q i s k=>⟨q,i,s,k,Y,λ_=>⟨rfl,λc o f=>g c (h.lt m c o f)⟩⟩
theorem aX.push(h:aX P C w J){a}(p:Pu w w' a):aX P C w' J/\bC C (O J) w C (O J) w':=
 h.same (by have:=p.size;omega) p.other p.os
theorem aX.new(h:aX P C w J){B}(p:Pu w w' B)(u)(x:Zu u=false)
  (t:bC C (O J) w (C.add (O J) w.heap.size 0) (O J+1) w'->OR P (C.add (O J) w.heap.size 0) w' (J.new u) (O J) u):
  aX P (C.add (O J) w.heap.size 0) w' (J.new u)/\bC C (O J) w (C.add (O J) w.heap.size 0) (O J+1) w':=by
 have s:∀{a},a<O J->¬a=O J:=Z
 have y:∀a,a<O J->(C.add (O J) w.heap.size 0).loc a=C.loc a:=λa d=>by simp[aO.add,s d]
 have e:bC C (O J) w (C.add (O J) w.heap.size 0) (O J+1) w':=⟨by omega,by have:=p.size;omega,
  λb f K=>⟨λQ=>Q.elim (λv=>K (.inl v)) λ⟨a,o,j⟩=>by
   by_cases d:a=O J
   ·subst d;simp[aO.add]at j;omega
   ·simp[aO.add,d]at j;exact K (.inr ⟨a,o,j⟩),p.other b f⟩,
  Z,λ_ _=>rfl,λ_ _=>rfl,
  λa d c o l=>by rw[y a d]at l;unfold csize;rw[p.other c (h.lt a c o l)],⟨rfl,λb f=>p.other b (h.rlt b f)⟩,p.os⟩
 refine⟨⟨λa X H=>?_,λa X H=>?_,λa q L=>?_,λa b c o N d f=>?_,λa c o k=>?_,λb f=>by have:=h.rlt b f;have:=p.size;omega,λa c o k v=>?_⟩,e⟩
 ·rw[a5]at H
  by_cases d:a=O J
  ·grind
  ·rw[if_neg d]at H;have r:=h.bound a X H;refine(h.obj a X H).ext Z r (y a r) (λc o l=>p.other c (h.lt a c o l)) λm G R E S n=>?_
   rw[a5,if_neg (s G)]at n;exact⟨R,E,S,n,Y,λ_=>⟨y m G,λc o l=>p.other c (h.lt m c o l)⟩⟩
 ·rw[Ao];rw[a5]at H
  by_cases d:a=O J
  ·omega
  ·rw[if_neg d]at H;have:=h.bound a X H;omega
 ·rw[a5]
  by_cases d:a=O J
  ·grind
  ·simp[aO.add,d]at L;rw[if_neg d];exact h.dom a q L
 ·by_cases i:a=O J
  ·by_cases g:b=O J
   ·omega
   ·simp[aO.add,i]at d;simp[aO.add,g]at f;have:=h.lt b c N f;omega
  ·by_cases g:b=O J
   ·simp[aO.add,i]at d;simp[aO.add,g]at f;have:=h.lt a c o d;omega
   ·simp[aO.add,i]at d;simp[aO.add,g]at f;exact h.inj a b c o N d f
 ·by_cases d:a=O J
  ·simp[aO.add,d]at k;have:=p.size;omega
  ·simp[aO.add,d]at k;have:=h.lt a c o k;have:=p.size;omega
 ·by_cases d:a=O J
  ·simp[aO.add,d]at k;have:=h.rlt c v;omega
  ·simp[aO.add,d]at k;exact h.rdis a c o k v
theorem aX.upd(h:aX P C w J){a c o B}(d:C.loc a=some (c,o))(p:Wr w w' c B)(s:csize w' c=csize w c){O₀}(t:J.get a=some O₀)
  (r)(x:Zu r=false)(K:∀L Q v,r=.map L Q v->∃l k j,O₀=.map l k j/\j<v)
  (G:bC C (O J) w C (O J) w'->OR P C w' (J.set a r) a r):
  aX P C w' (J.set a r)/\bC C (O J) w C (O J) w':=by
 have N:∀b g i,b≠a->C.loc b=some (g,i)->w'.heap[g]? =w.heap[g]? :=λb g i f n=>p.other g (λy=>f (h.inj b a g i o n (y▸d)))
 have e:bC C (O J) w C (O J) w':=⟨Y,by rw[p.size];grind,
  λb _ E=>⟨E,p.other b (λf=>E (.inr (f▸⟨a,o,d⟩)))⟩,λ_ _ _ h=>h,λ_ _=>rfl,λ_ _=>rfl,
  λb _ g i n=>by
   by_cases f:b=a
   ·grind
   ·unfold csize;grind,⟨rfl,λb f=>p.other b (λu=>h.rdis a c o d (u▸f))⟩,p.os⟩
 refine⟨⟨λb X H=>?_,λb X H=>?_,λb q T=>?_,h.inj,λb g i n=>by rw[p.size];exact h.lt b g i n,λb f=>by rw[p.size];exact h.rlt b f,h.rdis⟩,e⟩
 ·rw[aU]at H
  by_cases f:b=a
  ·grind
  ·rw[if_neg f]at H;refine(h.obj b X H).ext Z (h.bound b X H) rfl (λg i n=>N b g i f n) λm _ L R U S=>?_
   grind
 ·rw[Aq];rw[aU]at H
  by_cases f:b=a
  ·subst f;exact h.bound b O₀ t
  ·rw[if_neg f]at H;exact h.bound b X H
 ·rw[aU]
  by_cases f:b=a
  ·grind
  ·rw[if_neg f];exact h.dom b q T
theorem aX.kill(h:aX P C w J)(a):aX P (C.del a) w (J.kill a)/\bC C (O J) w (C.del a) (O J) w:=by
 have f:∀b p,(C.del a).loc b=some p->b≠a/\C.loc b=some p:=λb p j=>by
  by_cases d:b=a
  ·simp[aO.del,d]at j
  ·simp[aO.del,d]at j;grind
 have e:bC C (O J) w (C.del a) (O J) w:=⟨Y,Y,λb _ r=>⟨λs=>s.elim (λu=>r (.inl u)) λ⟨x,o,i⟩=>r (.inr ⟨x,o,(f x _ i).2⟩),rfl⟩,
  λb _ p j=>(f b p j).2,λ_ _=>rfl,λ_ _=>rfl,λ_ _ _ _ _=>rfl,⟨rfl,λ_ _=>rfl⟩,rfl,rfl⟩
 refine⟨⟨λb X H=>?_,λb X H=>?_,λb q t=>?_,λx y c o E i v=>h.inj x y c o E (f x _ i).2 (f y _ v).2,λx c o i=>h.lt x c o (f x _ i).2,h.rlt,λx c o i=>h.rdis x c o (f x _ i).2⟩,e⟩
 ·rw[dF]at H
  by_cases d:b=a
  ·grind
  ·rw[if_neg d]at H
   refine(h.obj b X H).ext Z (h.bound b X H) (by simp[aO.del,d]) (λ_ _ _=>rfl) λm _ B k G g=>?_
   rw[dF]at g
   by_cases n:m=a
   ·grind
   ·rw[if_neg n]at g;exact⟨B,k,G,g,Y,λ_=>⟨by simp[aO.del,n],λ_ _ _=>rfl⟩⟩
 ·rw[B3];rw[dF]at H
  by_cases d:b=a
  ·grind
  ·rw[if_neg d]at H;exact h.bound b X H
 ·obtain⟨d,l⟩:=f b q t;rw[dF,if_neg d];exact h.dom b q l
theorem aX.replace(h:aX P C w J){a c o o' B}(d:C.loc a=some (c,o))(p:Wr w w' c B){n}(t:J.get a=some n)
  (r)(hO:Zu r=false)
  (U:bC C (O J) w ((C.del a).add (O J) c o') (O J+1) w'->OR P ((C.del a).add (O J) c o') w' ((J.kill a).new r) (O J) r):
  aX P ((C.del a).add (O J) c o') w' ((J.kill a).new r)/\bC C (O J) w ((C.del a).add (O J) c o') (O J+1) w':=by
 have a8:a<O J:=h.bound a n t;have dq:∀b f o',b≠a->C.loc b=some (f,o')->w'.heap[f]? =w.heap[f]? :=λb f o' j v=>p.other f (λQ=>j (h.inj b a f o' o v (Q▸d)))
 have s:∀b q,((C.del a).add (O J) c o').loc b=some q->(b=O J/\q=(c,o'))\/(b≠O J/\b≠a/\C.loc b=some q):=λb q l=>by
  by_cases j:b=O J
  ·simp[aO.add,j]at l;grind
  ·by_cases k:b=a
   ·simp[aO.add,aO.del,j,k]at l;omega
   ·simp[aO.add,aO.del,j,k]at l;grind
 have jd:∀b,b<O J->b≠a->((C.del a).add (O J) c o').loc b=C.loc b:=λb j k=>by simp[aO.add,aO.del,k,show ¬b=O J by omega]
 have T:∀b X,((J.kill a).new r).get b=some X->(b=O J/\X=r)\/(b≠O J/\b≠a/\J.get b=some X):=Z
 have e:bC C (O J) w ((C.del a).add (O J) c o') (O J+1) w':=⟨by omega,by rw[p.size];grind,
  λb _ K=>⟨λhh=>hh.elim (λhr=>K (.inl hr)) λ⟨x,y,S⟩=>by
   rcases s x _ S with⟨_,l⟩|⟨_,_,l⟩
   ·cases l;exact K (.inr ⟨a,o,d⟩)
   ·exact K (.inr ⟨x,y,l⟩),p.other b (λj=>K (.inr (j▸⟨a,o,d⟩)))⟩,
  Z,λ_ _=>rfl,λ_ _=>rfl,
  λb j f y v=>by
   rcases s b _ v with⟨u,_⟩|⟨_,i,g⟩
   ·omega
   ·unfold csize;grind,⟨rfl,λb j=>p.other b (λN=>h.rdis a c o d (N▸j))⟩,p.os⟩
 have R:O ((J.kill a).new r)=O J+1:=Z
 refine⟨⟨λb X H=>?_,λb X H=>?_,λb q l=>?_,λx y f y1 y2 G hy=>?_,λx f y G=>?_,λb j=>by rw[p.size];exact h.rlt b j,λx f y G=>?_⟩,e⟩
 ·rcases T b X H with⟨u,i⟩|⟨u,i,g⟩
  ·grind
  ·have E:=h.bound b X g;refine(h.obj b X g).ext Z E (jd b E i) (λf y v=>dq b f y i v) λm hm kt a7 v' a9=>?_
   grind
 ·rw[R]
  rcases T b X H with⟨u,_⟩|⟨_,_,g⟩
  ·omega
  ·have:=h.bound b X g;omega
 ·rcases s b q l with⟨u,_⟩|⟨u,i,g⟩
  ·grind
  ·obtain⟨X,W,L⟩:=h.dom b q g
   grind
 ·rcases s x _ G with⟨u,i⟩|⟨u,i,g⟩<;>rcases s y _ hy with⟨W,L⟩|⟨W,L,k3⟩
  ·omega
  ·cases i;exact absurd (h.inj y a _ _ _ k3 d) L
  ·cases L;exact absurd (h.inj x a _ _ _ g d) i
  ·exact h.inj x y f y1 y2 g k3
 ·rw[p.size]
  rcases s x _ G with⟨_,i⟩|⟨_,_,g⟩
  ·cases i;exact h.lt a c o d
  ·exact h.lt x f y g
 ·rcases s x _ G with⟨_,i⟩|⟨_,_,g⟩
  ·cases i;exact h.rdis a c o d
  ·exact h.rdis x f y g
theorem aX.newStamp(h:aX P C w J)(n:Int)(m j k)(K:m<O J)(t:∀o r c,J.get m=some (.map o r c)->j<=c/\(j=c->∃p E d,C.loc m=some (p,0)/\w.heap[p]? =some (.map E d)/\
        ∃e∈E.toList,KV k e.key/\n=e.born)):
    aX P (C.addStm (O J) n) w (J.new (.stamp m j k))/\bC C (O J) w (C.addStm (O J) n) (O J+1) w:=by
  have i:∀{a},a<O J->¬a=O J:=Z
  have e:bC C (O J) w (C.addStm (O J) n) (O J+1) w:=⟨by omega,Y,λb _ L=>⟨L,rfl⟩,λ_ _ _ h=>h,
    λa l=>by simp[aO.addStm,i l],λ_ _=>rfl,λ_ _ _ _ _=>rfl,⟨rfl,λ_ _=>rfl⟩,rfl,rfl⟩
  refine⟨⟨λa X H=>?_,λa X H=>?_,λa q N=>?_,h.inj,h.lt,h.rlt,h.rdis⟩,e⟩
  · rw[a5]at H
    by_cases l:a=O J
    · subst l;simp at H;subst H
      refine⟨Z,λo r c g=>?_⟩
      rw[a5,if_neg (i K)]at g;obtain⟨u,v⟩:=t o r c g;refine⟨u,λQ=>?_⟩
      obtain⟨p,E,d,S,T,f,y,B,G⟩:=v Q
      exact⟨p,E,d,S,T,f,y,B,by simp[aO.addStm,G]⟩
    · rw[if_neg l]at H
      refine(h.obj a X H).ext Z (h.bound a X H) rfl (λ_ _ _=>rfl) λx R o s U g=>?_
      rw[a5,if_neg (i R)]at g;exact⟨o,s,U,g,Y,λ_=>⟨rfl,λ_ _ _=>rfl⟩⟩
  · rw[Ao]
    rw[a5]at H
    by_cases l:a=O J
    · omega
    · rw[if_neg l]at H;have:=h.bound a X H;omega
  · obtain⟨X,u,v⟩:=h.dom a q N
    have:=h.bound a X u
    grind
end
theorem Hb(c o n):(⟨c,o,none⟩:Addr).add n=⟨c,o+n,none⟩:=by
 unfold Addr.add;grind
section
variable {P:Program}{C:aO}{N:Nat}{w:World}
theorem Mh:∀(b:List I) (c o i:Nat) (a:Array Value),RC C N w c b (o+i)->
  ∃l,(loadCellsFrom ⟨c,o,none⟩ i b.length a).run P w=.ok (a++l.toArray) w/\RL C N w b l/\∀x∈l,x.oneCell=true
 |[],c,o,i,a,_=>⟨[],by simp[loadCellsFrom],by unfold RL;trivial,by simp⟩
 |x::r,c,o,i,a,h=>by
  unfold RC at h;obtain⟨⟨v,d,g,j⟩,e⟩:=h;obtain⟨l,f,k,m⟩:=Mh r c o (i+1) (a.push v) e
  refine⟨v::l,?_,by unfold RL;grind,Z⟩
  simp only[cZ,loadCellsFrom,Sem.run_bind,run_load,Hb,d,Result.andThen_ok,f]
  simp
theorem Adj{b c o}(h:RC C N w c b o):
  ∃a,(loadCells ⟨c,o,none⟩ b.length).run P w=.ok a w/\RL C N w b a.toList/\∀x∈a.toList,x.oneCell=true:=by
 obtain⟨l,d,e,f⟩:=Mh (P:=P) b c o 0 #[] h
 exact⟨l.toArray,by simpa[loadCells]using d,Z,Z⟩
def Wg:Array Value->Nat->List Value->Array Value
 |a,_,[]=>a
 |a,k,v::r=>Wg (a.setIfInBounds k v) (k+1) r
theorem Nf:∀(l:List Value) (a:Array Value) (k:Nat),(Wg a k l).size=a.size
 |[],_,_=>rfl
 |v::r,a,k=>by simp[Wg,Nf r]
theorem Pw:∀(l:List Value) (a:Array Value) (k:Nat),k+l.length<=a.size->∀j,(Wg a k l)[j]? =if k<=j/\j<k+l.length then l[j-k]? else a[j]?
 |[],a,k,_,j=>by simp[Wg];omega
 |v::r,a,k,h,j=>by
  simp only[cZ]at h;rw[Wg,Pw r _ _ Z]
  grind
theorem R'(v:Value):v.oneCell'=v.oneCell:=by cases v<;>rfl
theorem Lq:∀(l:List Value) (w:World) (c o i:Nat) (a:Array Value) (T:TypeId),w.heap[c]? =some (.cells a T (0,0))->
  (∀x∈l,x.oneCell=true)->o+i+l.length<=a.size->∃e,(storeCells ⟨c,o,none⟩ l i).run P w=.ok () e/\Wr w e c (.cells (Wg a (o+i) l) T (0,0))
 |[],w,c,o,i,a,T,h,_,_=>⟨w,by simp[storeCells],⟨rfl,h,λ_ _=>rfl,rfl,rfl⟩⟩
 |v::r,w,c,o,i,a,T,h,k,m=>by
  simp only[cZ]at m
  have j:w.cell? ⟨c,o+i,none⟩=some a[o+i]:=by
   unfold World.cell?;grind
  have f:w.frozen? ⟨c,o+i,none⟩=false:=by unfold World.frozen?;simp[h]
  have g:(w.setCell ⟨c,o+i,none⟩ v).heap[c]? =some (.cells (a.setIfInBounds (o+i) v) T (0,0)):=by
   simp only[World.setCell,xF,if_true];simp[h]
  obtain⟨e,s,d⟩:=Lq r (w.setCell ⟨c,o+i,none⟩ v) c o (i+1) (a.setIfInBounds (o+i) v) T g (λx q=>k x (by simp[q])) Z
  refine⟨e,?_,?_⟩
  ·have p:v.oneCell'=true:=by rw[R'];grind
   simp only[storeCells,Sem.run_bind,Hb,run_store P w _ v _ p,j,f,fY,if_false,Result.andThen_ok];exact s
  ·refine⟨by rw[d.size];simp[World.setCell],?_,λb n=>?_,d.os⟩
   ·rw[d.here,Wg,show o+i+1=o+(i+1) by omega]
   ·rw[d.other b n];simp only[World.setCell,xF]
    grind
end
def BN{c:Type}(P:Program)(C:aO)(w:World)(J:F)(s:Sem c)(d:c->Value->Prop)(v:I)(q:F):Prop:=
 ∃y x a b,s.run P w=.ok y a/\d y x/\aX P b a q/\bC C (O J) w b (O q) a/\R b (O q) a v x
abbrev Iv(P:Program)(C:aO)(w:World)(J:F)(s:Sem Value)(v:I)(q:F):Prop:=BN P C w J s (λy x=>y=x) v q
section
variable {P:Program}{C:aO}{w:World}{J J':F}
theorem Ap{t:TypeId}{v}(h:Ay P t=some v):∃i d,P.info? t=some i/\P.underlying t=some d/\v.desc=d/\v.size=i.size/\v.bytes=i.bytes/\v.zero=zK (Mx d) i.zero/\v.isAgg=Mx d:=by
 unfold Ay at h
 grind
theorem Aa{t d}(h:P.underlying t=some d)(w):(underlying t).run P w=.ok d w:=by
 unfold underlying;simp[h]
theorem Cq{t i}(h:P.info? t=some i)(w):(typeInfo t).run P w=.ok i w:=by
 unfold typeInfo;simp[h]
theorem A9{t i}(h:P.info? t=some i)(w):(sizeOf t).run P w=.ok i.size w:=by
 unfold sizeOf;simp[Cq h]
theorem Fp{t d}(h:P.underlying t=some d)(w):(isAgg t).run P w=.ok (Mx d) w:=by
 unfold isAgg;simp only[Sem.run_bind,Aa h,Result.andThen_ok];cases d<;>rfl
theorem Sj{v}(h:zk v=true):v.oneCell=true:=by
 cases v<;>first|rfl|(simp[zk,Xl]at h)
theorem XU{v}(h:Xl v=true):v.oneCell=true:=by
 cases v<;>first|rfl|(simp[Xl]at h)
theorem R.oneCell{N x v}(h:R C N w x v)(u:x≠.any)(r:∀l,x≠.agg l)(t:∀l,x≠.tup l):v.oneCell=true:=by
 cases x<;>unfold R at h
 case any=>exact absurd rfl u
 case bool=>subst h;rfl
 case int=>subst h;rfl
 case str=>obtain⟨s,rfl,_⟩:=h;rfl
 case nil=>obtain⟨rfl,h⟩:=h;exact XU h
 case pr=>obtain⟨d,rfl,_⟩:=h;rfl
 case pv=>obtain⟨c,o,rfl,_⟩:=h;rfl
 case sr=>obtain⟨d,k,rfl,_⟩:=h;rfl
 case sv=>obtain⟨d,k,rfl,_⟩:=h;rfl
 case mp=>obtain⟨c,rfl,_⟩:=h;rfl
 case it=>obtain⟨c,rfl,_⟩:=h;rfl
 case stp=>obtain⟨rfl,_⟩:=h;rfl
 case yl=>obtain⟨rfl,_⟩:=h;rfl
 case flt=>subst h;rfl
 case fn=>obtain⟨a,b,rfl,_⟩:=h;rfl
 case ifc=>obtain⟨y,rfl,_⟩:=h;rfl
 case agg l=>exact absurd rfl (r l)
 grind
theorem Ng{v:Value}(h:v.oneCell=true):v.cells=#[v]:=by
 cases v<;>first|rfl|(simp[Value.oneCell]at h)
theorem Hc{N x n l v}(h:x.cellsN n=some l)(g:R C N w x v):
  RL C N w l v.cells.toList/\v.cells.size=n/\l.length=n/\∀y∈v.cells.toList,y.oneCell=true:=by
 have i:x≠.any->(∀l,x≠.agg l)->(∀l,x≠.tup l)->cond (Nat.beq n 1) (some [x]) none=some l->
   RL C N w l v.cells.toList/\v.cells.size=n/\l.length=n/\∀y∈v.cells.toList,y.oneCell=true:=by
  intro c e k j;have m:=g.oneCell c e k
  have b:n=1:=by
   by_cases b:n=1
   ·exact b
   ·have:Nat.beq n 1=false:=by rw[iB];intro f;exact b (bK f)
    grind
  subst b
  simp at j
  subst j;rw[Ng m]
  refine⟨by simp only[RL];grind,rfl,rfl,Z⟩
 cases x<;>simp only[I.cellsN]at h
 case any=>cases h
 case tup=>cases h
 case agg d=>
  unfold R at g;obtain⟨a,rfl,c,e⟩:=g
  have b:d.length=n:=by
   by_cases b:d.length=n
   ·exact b
   ·have:Nat.beq d.length n=false:=by rw[iB];intro f;exact b (bK f)
    grind
  simp[b]at h
  subst h;have:=c.length
  exact⟨c,by simp[Value.cells];grind,b,e⟩
 all_goals exact i Z Z Z h
theorem Aec{J}:∀(l:List Nat) (k:List Nat->J),Af1 l k=k l
 |[],k=>rfl
 |x::r,k=>by simp only[Af1,Ak,Aec r]
theorem Lr{N}(v):R C N w (Yh v) v:=by
 unfold Yh
 split
 ·unfold R;rfl
 ·unfold R;rfl
 ·rw[Ak];unfold R;rfl
 ·unfold R;rfl
 ·rw[Aec];unfold R;grind
 ·rw[Ak];unfold R;rfl
 ·cases h:Xl v
  ·simp only[cond_false];unfold R;trivial
  ·simp only[cond_true];unfold R;grind
theorem N3{N}:∀(l:List Value),RL C N w (qR l) l
 |[]=>by unfold qR RL;trivial
 |v::r=>by unfold qR RL;exact⟨Lr v,N3 r⟩
theorem Py:∀{l:List Value},Q5 l=true->∀x∈l,x.oneCell=true
 |[],_,x,a=>Z
 |v::r,h,x,a=>by
  simp only[Q5,bg]at h
  rcases bN.1 a with rfl|a
  ·exact Sj h.1
  ·exact Py h.2 x a
theorem Fq{b U l}(h:zK b U=some l){N}:∃v,U=some v/\RL C N w l v.cells.toList/\(∀x∈v.cells.toList,x.oneCell=true)/\
  (b=true->∃a,v=.agg a)/\(b=false->∃u,l=[u]/\R C N w u v):=by
 unfold zK at h
 split at h
 ·rename_i v
  split at h
  ·rename_i d
   split at h
   ·rename_i c
    simp only[bg]at c;cases h;exact⟨.agg d,rfl,N3 _,Py c.2,λ_=>⟨d,rfl⟩,Z⟩
   grind
  ·rename_i f
   split at h
   ·rename_i c
    simp only[bg,eQ]at c;cases h;have e:=Sj c.2;refine⟨v,rfl,?_⟩;rw[Ng e]
    exact⟨(by unfold RL;exact⟨Lr v,by unfold RL;trivial⟩),Z,Z,λ_=>⟨_,rfl,Lr v⟩⟩
   grind
 grind
end
section
variable {C:aO}{N:Nat}{w:World}
theorem Aoj(v):R C N w (ls v) v:=by
 unfold ls
 split
 ·rename_i c
  cases h:Q5 c.toList
  ·simp only[cond_false];unfold R;trivial
  ·simp only[cond_true];unfold R;exact⟨c,rfl,N3 _,Py h⟩
 ·unfold R;exact⟨_,rfl,N3 _⟩
 ·unfold R;exact⟨_,rfl,Lr _⟩
 ·rename_i f a b
  cases h:(a.isEmpty&&b.isEmpty)
  ·simp only[cond_false];unfold R;trivial
  ·simp only[cond_true]
   simp at h
   unfold R
   exact⟨a,b,rfl,by rw[h.1];unfold RL;trivial,by rw[h.2];unfold RL;trivial⟩
 ·exact Lr v
end
def TR(C:aO)(N:Nat)(w:World)(n:Tr I)(J:Array Value):Prop:=∀i v,n.get i=some v->R C N w v (J.getD i undef)
def Gk(L:RF)(C:aO)(N:Nat)(w:World):Prop:=
 L.aY<N/\(∀c o,C.loc L.aY=some (c,o)->c=(C.stm L.aY).toNat)/\∃r,C.lr L.aY=some r/\TR C N w L.tm r.tmps/\r.tmps.size=L.nt/\r.params=L.ps/\r.assign=L.assign/\r.body=L.body
def Iw(C:aO)(N:Nat)(w:World)(E:aZ):Prop:=(∀g a,E.gl g=some a->R C N w (.pv a) (.pointer (some ⟨g,0,none⟩)))/\
 (∀c P,E.hold c=some P->¬C.own c/\∃a T b,w.heap[c]? =some (.cells a T b)/\P a)/\∀L∈E.loops,Gk L C N w
section
variable {E:aZ}{C C':aO}{N N':Nat}{w w':World}{tm:Tr I}{a:Act}
theorem TR.ext{J}(h:TR C N w tm J)(e:bC C N w C' N' w'):TR C' N' w' tm J:=λi v a=>R.ext e _ _ (h i v a)
theorem Gk.ext{L}(h:Gk L C N w)(e:bC C N w C' N' w'):Gk L C' N' w':=by
 obtain⟨a,b,r,d,f,g,i⟩:=h
 exact⟨cC a e.next,λc o j=>by rw[e.stm _ a];exact b c o (e.loc _ a _ j),r,(e.lr _ a).trans d,f.ext e,g,i⟩
theorem Iw.ext(h:Iw C N w E)(e:bC C N w C' N' w'):Iw C' N' w' E:=by
 refine⟨λg a H=>R.ext e _ _ (h.1 g a H),λc P i=>?_,λL f=>(h.2.2 L f).ext e⟩
 obtain⟨b,a,T,j,d,k⟩:=h.2.1 c P i;obtain⟨l,m⟩:=e.keep c (iK.1 d).1 b
 grind
theorem Be(H:Iw C N w E)(m:TR C N w tm a.tmps)(x):R C N w (opd E tm x) (a.eval x):=by
 cases x with
 |tmp t=>
  simp only[opd,Act.eval]
  split
  ·rename_i v d;exact m t v d
  ·unfold R;trivial
 |const v=>exact Aoj v
 |global g=>
  simp only[opd,Act.eval]
  split
  ·rename_i b c;exact H.1 g b c
  ·unfold R;trivial
 |func f=>
  simp only[opd,Act.eval];unfold R
  exact⟨#[],#[],rfl,by unfold RL;trivial,by unfold RL;trivial⟩
theorem Dm(H:Iw C N w E)(m:TR C N w tm a.tmps):∀(l:List Operand),RL C N w (opds E tm l) (l.map a.eval)
 |[]=>by simp only[opds,yS];unfold RL;trivial
 |x::r=>by simp only[opds,fG];unfold RL;exact⟨Be H m x,Dm H m r⟩
end
theorem Jg(a b):Tz a b=(a==b):=by
 cases a<;>cases b<;>simp only[Tz]
 ·rename_i m n
  by_cases h:m=n
  ·subst h;simp
  ·have:Nat.beq m n=false:=by rw[iB];intro c;exact h (bK c)
   grind
 ·rfl
 ·rfl
 ·rename_i m n
  by_cases h:m=n
  ·subst h;simp
  ·have:Nat.beq m n=false:=by rw[iB];intro c;exact h (bK c)
   grind
theorem Ec(a b):T1 a b=decide (a<=b):=by
 cases a<;>cases b<;>simp only[T1]
 ·rename_i m n
  rw[zY,sR,decide_eq_true_iff];simp
 ·grind
 ·grind
 ·rename_i m n
  rw[zY,sR,decide_eq_true_iff];omega
theorem N4(a b):Ed a b=true↔a=b:=by cases a<;>cases b<;>simp[Ed]
theorem Pz(k n)(h:M0 k n=true):k.wrap n=n:=by
 cases n with
 |ofNat m=>
  have e:Int.ofNat m=(m:Int):=rfl;rw[e];cases k
  ·have a:m<=127:=dB h;exact IntWalk.i8_in _ ⟨by omega,by omega⟩
  ·have a:m<=32767:=dB h;exact IntWalk.i16_in _ ⟨by omega,by omega⟩
  ·have a:m<=2147483647:=dB h;exact IntWalk.i32_in _ ⟨by omega,by omega⟩
  ·have a:m<=9223372036854775807:=dB h;exact IntWalk.i64_in _ ⟨by omega,by omega⟩
  ·have a:m<=255:=dB h;exact IntWalk.u8_in _ ⟨by omega,by omega⟩
  ·have a:m<=65535:=dB h;exact IntWalk.u16_in _ ⟨by omega,by omega⟩
  ·have a:m<=4294967295:=dB h;exact IntWalk.u32_in _ ⟨by omega,by omega⟩
  ·have a:m<=18446744073709551615:=dB h;exact IntWalk.u64_in _ ⟨by omega,by omega⟩
 |negSucc m=>
  have e:Int.negSucc m= -((m:Int)+1):=by omega
  cases k
  ·have a:m<=127:=dB h;rw[e];exact IntWalk.i8_in _ ⟨by omega,by omega⟩
  ·have a:m<=32767:=dB h;rw[e];exact IntWalk.i16_in _ ⟨by omega,by omega⟩
  ·have a:m<=2147483647:=dB h;rw[e];exact IntWalk.i32_in _ ⟨by omega,by omega⟩
  ·have a:m<=9223372036854775807:=dB h;rw[e];exact IntWalk.i64_in _ ⟨by omega,by omega⟩
  all_goals (cases h)
theorem Nh(k n):Me k n=.int k (k.wrap n):=by
 have a:∀m:Int,cond (M0 k m) (I.int k m) (.int k (k.wrap m))=.int k (k.wrap m):=λm=>by
  cases h:M0 k m
  ·rfl
  ·simp[Pz k m h]
 cases n<;>simp only[Me,Ak]<;>exact a _
theorem QA(a b):IV a b=a+b:=by cases a<;>cases b<;>rfl
theorem Wh(a b):za a b=a-b:=by
 cases a with
 |ofNat m=>cases b with
  |ofNat n=>
   simp only[za];cases h:Nat.ble n m
   ·rfl
   ·simp only[cond_true];have:n<=m:=by simpa using h
    grind
  |negSucc n=>rfl
 |negSucc m=>cases b<;>rfl
theorem Xo{a b}(h:B2 a=B2 b):a=b:=by
 unfold B2 at h
 have c:a.data.toList=b.data.toList:=by
  have e:∀(l m:List UInt8),l.map UInt8.toNat=m.map UInt8.toNat->l=m:=by
   intro l
   induction l with
   |nil=>intro m h;cases m with
    |nil=>rfl
    |cons=>simp at h
   |cons x r d=>intro m h;cases m with
    |nil=>simp at h
    |cons y s=>simp only[fG,pw]at h;rw[UInt8.toNat_inj.1 h.1,d s h.2]
  grind
 cases a;cases b;simp at c;grind
theorem Gu:∀(a b:List Nat),Fm a b=true↔a=b
 |[],[]=>by simp[Fm]
 |[],_::_=>by simp[Fm]
 |_::_,[]=>by simp[Fm]
 |x::r,y::s=>by
  simp only[Fm]
  by_cases h:x=y
  ·subst h;simp[Gu r s]
  ·have:Nat.beq x y=false:=by rw[iB];intro c;exact h (bK c)
   grind
theorem Lt(a b):Fm (B2 a) (B2 b)=(a.toList==b.toList):=by
 rw[zY,Gu];simp only[Go.ByteArray.toList_eq,beq_iff_eq]
 constructor
 ·intro h;rw[Xo h]
 ·intro h;unfold B2;rw[h]
theorem Aaj:∀(a b:List UInt8),C8 (a.map UInt8.toNat) (b.map UInt8.toNat)=Op.bytesLess a b
 |_,[]=>by cases ‹List UInt8›<;>simp[C8,Op.bytesLess]
 |[],_::_=>by simp[C8,Op.bytesLess]
 |x::r,y::s=>by
  simp only[fG,C8,Op.bytesLess,Aaj r s]
  by_cases h:x<y
  ·have:Nat.blt x.toNat y.toNat=true:=by simp[Nat.blt];exact UInt8.lt_iff_toNat_lt.1 h
   grind
  ·have e:Nat.blt x.toNat y.toNat=false:=by
    rw[iB];intro c
    have:x.toNat<y.toNat:=by simp[Nat.blt]at c;exact c
    exact h (UInt8.lt_iff_toNat_lt.2 this)
   by_cases d:x=y
   ·subst d;simp[e,h]
   ·have:Nat.beq x.toNat y.toNat=false:=by rw[iB];intro c;exact d (UInt8.toNat_inj.1 (bK c))
    grind
theorem UV(a b):B2 (a++b)=B2 a++B2 b:=by
 unfold B2;simp
theorem Fg(a):(B2 a).length=a.size:=by unfold B2;simp
section
variable {P:Program}{C:aO}{N:Nat}{w:World}
theorem LZ(a b:Int):(!decide (b<=a))=decide (a<b):=Z
theorem ZI{c k a b v}(h:Ic c k a b=some v)(t):∃x,(binOp c t (.int k a) (.int k b)).run P w=.ok x w/\R C N w v x:=by
 cases c<;>simp only[Ic]at h
 case add=>cases h;exact⟨_,by simp only[binOp];simp[Op.intArith];rfl,by rw[Nh,QA];unfold R;rfl⟩
 case sub=>cases h;exact⟨_,by simp only[binOp];simp[Op.intArith];rfl,by rw[Nh,Wh];unfold R;rfl⟩
 case mul=>cases h;exact⟨_,by simp only[binOp];simp[Op.intArith];rfl,by rw[Nh];unfold R;rfl⟩
 case eql=>cases h;exact⟨_,by simp only[binOp];simp[Op.intCmp];rfl,by unfold R;rw[Jg]⟩
 case neq=>cases h;exact⟨_,by simp only[binOp];simp[Op.intCmp];rfl,by unfold R;rw[Jg];rfl⟩
 case lss=>cases h;exact⟨_,by simp only[binOp];simp[Op.intCmp];rfl,by unfold R;rw[Ec,LZ]⟩
 case leq=>cases h;exact⟨_,by simp only[binOp];simp[Op.intCmp];rfl,by unfold R;rw[Ec]⟩
 case gtr=>cases h;exact⟨_,by simp only[binOp];simp[Op.intCmp];rfl,by unfold R;rw[Ec,LZ]⟩
 case geq=>cases h;exact⟨_,by simp only[binOp];simp[Op.intCmp];rfl,by unfold R;rw[Ec]⟩
 case quo=>
  split at h
  ·rename_i a b
   cases h
   refine⟨_,by simp only[binOp];simp[Op.intDiv];rfl,?_⟩
   rw[Nh];unfold R;rfl
  ·cases h
 case rem=>
  split at h
  ·rename_i a b
   rw[Ak]at h;cases h
   exact⟨_,by simp only[binOp];simp[Op.intDiv];rfl,by unfold R;rfl⟩
  ·cases h
 all_goals (cases h)
end
section
variable {P:Program}{C:aO}{N:Nat}{w:World}
theorem Ub{t:TypeId}{v}(e:Ay P t=some v){U}(b:Lh v=some U):∃c,(zeroValue t).run P w=.ok c w/\R C N w U c:=by
 obtain⟨i,d,h,q,r,s,_,j,k⟩:=Ap e;unfold Lh at b
 split at b
 ·rename_i l g
  rw[j]at g;obtain⟨c,m,n,o,p,u⟩:=Fq (C:=C) (w:=w) (N:=N) g
  refine⟨c,by unfold zeroValue;simp[Cq h,m],?_⟩
  rw[k]at b;cases f:Mx d
  ·grind
  ·simp only[f]at b;cases b;obtain⟨a,rfl⟩:=p f;unfold R;exact⟨a,rfl,n,o⟩
 grind
end
end Go.AM

