/- A part of the proof; shortened by program. -/
import Derived.Wp
import Derived.Laws.Sem
import Derived.Laws.Strings
import Derived.IntWalk
import Derived.Test.YtmkaboegdoadhaaGreatDoorP00
set_option maxRecDepth 100000
set_option maxHeartbeats 4000000
set_option linter.unusedSimpArgs false
set_option linter.unusedVariables false
namespace Go.AM
open Go
section
structure Ctx where
 loc:Nat->Option (Nat×Nat)
 stm:Nat->Int
 res:Nat->Prop
 lr:Nat->Option Loop
def Ctx.own(C:Ctx)(c:Nat):Prop:=C.res c∨∃a o,C.loc a=some (c,o)
def csize(w:World)(c:Nat):Nat:=match w.heap[c]? with|some (.cells cs _ _)=>cs.size|_=>0
mutual
def R (C:Ctx) (N:Nat) (w:World):AV->Value->Prop
 |.any,_=>True
 |.bool b,v=>v=.bool b
 |.int k n,v=>v=.int k n
 |.str l,v=>∃s,v=.string s/\B2 s=l
 |.nil x,v=>v=x/\Xl x=true
 |.pr a off,v=>∃ad,v=.pointer (some ad)/\a<N/\∀c o,C.loc a=some (c,o)->ad=⟨c,o+off,none⟩
 |.pv cs,v=>∃c o,v=.pointer (some ⟨c,o,none⟩)/\(cs≠[]->¬C.own c)/\RC C N w c cs o
 |.sr a off sz len cap,v=>∃ad k,v=.slice (some ad) len k/\a<N/\len<=k/\(∀q,cap=some q->k=q)/\
   ∀c o,C.loc a=some (c,o)->(0<k->ad=⟨c,o+off,none⟩)/\o+off+k*sz<=csize w c
 |.sv cs sz len cap,v=>∃ado k,v=.slice ado len k/\len<=k/\(∀q,cap=some q->k=q)/\cs.length=len*sz/\(ado=none->k=0)/\
   ∀ad,ado=some ad->(0<k->ad.spot=none)/\(cs≠[]->¬C.own ad.block)/\RC C N w ad.block cs ad.off
 |.mp r,v=>∃c,v=.map (some c)/\r<N/\∀c' o,C.loc r=some (c',o)->c=c'
 |.it r,v=>∃c,v=.pointer (some ⟨c,0,none⟩)/\r<N/\∀c' o,C.loc r=some (c',o)->c=c'
 |.stp a,v=>v=.int .i64 (C.stm a)/\a<N
 |.flt k n,v=>v=.float k n
 |.yl a,v=>v=.func (.yield (C.stm a).toNat) #[] #[]/\a<N
 |.fn f p q,v=>∃a b,v=.func f a b/\RL C N w p a.toList/\RL C N w q b.toList
 |.ifc t x,v=>∃y,v=.iface t y/\R C N w x y
 |.agg cs,v=>∃a,v=.agg a/\RL C N w cs a.toList/\∀x∈a.toList,x.oneCell=true
 |.tup vs,v=>∃a,v=.tuple a/\RL C N w vs a.toList
def RC (C:Ctx) (N:Nat) (w:World) (c:Nat):List AV->Nat->Prop
 |[],_=>True
 |x::r,o=>(∃v,w.cell? ⟨c,o,none⟩=some v/\v.oneCell=true/\R C N w x v)/\RC C N w c r (o+1)
def RL (C:Ctx) (N:Nat) (w:World):List AV->List Value->Prop
 |[],[]=>True
 |x::r,v::s=>R C N w x v/\RL C N w r s
 |_,_=>False
end
structure Ext (C:Ctx)(N:Nat)(w:World)(C':Ctx)(N':Nat)(w':World):Prop where
 next:N<=N'
 size:w.heap.size<=w'.heap.size
 keep:∀b,b<w.heap.size->¬C.own b->¬C'.own b/\w'.heap[b]? =w.heap[b]?
 loc:∀a,a<N->∀p,C'.loc a=some p->C.loc a=some p
 stm:∀a,a<N->C'.stm a=C.stm a
 lr:∀a,a<N->C'.lr a=C.lr a
 bsz:∀a,a<N->∀c o,C'.loc a=some (c,o)->csize w' c=csize w c
 res:C'.res=C.res/\∀b,C.res b->w'.heap[b]? =w.heap[b]?
 os:w'.os=w.os/\w'.output=w.output
theorem Ext.refl(C N w):Ext C N w C N w:=
 ⟨nl,nl,fun _ _ h=>⟨h,rfl⟩,fun _ _ _ h=>h,fun _ _=>rfl,fun _ _=>rfl,fun _ _ _ _ _=>rfl,⟨rfl,fun _ _=>rfl⟩,rfl,rfl⟩
abbrev cf_:=@Ext.refl
theorem Ext.trans{C C₁ C₂:Ctx}{N N₁ N₂:Nat}{w w₁ w₂:World}(h:Ext C N w C₁ N₁ w₁)(k:Ext C₁ N₁ w₁ C₂ N₂ w₂):Ext C N w C₂ N₂ w₂ where
 next:=ai_ h.next k.next
 size:=ai_ h.size k.size
 keep b hb ho:=by
  obtain⟨h1,h2⟩:=h.keep b hb ho;obtain⟨k1,k2⟩:=k.keep b (ak_ hb h.size) h1
  grind
 loc a ha p hp:=h.loc a ha p (k.loc a (ak_ ha h.next) p hp)
 stm a ha:=(k.stm a (ak_ ha h.next)).trans (h.stm a ha)
 lr a ha:=(k.lr a (ak_ ha h.next)).trans (h.lr a ha)
 bsz a ha c o hc:=by
  have ha':=ak_ ha h.next;exact(k.bsz a ha' c o hc).trans (h.bsz a ha c o (k.loc a ha' _ hc))
 res:=⟨k.res.1.trans h.res.1,fun b hb=>(k.res.2 b (by rw[h.res.1];exact hb)).trans (h.res.2 b hb)⟩
 os:=⟨k.os.1.trans h.os.1,k.os.2.trans h.os.2⟩
theorem Al6{w:World}{a v}(h:w.cell? a=some v):a.block<w.heap.size:=by
 unfold World.cell? at h
 grind
theorem Ua{w w':World}{b}(h:w'.heap[b]? =w.heap[b]?)(o s):w'.cell? ⟨b,o,s⟩=w.cell? ⟨b,o,s⟩:=by
 unfold World.cell?;grind
section
variable {C C':Ctx}{N N':Nat}{w w':World}
mutual
theorem R.ext (e:Ext C N w C' N' w'):∀(x:AV) (v:Value),R C N w x v->R C' N' w' x v
 |.any,_,_=>by unfold R;trivial
 |.bool b,v,h=>by unfold R at *;exact h
 |.int k n,v,h=>by unfold R at *;exact h
 |.str l,v,h=>by unfold R at *;exact h
 |.nil x,v,h=>by unfold R at *;exact h
 |.pr a off,v,h=>by
  unfold R at *;obtain⟨ad,h1,h2,h3⟩:=h;exact⟨ad,h1,ak_ h2 e.next,fun c o hc=>h3 c o (e.loc a h2 _ hc)⟩
 |.pv cs,v,h=>by
  unfold R at *;obtain⟨c,o,h1,h2,h3⟩:=h;exact⟨c,o,h1,RC.extOwn e c cs o h2 h3,RC.ext e c cs o h2 h3⟩
 |.sr a off sz len cap,v,h=>by
  unfold R at *;obtain⟨ad,k,h1,h2,h3,h4,h5⟩:=h;refine⟨ad,k,h1,ak_ h2 e.next,h3,h4,fun c o hc=>?_⟩
  obtain⟨h6,h7⟩:=h5 c o (e.loc a h2 _ hc)
  exact⟨h6,by rw[e.bsz a h2 c o hc];exact h7⟩
 |.sv cs sz len cap,v,h=>by
  unfold R at *;obtain⟨ado,k,h1,h2,h3,h4,h5,h6⟩:=h;refine⟨ado,k,h1,h2,h3,h4,h5,fun ad ha=>?_⟩
  obtain⟨h7,h8,h9⟩:=h6 ad ha;exact⟨h7,RC.extOwn e ad.block cs ad.off h8 h9,RC.ext e ad.block cs ad.off h8 h9⟩
 |.mp r,v,h=>by
  unfold R at *;obtain⟨c,h1,h2,h3⟩:=h;exact⟨c,h1,ak_ h2 e.next,fun c' o hc=>h3 c' o (e.loc r h2 _ hc)⟩
 |.it r,v,h=>by
  unfold R at *;obtain⟨c,h1,h2,h3⟩:=h;exact⟨c,h1,ak_ h2 e.next,fun c' o hc=>h3 c' o (e.loc r h2 _ hc)⟩
 |.stp a,v,h=>by
  unfold R at *
  exact⟨by rw[e.stm a h.2];grind,ak_ h.2 e.next⟩
 |.flt k n,v,h=>by unfold R at *;exact h
 |.yl a,v,h=>by
  unfold R at *
  exact⟨by rw[e.stm a h.2];grind,ak_ h.2 e.next⟩
 |.fn f p q,v,h=>by
  unfold R at *;obtain⟨a,b,h1,h2,h3⟩:=h;exact⟨a,b,h1,RL.ext e p _ h2,RL.ext e q _ h3⟩
 |.ifc t x,v,h=>by
  unfold R at *;obtain⟨y,h1,h2⟩:=h;exact⟨y,h1,R.ext e x y h2⟩
 |.agg cs,v,h=>by
  unfold R at *;obtain⟨a,h1,h2,h3⟩:=h;exact⟨a,h1,RL.ext e cs _ h2,h3⟩
 |.tup vs,v,h=>by
  unfold R at *;obtain⟨a,h1,h2⟩:=h;exact⟨a,h1,RL.ext e vs _ h2⟩
theorem RC.extOwn (e:Ext C N w C' N' w') (c:Nat):∀(cs:List AV) (o:Nat),(cs≠[]->¬C.own c)->RC C N w c cs o->(cs≠[]->¬C'.own c)
 |[],_,_,_=>fun h=>absurd rfl h
 |x::r,o,ho,h=>fun _=>by
  unfold RC at h;obtain⟨⟨v,h1,_⟩,_⟩:=h
  exact(e.keep c (Al6 h1) (ho (by simp))).1
theorem RC.ext (e:Ext C N w C' N' w') (c:Nat):∀(cs:List AV) (o:Nat),(cs≠[]->¬C.own c)->RC C N w c cs o->RC C' N' w' c cs o
 |[],_,_,_=>by unfold RC;trivial
 |x::r,o,ho,h=>by
  unfold RC at *;obtain⟨⟨v,h1,h2,h3⟩,h4⟩:=h
  exact⟨⟨v,(Ua (e.keep c (Al6 h1) (ho (by simp))).2 o none).trans h1,h2,R.ext e x v h3⟩,RC.ext e c r (o+1) (fun _=>ho (by simp)) h4⟩
theorem RL.ext (e:Ext C N w C' N' w'):∀(l:List AV) (vs:List Value),RL C N w l vs->RL C' N' w' l vs
 |[],[],_=>by unfold RL;trivial
 |x::r,v::s,h=>by
  unfold RL at *;exact⟨R.ext e x v h.1,RL.ext e r s h.2⟩
 |[],_::_,h=>by unfold RL at h;grind
 |_::_,[],h=>by unfold RL at h;grind
end
theorem RL.length:∀{l:List AV} {vs:List Value},RL C N w l vs->l.length=vs.length
 |[],[],_=>rfl
 |x::r,v::s,h=>by unfold RL at h;simp[RL.length h.2]
 |[],_::_,h=>by unfold RL at h;grind
 |_::_,[],h=>by unfold RL at h;grind
theorem RL.get:∀{l:List AV} {vs:List Value} (_:RL C N w l vs) (i:Nat) (x:AV),l[i]? =some x->∃v,vs[i]? =some v/\R C N w x v
 |x::r,v::s,h,0,y,hy=>by unfold RL at h;grind
 |x::r,v::s,h,i+1,y,hy=>by unfold RL at h;exact RL.get h.2 i y gr
 |[],[],_,i,y,hy=>gr
 |[],_::_,h,_,_,_=>gr
 |_::_,[],h,_,_,_=>by unfold RL at h;grind
theorem RL.append:∀{l:List AV} {vs:List Value} {l':List AV} {vs':List Value},RL C N w l vs->RL C N w l' vs'->RL C N w (l++l') (vs++vs')
 |[],[],_,_,_,k=>k
 |x::r,v::s,_,_,h,k=>by unfold RL at h;show RL C N w (x::(r++_)) (v::(s++_));unfold RL;exact⟨h.1,RL.append h.2 k⟩
 |[],_::_,_,_,h,_=>by unfold RL at h;grind
 |_::_,[],_,_,h,_=>by unfold RL at h;grind
theorem RL.drop:∀{l:List AV} {vs:List Value} (n:Nat),RL C N w l vs->RL C N w (l.drop n) (vs.drop n)
 |[],[],n,h=>by simp[RL]
 |x::r,v::s,0,h=>h
 |x::r,v::s,n+1,h=>by unfold RL at h;simpa using RL.drop n h.2
 |[],_::_,_,h=>by unfold RL at h;grind
 |_::_,[],_,h=>by unfold RL at h;grind
theorem RC.get:∀{cs:List AV} {c o:Nat} (_:RC C N w c cs o) (i:Nat) (x:AV),cs[i]? =some x->∃v,w.cell? ⟨c,o+i,none⟩=some v/\v.oneCell=true/\R C N w x v
 |x::r,c,o,h,0,y,hy=>by unfold RC at h;grind
 |x::r,c,o,h,i+1,y,hy=>by
  unfold RC at h;have:=RC.get h.2 i y gr
  grind
 |[],_,_,_,i,y,hy=>gr
theorem RC.drop:∀{cs:List AV} {c o:Nat} (n:Nat),RC C N w c cs o->RC C N w c (cs.drop n) (o+n)
 |cs,c,o,0,h=>h
 |[],_,_,n+1,_=>by simp[RC]
 |x::r,c,o,n+1,h=>by
  unfold RC at h;have:=RC.drop n h.2
  grind
theorem RC.take:∀{cs:List AV} {c o:Nat} (n:Nat) {l:List AV},Dr n cs=some l->RC C N w c cs o->RC C N w c l o
 |cs,c,o,0,l,ht,h=>by simp[Dr]at ht;subst ht;unfold RC;trivial
 |x::r,c,o,n+1,l,ht,h=>by
  unfold RC at h;simp only[Dr]at ht;cases hr:Dr n r with
  |none=>simp[hr]at ht
  |some l'=>
   simp[hr]at ht
   subst ht;unfold RC;exact⟨h.1,RC.take n hr h.2⟩
 |[],_,_,n+1,l,ht,h=>by simp[Dr]at ht
end
theorem Hu:∀{n:Nat} {l l':List AV},Dr n l=some l'->l'=l.take n/\l'.length=n
 |0,l,l',h=>by simp[Dr]at h;grind
 |n+1,[],l',h=>by simp[Dr]at h
 |n+1,x::r,l',h=>by
  simp only[Dr]at h;cases hr:Dr n r with
  |none=>simp[hr]at h
  |some l''=>
   simp[hr]at h
   subst h;obtain⟨h1,h2⟩:=Hu hr
   exact⟨by simp[h1],by simp[h2]⟩
theorem Tr.get_mkL{α}(v)(l r:Tr α)(k):(Tr.mkL v l r).get k=(Tr.n v l r).get k:=by cases l<;>rfl
abbrev ge_:=@Tr.get_mkL
theorem Tr.get_mkR{α}(v)(l r:Tr α)(k):(Tr.mkR v l r).get k=(Tr.n v l r).get k:=by cases r<;>rfl
abbrev gf_:=@Tr.get_mkR
theorem Aqn{n:Nat}(h:¬n=0):Nat.beq n 0=false:=by cases n with|zero=>exact absurd rfl h|succ n=>rfl
theorem Tr.get_succ{α}(v)(l r:Tr α)(k):(Tr.n v l r).get (k+1)=if k%2=0 then l.get (k / 2)else r.get (k / 2):=by
 simp only[Tr.get]
 by_cases h:k%2=0
 ·simp[h]
 ·have:Nat.beq (k%2) 0=false:=Aqn h
  grind
abbrev cz_:=@Tr.get_succ
theorem Tr.get_put_ne{α}:∀(f:Nat) (t:Tr α) (k:Nat) (x:Option α) (j:Nat),j≠k->(t.put f k x).get j=t.get j
 |0,t,k,x,j,h=>rfl
 |f+1,.e,0,x,j,h=>by
  cases j with
  |zero=>exact absurd rfl h
  |succ j=>simp[Tr.put,cz_,Tr.get]
 |f+1,.n v l r,0,x,j,h=>by
  cases j with
  |zero=>exact absurd rfl h
  |succ j=>simp[Tr.put,cz_]
 |f+1,.e,k+1,x,j,h=>by
  simp only[Tr.put]
  by_cases hk:k%2=0
  ·have hb:Nat.beq (k%2) 0=true:=by simp[hk]
   simp only[hb,cond_true,ge_];cases j with
   |zero=>simp[Tr.get]
   |succ j=>
    rw[cz_]
    by_cases hj:j%2=0
    ·rw[if_pos hj,Tr.get_put_ne f _ _ _ _ Om];simp[Tr.get]
    ·rw[if_neg hj];simp[Tr.get]
  ·have hb:Nat.beq (k%2) 0=false:=Aqn hk;simp only[hb,cond_false,gf_];cases j with
   |zero=>simp[Tr.get]
   |succ j=>
    rw[cz_]
    by_cases hj:j%2=0
    ·rw[if_pos hj];simp[Tr.get]
    ·rw[if_neg hj,Tr.get_put_ne f _ _ _ _ Om];simp[Tr.get]
 |f+1,.n v l r,k+1,x,j,h=>by
  simp only[Tr.put]
  by_cases hk:k%2=0
  ·have hb:Nat.beq (k%2) 0=true:=by simp[hk]
   simp only[hb,cond_true,ge_];cases j with
   |zero=>simp[Tr.get]
   |succ j=>
    rw[cz_,cz_]
    by_cases hj:j%2=0
    ·rw[if_pos hj,if_pos hj,Tr.get_put_ne f _ _ _ _ Om]
    ·grind
  ·have hb:Nat.beq (k%2) 0=false:=Aqn hk;simp only[hb,cond_false,gf_];cases j with
   |zero=>simp[Tr.get]
   |succ j=>
    rw[cz_,cz_]
    by_cases hj:j%2=0
    ·grind
    ·rw[if_neg hj,if_neg hj,Tr.get_put_ne f _ _ _ _ Om]
abbrev eg_:=@Tr.get_put_ne
theorem Tr.get_put_eq{α}:∀(f:Nat) (t:Tr α) (k:Nat) (x:Option α),k<f->(t.put f k x).get k=x
 |0,t,k,x,h=>absurd h Om
 |f+1,.e,0,x,_=>rfl
 |f+1,.n v l r,0,x,_=>rfl
 |f+1,.e,k+1,x,h=>by
  simp only[Tr.put]
  by_cases hk:k%2=0
  ·have hb:Nat.beq (k%2) 0=true:=by simp[hk]
   simp only[hb,cond_true,ge_];rw[cz_,if_pos hk,Tr.get_put_eq f .e (k / 2) x Om]
  ·have hb:Nat.beq (k%2) 0=false:=Aqn hk;simp only[hb,cond_false,gf_];rw[cz_,if_neg hk,Tr.get_put_eq f .e (k / 2) x Om]
 |f+1,.n v l r,k+1,x,h=>by
  simp only[Tr.put]
  by_cases hk:k%2=0
  ·have hb:Nat.beq (k%2) 0=true:=by simp[hk]
   simp only[hb,cond_true,ge_];rw[cz_,if_pos hk,Tr.get_put_eq f l (k / 2) x Om]
  ·have hb:Nat.beq (k%2) 0=false:=Aqn hk;simp only[hb,cond_false,gf_];rw[cz_,if_neg hk,Tr.get_put_eq f r (k / 2) x Om]
abbrev eh_:=@Tr.get_put_eq
theorem Tr.get_put{α}(t:Tr α)(k x j):(t.put (k+1) k x).get j=if j=k then x else t.get j:=by
 by_cases h:j=k
 ·subst h;rw[if_pos rfl,eh_ _ _ _ _ Om]
 ·rw[if_neg h,eg_ _ _ _ _ _ h]
abbrev dd_:=@Tr.get_put
theorem Ef{α β}(t)(k:Tr α->β):Ty t k=k t:=by cases t<;>rfl
theorem Sto.get_set(σ:Sto)(a o b):(σ.set a o).get b=if b=a then some o else σ.get b:=by
 cases σ;simp only[Sto.set,Ef,Sto.get,dd_]
abbrev aa_:=@Sto.get_set
theorem Sto.get_kill(σ:Sto)(a b):(σ.kill a).get b=if b=a then none else σ.get b:=by
 cases σ;simp only[Sto.kill,Ef,Sto.get,dd_]
abbrev bf_:=@Sto.get_kill
theorem Sto.get_new(σ o b):(σ.new o).get b=if b=nx σ then some o else σ.get b:=by
 cases σ;simp only[Sto.new,Ef,Ak,Sto.get,nx,dd_];rfl
abbrev ag_:=@Sto.get_new
theorem Aq(σ a o):nx (σ.set a o)=nx σ:=by cases σ;simp only[Sto.set,Ef,nx]
theorem B3(σ a):nx (σ.kill a)=nx σ:=by cases σ;simp only[Sto.kill,Ef,nx]
theorem Ao(σ o):nx (σ.new o)=nx σ+1:=by cases σ;simp only[Sto.new,Ef,Ak,nx]
mutual
def KV:Key->Value->Prop
 |.bool b,v=>v=.bool b
 |.int k n,v=>v=.int k n
 |.str l,v=>∃s,v=.string s/\B2 s=l
 |.agg cs,v=>∃a,v=.agg a/\KVs cs a.toList
def KVs:List Key->List Value->Prop
 |[],[]=>True
 |x::r,v::s=>KV x v/\KVs r s
 |_,_=>False
end
def KS(d:TypeDesc)(v:Value):Prop:=
 match d with
 |.int k=>∃n,v=.int k n
 |.string=>∃s,v=.string s
 |.bool=>∃b,v=.bool b
 |_=>False
def KFs(P:Program):List Field->List Value->Prop
 |[],[]=>True
 |f::fs, v::vs=>(∃i d, P.info? f.type=some i/\P.underlying f.type=some d/\i.size=1/\Mx d=false/\KS d v/\f.name≠ "_")/\KFs P fs vs
 |_,_=>False
def KA(P:Program)(kt:Nat)(v:Value):Prop:=
 ∃n e a d inf,P.underlying kt=some (.array n e)/\v=.agg a/\P.info? e=some inf/\inf.size=1/\P.underlying e=some d/\Mx d=false/\a.size=n/\n≠0/\∀x∈a.toList,KS d x
def KT(P:Program)(kt:Nat)(v:Value):Prop:=
 (∃d,P.underlying kt=some d/\KS d v)∨
 (∃fs a,P.underlying kt=some (.struct fs)/\v=.agg a/\KFs P fs.toList a.toList/\Jz fs.toList 0=true/\P.stoodInHeld kt=false)∨KA P kt v
def ER(C:Ctx)(N:Nat)(w:World):List (Key×AV)->List MapEntry->Prop
 |[],[]=>True
 |x::r,e::s=>(KV x.1 e.key/\R C N w x.2 e.val)/\ER C N w r s
 |_,_=>False
structure D8 (P:Program)(C:Ctx)(N:Nat)(w:World)(kt:Nat)(es:List (Key×AV))(E:Array MapEntry)(clock:Nat):Prop where
 typed:∀e∈E.toList,KT P kt e.key
 perm:∃L,List.Perm L E.toList/\ER C N w es L
 keys:(E.toList.map (·.key)).Nodup
 born:∀e∈E.toList,e.born<clock
 apart:(E.toList.map (·.born)).Nodup
def codeX:XE->Code
 |.normal=>.skip
 |.exit id=>.exit id
 |.ret=>.ret
def C9(r:Loop):LS->Loop
 |.ready=>{ r with state:=.ready,pending:=none }
 |.busy=>{ r with state:=.busy,pending:=none }
 |.done x=>{ r with state:=.done,pending:=some (codeX x) }
def OR(P:Program)(C:Ctx)(w:World)(σ:Sto)(a:Nat):AO->Prop
 |.cells vs=>∃c o cs T,C.loc a=some (c,o)/\w.heap[c]? =some (.cells cs T (0,0))/\RC C (nx σ) w c vs o
 |.map kt es _=>∃c E clock,C.loc a=some (c,0)/\w.heap[c]? =some (.map E clock)/\D8 P C (nx σ) w kt es E clock
 |.iter none _ left _=>∃c since seen last,C.loc a=some (c,0)/\w.heap[c]? =some (.mapIter none since seen last)/\left=[]
 |.iter (some m) ver left cur=>m<nx σ/\∃c cm since seen last,C.loc a=some (c,0)/\w.heap[c]? =some (.mapIter (some cm) since seen last)/\
   ∀kt es ver',σ.get m=some (.map kt es ver')->ver<=ver'/\(ver=ver'->∃E,C.loc m=some (cm,0)/\w.heap[cm]? =some (.map E since)/\last=since/\
    (∃L,List.Perm L (E.toList.filter fun e=> !seen.contains e.born)/\ER C (nx σ) w left L)/\
    ∀k v,cur=some (k,v)->∃e∈E.toList,seen.back? =some e.born/\KV k e.key/\R C (nx σ) w v e.val)
 |.stamp m ver k=>m<nx σ/\∀kt es ver',σ.get m=some (.map kt es ver')->ver<=ver'/\(ver=ver'->∃cm E clock,C.loc m=some (cm,0)/\w.heap[cm]? =some (.map E clock)/\
    ∃e∈E.toList,KV k e.key/\C.stm a=e.born)
 |.loop st=>∃c r,C.loc a=some (c,0)/\C.lr a=some r/\w.heap[c]? =some (.loop (C9 r st))
def Zu:AO->Bool
 |.stamp .. =>true
 |_=>false
structure Sim (P:Program)(C:Ctx)(w:World)(σ:Sto):Prop where
 obj:∀a O,σ.get a=some O->OR P C w σ a O
 bound:∀a O,σ.get a=some O->a<nx σ
 dom:∀a p,C.loc a=some p->∃O,σ.get a=some O/\Zu O=false
 inj:∀a b c o o',C.loc a=some (c,o)->C.loc b=some (c,o')->a=b
 lt:∀a c o,C.loc a=some (c,o)->c<w.heap.size
 rlt:∀b,C.res b->b<w.heap.size
 rdis:∀a c o,C.loc a=some (c,o)->¬C.res c
section
variable {C C':Ctx}{N N':Nat}{w w':World}
theorem ER.ext(e:Ext C N w C' N' w'):∀{l:List (Key×AV)} {L:List MapEntry},ER C N w l L->ER C' N' w' l L
 |[],[],_=>by unfold ER;trivial
 |x::r,f::s,h=>by unfold ER at *;exact⟨⟨h.1.1,R.ext e _ _ h.1.2⟩,ER.ext e h.2⟩
 |[],_::_,h=>by unfold ER at h;grind
 |_::_,[],h=>by unfold ER at h;grind
theorem D8.ext{P}(e:Ext C N w C' N' w'){kt es E clock}(h:D8 P C N w kt es E clock):D8 P C' N' w' kt es E clock:=
 ⟨h.typed,let⟨L,h1,h2⟩:=h.perm;⟨L,h1,h2.ext e⟩,h.keys,h.born,h.apart⟩
theorem RC.extHeap(e:Ext C N w C' N' w')(c)(hh:w'.heap[c]? =w.heap[c]?):∀(cs:List AV) (o:Nat),RC C N w c cs o->RC C' N' w' c cs o
 |[],_,_=>by unfold RC;trivial
 |x::r,o,h=>by
  unfold RC at *;obtain⟨⟨v,h1,h2,h3⟩,h4⟩:=h;exact⟨⟨v,(Ua hh o none).trans h1,h2,R.ext e x v h3⟩,RC.extHeap e c hh r (o+1) h4⟩
abbrev gg_:=@RC.extHeap
end
theorem OR.ext{P C C' w w' σ σ' a O}(h:OR P C w σ a O)(e:Ext C (nx σ) w C' (nx σ') w')(ha:a<nx σ)
  (hl:C'.loc a=C.loc a)(hh:∀c o,C.loc a=some (c,o)->w'.heap[c]? =w.heap[c]?)
  (hm:∀m,m<nx σ->∀kt es' v',σ'.get m=some (.map kt es' v')->∃kt' es v,σ.get m=some (.map kt' es v)/\v<=v'/\(v=v'->C'.loc m=C.loc m/\∀c o,C.loc m=some (c,o)->w'.heap[c]? =w.heap[c]?)):
  OR P C' w' σ' a O:=by
 cases O with
 |cells vs=>
  obtain⟨c,o,cs,T,h1,h2,h3⟩:=h;exact⟨c,o,cs,T,hl.trans h1,(hh c o h1).trans h2,gg_ e c (hh c o h1) vs o h3⟩
 |map kt es ver=>
  obtain⟨c,E,clock,h1,h2,h3⟩:=h;exact⟨c,E,clock,hl.trans h1,(hh c 0 h1).trans h2,h3.ext e⟩
 |iter m ver left cur=>
  cases m with
  |none=>
   obtain⟨c,since,seen,last,h1,h2,h3⟩:=h;exact⟨c,since,seen,last,hl.trans h1,(hh c 0 h1).trans h2,h3⟩
  |some m=>
   obtain⟨h0,c,cm,since,seen,last,h1,h2,h3⟩:=h;refine⟨ak_ h0 e.next,c,cm,since,seen,last,hl.trans h1,(hh c 0 h1).trans h2,fun kt es' v' hg=>?_⟩
   obtain⟨kt',es,v,g1,g2,g3⟩:=hm m h0 kt es' v' hg;obtain⟨k1,k2⟩:=h3 kt' es v g1;refine⟨ai_ k1 g2,fun hv=>?_⟩
   have hv1:ver=v:=by omega
   obtain⟨g4,g5⟩:=g3 Om;obtain⟨E,q1,q2,q3,⟨L,q4,q5⟩,q6⟩:=k2 hv1;exact⟨E,g4.trans q1,(g5 cm 0 q1).trans q2,q3,⟨L,q4,q5.ext e⟩,fun k x hk=>let⟨f,f1,f2,f3,f4⟩:=q6 k x hk;⟨f,f1,f2,f3,R.ext e _ _ f4⟩⟩
 |stamp m ver k=>
  obtain⟨h0,h3⟩:=h;refine⟨ak_ h0 e.next,fun kt es' v' hg=>?_⟩
  obtain⟨kt',es,v,g1,g2,g3⟩:=hm m h0 kt es' v' hg;obtain⟨k1,k2⟩:=h3 kt' es v g1;refine⟨ai_ k1 g2,fun hv=>?_⟩
  have hv1:ver=v:=by omega
  obtain⟨g4,g5⟩:=g3 Om;obtain⟨cm,E,clock,q1,q2,f,f1,f2,f3⟩:=k2 hv1
  exact⟨cm,E,clock,g4.trans q1,(g5 cm 0 q1).trans q2,f,f1,f2,by rw[e.stm a ha];exact f3⟩
 |loop st=>
  obtain⟨c,r,h1,h2,h3⟩:=h;exact⟨c,r,hl.trans h1,(e.lr a ha).trans h2,(hh c 0 h1).trans h3⟩
attribute [grind=] Sto.get_set Sto.get_new Sto.get_kill Aq Ao B3
end
structure Wr (w w':World)(c:Nat)(O:Obj):Prop where
 size:w'.heap.size=w.heap.size
 here:w'.heap[c]? =some O
 other:∀b,b≠c->w'.heap[b]? =w.heap[b]?
 os:w'.os=w.os/\w'.output=w.output
structure Pu (w w':World)(O:Obj):Prop where
 size:w'.heap.size=w.heap.size+1
 here:w'.heap[w.heap.size]? =some O
 other:∀b,b<w.heap.size->w'.heap[b]? =w.heap[b]?
 os:w'.os=w.os/\w'.output=w.output
theorem Pu.of_push{w w' O}(h:w'.heap=w.heap.push O)(os:w'.os=w.os/\w'.output=w.output):Pu w w' O:=
 ⟨gr,gr,gr,os⟩
abbrev fa_:=@Pu.of_push
def Ctx.add(C:Ctx)(a c o:Nat):Ctx:={ C with loc:=fun b=>if b=a then some (c,o)else C.loc b }
def Ctx.del(C:Ctx)(a:Nat):Ctx:={ C with loc:=fun b=>if b=a then none else C.loc b }
def Ctx.addStm(C:Ctx)(a:Nat)(n:Int):Ctx:={ C with stm:=fun b=>if b=a then n else C.stm b }
section
variable {P:Program}{C:Ctx}{w w':World}{σ:Sto}
theorem Sim.own_lt(h:Sim P C w σ){c}(hc:C.own c):c<w.heap.size:=hc.elim (h.rlt c) fun⟨a,o,ho⟩=>h.lt a c o ho
theorem Sim.same(h:Sim P C w σ)(hs:w.heap.size<=w'.heap.size)(hh:∀b,b<w.heap.size->w'.heap[b]? =w.heap[b]?)(os:w'.os=w.os/\w'.output=w.output):
  Sim P C w' σ/\Ext C (nx σ) w C (nx σ) w':=by
 have e:Ext C (nx σ) w C (nx σ) w':=⟨nl,hs,fun b hb ho=>⟨ho,hh b hb⟩,fun _ _ _ h=>h,fun _ _=>rfl,fun _ _=>rfl,
  fun a _ c o hc=>by unfold csize;rw[hh c (h.lt a c o hc)],⟨rfl,fun b hb=>hh b (h.rlt b hb)⟩,os⟩
 refine⟨⟨fun a O hg=>?_,h.bound,h.dom,h.inj,fun a c o hl=>ak_ (h.lt a c o hl) hs,fun b hb=>ak_ (h.rlt b hb) hs,h.rdis⟩,e⟩
 exact(h.obj a O hg).ext e (h.bound a O hg) rfl (fun c o hc=>hh c (h.lt a c o hc)) fun m _ kt es' v' hg'=>⟨kt,es',v',hg',nl,fun _=>⟨rfl,fun c o hc=>hh c (h.lt m c o hc)⟩⟩
theorem Sim.push(h:Sim P C w σ){O}(p:Pu w w' O):Sim P C w' σ/\Ext C (nx σ) w C (nx σ) w':=
 h.same (by have:=p.size;omega) p.other p.os
theorem Sim.new(h:Sim P C w σ){B}(p:Pu w w' B)(O)(hO:Zu O=false)
  (hrel:Ext C (nx σ) w (C.add (nx σ) w.heap.size 0) (nx σ+1) w'->OR P (C.add (nx σ) w.heap.size 0) w' (σ.new O) (nx σ) O):
  Sim P (C.add (nx σ) w.heap.size 0) w' (σ.new O)/\Ext C (nx σ) w (C.add (nx σ) w.heap.size 0) (nx σ+1) w':=by
 have hne:∀{a},a<nx σ->¬a=nx σ:=gr
 have bk:∀a,a<nx σ->(C.add (nx σ) w.heap.size 0).loc a=C.loc a:=fun a ha=>by simp[Ctx.add,hne ha]
 have e:Ext C (nx σ) w (C.add (nx σ) w.heap.size 0) (nx σ+1) w':=⟨by omega,by have:=p.size;omega,
  fun b hb ho=>⟨fun hh=>hh.elim (fun hr=>ho (.inl hr)) fun⟨a,o,hao⟩=>by
   by_cases ha:a=nx σ
   ·subst ha;simp[Ctx.add]at hao;omega
   ·simp[Ctx.add,ha]at hao;exact ho (.inr ⟨a,o,hao⟩),p.other b hb⟩,
  gr,fun _ _=>rfl,fun _ _=>rfl,
  fun a ha c o hc=>by rw[bk a ha]at hc;unfold csize;rw[p.other c (h.lt a c o hc)],⟨rfl,fun b hb=>p.other b (h.rlt b hb)⟩,p.os⟩
 refine⟨⟨fun a X hg=>?_,fun a X hg=>?_,fun a q hq=>?_,fun a b c o o' ha hb=>?_,fun a c o hl=>?_,fun b hb=>by have:=h.rlt b hb;have:=p.size;omega,fun a c o hl hr=>?_⟩,e⟩
 ·rw[ag_]at hg
  by_cases ha:a=nx σ
  ·grind
  ·rw[if_neg ha]at hg;have hlt:=h.bound a X hg;refine(h.obj a X hg).ext gr hlt (bk a hlt) (fun c o hc=>p.other c (h.lt a c o hc)) fun m hm kt es' v' hg'=>?_
   rw[ag_,if_neg (hne hm)]at hg';exact⟨kt,es',v',hg',nl,fun _=>⟨bk m hm,fun c o hc=>p.other c (h.lt m c o hc)⟩⟩
 ·rw[Ao];rw[ag_]at hg
  by_cases ha:a=nx σ
  ·omega
  ·rw[if_neg ha]at hg;have:=h.bound a X hg;omega
 ·rw[ag_]
  by_cases ha:a=nx σ
  ·grind
  ·simp[Ctx.add,ha]at hq;rw[if_neg ha];exact h.dom a q hq
 ·by_cases ha':a=nx σ
  ·by_cases hb':b=nx σ
   ·omega
   ·simp[Ctx.add,ha']at ha;simp[Ctx.add,hb']at hb;have:=h.lt b c o' hb;omega
  ·by_cases hb':b=nx σ
   ·simp[Ctx.add,ha']at ha;simp[Ctx.add,hb']at hb;have:=h.lt a c o ha;omega
   ·simp[Ctx.add,ha']at ha;simp[Ctx.add,hb']at hb;exact h.inj a b c o o' ha hb
 ·by_cases ha:a=nx σ
  ·simp[Ctx.add,ha]at hl;have:=p.size;omega
  ·simp[Ctx.add,ha]at hl;have:=h.lt a c o hl;have:=p.size;omega
 ·by_cases ha:a=nx σ
  ·simp[Ctx.add,ha]at hl;have:=h.rlt c hr;omega
  ·simp[Ctx.add,ha]at hl;exact h.rdis a c o hl hr
theorem Sim.upd(h:Sim P C w σ){a c o B}(hl:C.loc a=some (c,o))(p:Wr w w' c B)(hsz:csize w' c=csize w c){O₀}(h₀:σ.get a=some O₀)
  (O)(hO:Zu O=false)(hver:∀kt es v,O=.map kt es v->∃kt₀ es₀ v₀,O₀=.map kt₀ es₀ v₀/\v₀<v)
  (hrel:Ext C (nx σ) w C (nx σ) w'->OR P C w' (σ.set a O) a O):
  Sim P C w' (σ.set a O)/\Ext C (nx σ) w C (nx σ) w':=by
 have dq:∀b c' o',b≠a->C.loc b=some (c',o')->w'.heap[c']? =w.heap[c']? :=fun b c' o' hb hc=>p.other c' (fun hcc=>hb (h.inj b a c' o' o hc (hcc▸hl)))
 have e:Ext C (nx σ) w C (nx σ) w':=⟨nl,by rw[p.size];grind,
  fun b _ ho=>⟨ho,p.other b (fun hb=>ho (.inr (hb▸⟨a,o,hl⟩)))⟩,fun _ _ _ h=>h,fun _ _=>rfl,fun _ _=>rfl,
  fun b _ c' o' hc=>by
   by_cases hb:b=a
   ·grind
   ·unfold csize;grind,⟨rfl,fun b hb=>p.other b (fun hbc=>h.rdis a c o hl (hbc▸hb))⟩,p.os⟩
 refine⟨⟨fun b X hg=>?_,fun b X hg=>?_,fun b q hq=>?_,h.inj,fun b c' o' hc=>by rw[p.size];exact h.lt b c' o' hc,fun b hb=>by rw[p.size];exact h.rlt b hb,h.rdis⟩,e⟩
 ·rw[aa_]at hg
  by_cases hb:b=a
  ·grind
  ·rw[if_neg hb]at hg;refine(h.obj b X hg).ext gr (h.bound b X hg) rfl (fun c' o' hc=>dq b c' o' hb hc) fun m _ kt es' v' hg'=>?_
   grind
 ·rw[Aq];rw[aa_]at hg
  by_cases hb:b=a
  ·subst hb;exact h.bound b O₀ h₀
  ·rw[if_neg hb]at hg;exact h.bound b X hg
 ·rw[aa_]
  by_cases hb:b=a
  ·grind
  ·rw[if_neg hb];exact h.dom b q hq
theorem Sim.kill(h:Sim P C w σ)(a):Sim P (C.del a) w (σ.kill a)/\Ext C (nx σ) w (C.del a) (nx σ) w:=by
 have bk:∀b p,(C.del a).loc b=some p->b≠a/\C.loc b=some p:=fun b p hp=>by
  by_cases hb:b=a
  ·simp[Ctx.del,hb]at hp
  ·simp[Ctx.del,hb]at hp;grind
 have e:Ext C (nx σ) w (C.del a) (nx σ) w:=⟨nl,nl,fun b _ ho=>⟨fun hh=>hh.elim (fun hr=>ho (.inl hr)) fun⟨x,o,hx⟩=>ho (.inr ⟨x,o,(bk x _ hx).2⟩),rfl⟩,
  fun b _ p hp=>(bk b p hp).2,fun _ _=>rfl,fun _ _=>rfl,fun _ _ _ _ _=>rfl,⟨rfl,fun _ _=>rfl⟩,rfl,rfl⟩
 refine⟨⟨fun b X hg=>?_,fun b X hg=>?_,fun b q hq=>?_,fun x y c o o' hx hy=>h.inj x y c o o' (bk x _ hx).2 (bk y _ hy).2,fun x c o hx=>h.lt x c o (bk x _ hx).2,h.rlt,fun x c o hx=>h.rdis x c o (bk x _ hx).2⟩,e⟩
 ·rw[bf_]at hg
  by_cases hb:b=a
  ·grind
  ·rw[if_neg hb]at hg
   refine(h.obj b X hg).ext gr (h.bound b X hg) (by simp[Ctx.del,hb]) (fun _ _ _=>rfl) fun m _ kt es' v' hg'=>?_
   rw[bf_]at hg'
   by_cases hm:m=a
   ·grind
   ·rw[if_neg hm]at hg';exact⟨kt,es',v',hg',nl,fun _=>⟨by simp[Ctx.del,hm],fun _ _ _=>rfl⟩⟩
 ·rw[B3];rw[bf_]at hg
  by_cases hb:b=a
  ·grind
  ·rw[if_neg hb]at hg;exact h.bound b X hg
 ·obtain⟨hb,hq'⟩:=bk b q hq;rw[bf_,if_neg hb];exact h.dom b q hq'
theorem Sim.replace(h:Sim P C w σ){a c o o' B}(hl:C.loc a=some (c,o))(p:Wr w w' c B){O₀}(h₀:σ.get a=some O₀)
  (O)(hO:Zu O=false)
  (hrel:Ext C (nx σ) w ((C.del a).add (nx σ) c o') (nx σ+1) w'->OR P ((C.del a).add (nx σ) c o') w' ((σ.kill a).new O) (nx σ) O):
  Sim P ((C.del a).add (nx σ) c o') w' ((σ.kill a).new O)/\Ext C (nx σ) w ((C.del a).add (nx σ) c o') (nx σ+1) w':=by
 have han:a<nx σ:=h.bound a O₀ h₀;have dq:∀b c' o',b≠a->C.loc b=some (c',o')->w'.heap[c']? =w.heap[c']? :=fun b c' o' hb hc=>p.other c' (fun hcc=>hb (h.inj b a c' o' o hc (hcc▸hl)))
 have bk:∀b q,((C.del a).add (nx σ) c o').loc b=some q->(b=nx σ/\q=(c,o'))∨(b≠nx σ/\b≠a/\C.loc b=some q):=fun b q hq=>by
  by_cases hb:b=nx σ
  ·simp[Ctx.add,hb]at hq;grind
  ·by_cases hb':b=a
   ·simp[Ctx.add,Ctx.del,hb,hb']at hq;omega
   ·simp[Ctx.add,Ctx.del,hb,hb']at hq;grind
 have jd:∀b,b<nx σ->b≠a->((C.del a).add (nx σ) c o').loc b=C.loc b:=fun b hb hb'=>by simp[Ctx.add,Ctx.del,hb',show ¬b=nx σ by omega]
 have cr:∀b X,((σ.kill a).new O).get b=some X->(b=nx σ/\X=O)∨(b≠nx σ/\b≠a/\σ.get b=some X):=gr
 have e:Ext C (nx σ) w ((C.del a).add (nx σ) c o') (nx σ+1) w':=⟨by omega,by rw[p.size];grind,
  fun b _ ho=>⟨fun hh=>hh.elim (fun hr=>ho (.inl hr)) fun⟨x,y,hxy⟩=>by
   rcases bk x _ hxy with⟨_,hq⟩|⟨_,_,hq⟩
   ·cases hq;exact ho (.inr ⟨a,o,hl⟩)
   ·exact ho (.inr ⟨x,y,hq⟩),p.other b (fun hb=>ho (.inr (hb▸⟨a,o,hl⟩)))⟩,
  gr,fun _ _=>rfl,fun _ _=>rfl,
  fun b hb c' y hc=>by
   rcases bk b _ hc with⟨h1,_⟩|⟨_,h2,h3⟩
   ·omega
   ·unfold csize;grind,⟨rfl,fun b hb=>p.other b (fun hbc=>h.rdis a c o hl (hbc▸hb))⟩,p.os⟩
 have hnx:nx ((σ.kill a).new O)=nx σ+1:=gr
 refine⟨⟨fun b X hg=>?_,fun b X hg=>?_,fun b q hq=>?_,fun x y c' y1 y2 hx hy=>?_,fun x c' y hx=>?_,fun b hb=>by rw[p.size];exact h.rlt b hb,fun x c' y hx=>?_⟩,e⟩
 ·rcases cr b X hg with⟨h1,h2⟩|⟨h1,h2,h3⟩
  ·grind
  ·have hlt:=h.bound b X h3;refine(h.obj b X h3).ext gr hlt (jd b hlt h2) (fun c' y hc=>dq b c' y h2 hc) fun m hm kt es' v' hg'=>?_
   grind
 ·rw[hnx]
  rcases cr b X hg with⟨h1,_⟩|⟨_,_,h3⟩
  ·omega
  ·have:=h.bound b X h3;omega
 ·rcases bk b q hq with⟨h1,_⟩|⟨h1,h2,h3⟩
  ·grind
  ·obtain⟨X,k1,k2⟩:=h.dom b q h3
   grind
 ·rcases bk x _ hx with⟨h1,h2⟩|⟨h1,h2,h3⟩<;>rcases bk y _ hy with⟨k1,k2⟩|⟨k1,k2,k3⟩
  ·omega
  ·cases h2;exact absurd (h.inj y a _ _ _ k3 hl) k2
  ·cases k2;exact absurd (h.inj x a _ _ _ h3 hl) h2
  ·exact h.inj x y c' y1 y2 h3 k3
 ·rw[p.size]
  rcases bk x _ hx with⟨_,h2⟩|⟨_,_,h3⟩
  ·cases h2;exact h.lt a c o hl
  ·exact h.lt x c' y h3
 ·rcases bk x _ hx with⟨_,h2⟩|⟨_,_,h3⟩
  ·cases h2;exact h.rdis a c o hl
  ·exact h.rdis x c' y h3
theorem Sim.newStamp(h:Sim P C w σ)(n:Int)(m ver k)(hm:m<nx σ)(hrel:∀kt es ver',σ.get m=some (.map kt es ver')->ver<=ver'/\(ver=ver'->∃cm E clock,C.loc m=some (cm,0)/\w.heap[cm]? =some (.map E clock)/\
        ∃e∈E.toList,KV k e.key/\n=e.born)):
    Sim P (C.addStm (nx σ) n) w (σ.new (.stamp m ver k))/\Ext C (nx σ) w (C.addStm (nx σ) n) (nx σ+1) w:=by
  have hne:∀{a},a<nx σ->¬a=nx σ:=gr
  have e:Ext C (nx σ) w (C.addStm (nx σ) n) (nx σ+1) w:=⟨by omega,nl,fun b _ ho=>⟨ho,rfl⟩,fun _ _ _ h=>h,
    fun a ha=>by simp[Ctx.addStm,hne ha],fun _ _=>rfl,fun _ _ _ _ _=>rfl,⟨rfl,fun _ _=>rfl⟩,rfl,rfl⟩
  refine⟨⟨fun a X hg=>?_,fun a X hg=>?_,fun a q hq=>?_,h.inj,h.lt,h.rlt,h.rdis⟩,e⟩
  · rw[ag_]at hg
    by_cases ha:a=nx σ
    · subst ha;simp at hg;subst hg
      refine⟨gr,fun kt es ver' hg'=>?_⟩
      rw[ag_,if_neg (hne hm)]at hg';obtain⟨h1,h2⟩:=hrel kt es ver' hg';refine⟨h1,fun hv=>?_⟩
      obtain⟨cm,E,clock,q1,q2,f,f1,f2,f3⟩:=h2 hv
      exact⟨cm,E,clock,q1,q2,f,f1,f2,by simp[Ctx.addStm,f3]⟩
    · rw[if_neg ha]at hg
      refine(h.obj a X hg).ext gr (h.bound a X hg) rfl (fun _ _ _=>rfl) fun x hx kt es' v' hg'=>?_
      rw[ag_,if_neg (hne hx)]at hg';exact⟨kt,es',v',hg',nl,fun _=>⟨rfl,fun _ _ _=>rfl⟩⟩
  · rw[Ao]
    rw[ag_]at hg
    by_cases ha:a=nx σ
    · omega
    · rw[if_neg ha]at hg;have:=h.bound a X hg;omega
  · obtain⟨X,h1,h2⟩:=h.dom a q hq
    have:=h.bound a X h1
    grind
end
theorem Hb(c o n):(⟨c,o,none⟩:Addr).add n=⟨c,o+n,none⟩:=by
 unfold Addr.add;grind
section
variable {P:Program}{C:Ctx}{N:Nat}{w:World}
theorem Mh:∀(cs:List AV) (c o i:Nat) (acc:Array Value),RC C N w c cs (o+i)->
  ∃l,(loadCellsFrom ⟨c,o,none⟩ i cs.length acc).run P w=.ok (acc++l.toArray) w/\RL C N w cs l/\∀x∈l,x.oneCell=true
 |[],c,o,i,acc,_=>⟨[],by simp[loadCellsFrom],by unfold RL;trivial,by simp⟩
 |x::r,c,o,i,acc,h=>by
  unfold RC at h;obtain⟨⟨v,h1,h2,h3⟩,h4⟩:=h;obtain⟨l,k1,k2,k3⟩:=Mh r c o (i+1) (acc.push v) h4
  refine⟨v::l,?_,by unfold RL;grind,gr⟩
  simp only[as_,loadCellsFrom,Sem.run_bind,run_load,Hb,h1,Result.andThen_ok,k1]
  simp
theorem Adj{cs c o}(h:RC C N w c cs o):
  ∃a,(loadCells ⟨c,o,none⟩ cs.length).run P w=.ok a w/\RL C N w cs a.toList/\∀x∈a.toList,x.oneCell=true:=by
 obtain⟨l,h1,h2,h3⟩:=Mh (P:=P) cs c o 0 #[] h
 exact⟨l.toArray,by simpa[loadCells]using h1,gr,gr⟩
def Wg:Array Value->Nat->List Value->Array Value
 |cs,_,[]=>cs
 |cs,k,v::r=>Wg (cs.setIfInBounds k v) (k+1) r
theorem Nf:∀(l:List Value) (cs:Array Value) (k:Nat),(Wg cs k l).size=cs.size
 |[],_,_=>rfl
 |v::r,cs,k=>by simp[Wg,Nf r]
theorem Pw:∀(l:List Value) (cs:Array Value) (k:Nat),k+l.length<=cs.size->∀j,(Wg cs k l)[j]? =if k<=j/\j<k+l.length then l[j-k]? else cs[j]?
 |[],cs,k,_,j=>by simp[Wg];omega
 |v::r,cs,k,h,j=>by
  simp only[as_]at h;rw[Wg,Pw r _ _ gr]
  grind
theorem Akr(v:Value):v.oneCell'=v.oneCell:=by cases v<;>rfl
theorem Lq:∀(l:List Value) (w:World) (c o i:Nat) (cs:Array Value) (T:TypeId),w.heap[c]? =some (.cells cs T (0,0))->
  (∀x∈l,x.oneCell=true)->o+i+l.length<=cs.size->∃w',(storeCells ⟨c,o,none⟩ l i).run P w=.ok () w'/\Wr w w' c (.cells (Wg cs (o+i) l) T (0,0))
 |[],w,c,o,i,cs,T,h,_,_=>⟨w,by simp[storeCells],⟨rfl,h,fun _ _=>rfl,rfl,rfl⟩⟩
 |v::r,w,c,o,i,cs,T,h,h1,h2=>by
  simp only[as_]at h2
  have dm:w.cell? ⟨c,o+i,none⟩=some cs[o+i]:=by
   unfold World.cell?;grind
  have hfr:w.frozen? ⟨c,o+i,none⟩=false:=by unfold World.frozen?;simp[h]
  have hw1:(w.setCell ⟨c,o+i,none⟩ v).heap[c]? =some (.cells (cs.setIfInBounds (o+i) v) T (0,0)):=by
   simp only[World.setCell,dq_,if_true];simp[h]
  obtain⟨w',k1,k2⟩:=Lq r (w.setCell ⟨c,o+i,none⟩ v) c o (i+1) (cs.setIfInBounds (o+i) v) T hw1 (fun x hx=>h1 x (by simp[hx])) gr
  refine⟨w',?_,?_⟩
  ·have hv:v.oneCell'=true:=by rw[Akr];grind
   simp only[storeCells,Sem.run_bind,Hb,run_store P w _ v _ hv,dm,hfr,bp_,if_false,Result.andThen_ok];exact k1
  ·refine⟨by rw[k2.size];simp[World.setCell],?_,fun b hb=>?_,k2.os⟩
   ·rw[k2.here,Wg,show o+i+1=o+(i+1) by omega]
   ·rw[k2.other b hb];simp only[World.setCell,dq_]
    grind
end
def Runs{α:Type}(P:Program)(C:Ctx)(w:World)(σ:Sto)(s:Sem α)(ok:α->Value->Prop)(v:AV)(σ':Sto):Prop:=
 ∃y x w' C',s.run P w=.ok y w'/\ok y x/\Sim P C' w' σ'/\Ext C (nx σ) w C' (nx σ') w'/\R C' (nx σ') w' v x
abbrev Iv(P:Program)(C:Ctx)(w:World)(σ:Sto)(s:Sem Value)(v:AV)(σ':Sto):Prop:=Runs P C w σ s (fun y x=>y=x) v σ'
section
variable {P:Program}{C:Ctx}{w:World}{σ σ':Sto}
theorem Ap{t:TypeId}{ti}(h:Ay P t=some ti):∃i d,P.info? t=some i/\P.underlying t=some d/\ti.desc=d/\ti.size=i.size/\ti.bytes=i.bytes/\ti.zero=Al3 (Mx d) i.zero/\ti.isAgg=Mx d:=by
 unfold Ay at h
 grind
theorem Aa{t d}(h:P.underlying t=some d)(w):(underlying t).run P w=.ok d w:=by
 unfold underlying;simp[h]
theorem Cq{t i}(h:P.info? t=some i)(w):(typeInfo t).run P w=.ok i w:=by
 unfold typeInfo;simp[h]
theorem A9{t i}(h:P.info? t=some i)(w):(sizeOf t).run P w=.ok i.size w:=by
 unfold sizeOf;simp[Cq h]
theorem Fp{t d}(h:P.underlying t=some d)(w):(isAgg t).run P w=.ok (Mx d) w:=by
 unfold isAgg;simp only[Sem.run_bind,Aa h,Result.andThen_ok];cases d<;>rfl
theorem Sj{v}(h:Af2 v=true):v.oneCell=true:=by
 cases v<;>first|rfl|(simp[Af2,Xl]at h)
theorem Adk{v}(h:Xl v=true):v.oneCell=true:=by
 cases v<;>first|rfl|(simp[Xl]at h)
theorem R.oneCell{N x v}(h:R C N w x v)(h1:x≠.any)(h2:∀l,x≠.agg l)(h3:∀l,x≠.tup l):v.oneCell=true:=by
 cases x<;>unfold R at h
 case any=>exact absurd rfl h1
 case bool=>subst h;rfl
 case int=>subst h;rfl
 case str=>obtain⟨s,rfl,_⟩:=h;rfl
 case nil=>obtain⟨rfl,h⟩:=h;exact Adk h
 case pr=>obtain⟨ad,rfl,_⟩:=h;rfl
 case pv=>obtain⟨c,o,rfl,_⟩:=h;rfl
 case sr=>obtain⟨ad,k,rfl,_⟩:=h;rfl
 case sv=>obtain⟨ad,k,rfl,_⟩:=h;rfl
 case mp=>obtain⟨c,rfl,_⟩:=h;rfl
 case it=>obtain⟨c,rfl,_⟩:=h;rfl
 case stp=>obtain⟨rfl,_⟩:=h;rfl
 case yl=>obtain⟨rfl,_⟩:=h;rfl
 case flt=>subst h;rfl
 case fn=>obtain⟨a,b,rfl,_⟩:=h;rfl
 case ifc=>obtain⟨y,rfl,_⟩:=h;rfl
 case agg l=>exact absurd rfl (h2 l)
 grind
theorem Ng{v:Value}(h:v.oneCell=true):v.cells=#[v]:=by
 cases v<;>first|rfl|(simp[Value.oneCell]at h)
theorem Hc{N x n l v}(h:x.cellsN n=some l)(hr:R C N w x v):
  RL C N w l v.cells.toList/\v.cells.size=n/\l.length=n/\∀y∈v.cells.toList,y.oneCell=true:=by
 have one:x≠.any->(∀l,x≠.agg l)->(∀l,x≠.tup l)->cond (Nat.beq n 1) (some [x]) none=some l->
   RL C N w l v.cells.toList/\v.cells.size=n/\l.length=n/\∀y∈v.cells.toList,y.oneCell=true:=by
  intro h1 h2 h3 h4;have hv:=hr.oneCell h1 h2 h3
  have hn:n=1:=by
   by_cases hn:n=1
   ·exact hn
   ·have:Nat.beq n 1=false:=by rw[bz_];intro hb;exact hn (ac_ hb)
    grind
  subst hn
  simp at h4
  subst h4;rw[Ng hv]
  refine⟨by simp only[RL];grind,rfl,rfl,gr⟩
 cases x<;>simp only[AV.cellsN]at h
 case any=>cases h
 case tup=>cases h
 case agg cs=>
  unfold R at hr;obtain⟨a,rfl,h1,h2⟩:=hr
  have hn:cs.length=n:=by
   by_cases hn:cs.length=n
   ·exact hn
   ·have:Nat.beq cs.length n=false:=by rw[bz_];intro hb;exact hn (ac_ hb)
    grind
  simp[hn]at h
  subst h;have:=h1.length
  exact⟨h1,by simp[Value.cells];grind,hn,h2⟩
 all_goals exact one gr gr gr h
theorem Aec{β}:∀(l:List Nat) (k:List Nat->β),Af1 l k=k l
 |[],k=>rfl
 |x::r,k=>by simp only[Af1,Ak,Aec r]
theorem Lr{N}(v):R C N w (Yh v) v:=by
 unfold Yh
 split
 ·unfold R;rfl
 ·unfold R;rfl
 ·rw[Ak];unfold R;rfl
 ·unfold R;rfl
 ·rw[Aec];unfold R;grind
 ·rw[Ak];unfold R;rfl
 ·cases h:Xl v
  ·simp only[cond_false];unfold R;trivial
  ·simp only[cond_true];unfold R;grind
theorem N3{N}:∀(l:List Value),RL C N w (Akm l) l
 |[]=>by unfold Akm RL;trivial
 |v::r=>by unfold Akm RL;exact⟨Lr v,N3 r⟩
theorem Py:∀{l:List Value},Q5 l=true->∀x∈l,x.oneCell=true
 |[],_,x,hx=>gr
 |v::r,h,x,hx=>by
  simp only[Q5,ad_]at h
  rcases an_.1 hx with rfl|hx
  ·exact Sj h.1
  ·exact Py h.2 x hx
theorem Fq{b z l}(h:Al3 b z=some l){N}:∃v,z=some v/\RL C N w l v.cells.toList/\(∀x∈v.cells.toList,x.oneCell=true)/\
  (b=true->∃a,v=.agg a)/\(b=false->∃u,l=[u]/\R C N w u v):=by
 unfold Al3 at h
 split at h
 ·rename_i v
  split at h
  ·rename_i cs
   split at h
   ·rename_i hp
    simp only[ad_]at hp;cases h;exact⟨.agg cs,rfl,N3 _,Py hp.2,fun _=>⟨cs,rfl⟩,gr⟩
   grind
  ·rename_i hna
   split at h
   ·rename_i hp
    simp only[ad_,bi_]at hp;cases h;have h1:=Sj hp.2;refine⟨v,rfl,?_⟩;rw[Ng h1]
    exact⟨(by unfold RL;exact⟨Lr v,by unfold RL;trivial⟩),gr,gr,fun _=>⟨_,rfl,Lr v⟩⟩
   grind
 grind
end
section
variable {C:Ctx}{N:Nat}{w:World}
theorem Aoj(v):R C N w (ofV v) v:=by
 unfold ofV
 split
 ·rename_i cs
  cases h:Q5 cs.toList
  ·simp only[cond_false];unfold R;trivial
  ·simp only[cond_true];unfold R;exact⟨cs,rfl,N3 _,Py h⟩
 ·unfold R;exact⟨_,rfl,N3 _⟩
 ·unfold R;exact⟨_,rfl,Lr _⟩
 ·rename_i f a b
  cases h:(a.isEmpty&&b.isEmpty)
  ·simp only[cond_false];unfold R;trivial
  ·simp only[cond_true]
   simp at h
   unfold R
   exact⟨a,b,rfl,by rw[h.1];unfold RL;trivial,by rw[h.2];unfold RL;trivial⟩
 ·exact Lr v
end
def TR(C:Ctx)(N:Nat)(w:World)(tm:Tr AV)(tmps:Array Value):Prop:=∀i v,tm.get i=some v->R C N w v (tmps.getD i undef)
def Gk(L:RF)(C:Ctx)(N:Nat)(w:World):Prop:=
 L.aY<N/\(∀c o,C.loc L.aY=some (c,o)->c=(C.stm L.aY).toNat)/\∃r,C.lr L.aY=some r/\TR C N w L.tm r.tmps/\r.tmps.size=L.nt/\r.params=L.ps/\r.assign=L.assign/\r.body=L.body
def Iw(C:Ctx)(N:Nat)(w:World)(E:Env):Prop:=(∀g cs,E.gl g=some cs->R C N w (.pv cs) (.pointer (some ⟨g,0,none⟩)))/\
 (∀c P,E.hold c=some P->¬C.own c/\∃cs T fz,w.heap[c]? =some (.cells cs T fz)/\P cs)/\∀L∈E.loops,Gk L C N w
section
variable {E:Env}{C C':Ctx}{N N':Nat}{w w':World}{tm:Tr AV}{a:Act}
theorem TR.ext{tmps}(h:TR C N w tm tmps)(e:Ext C N w C' N' w'):TR C' N' w' tm tmps:=fun i v hv=>R.ext e _ _ (h i v hv)
theorem Gk.ext{L}(h:Gk L C N w)(e:Ext C N w C' N' w'):Gk L C' N' w':=by
 obtain⟨h1,h2,r,h3,h4,h5,h6⟩:=h
 exact⟨ak_ h1 e.next,fun c o hc=>by rw[e.stm _ h1];exact h2 c o (e.loc _ h1 _ hc),r,(e.lr _ h1).trans h3,h4.ext e,h5,h6⟩
theorem Iw.ext(h:Iw C N w E)(e:Ext C N w C' N' w'):Iw C' N' w' E:=by
 refine⟨fun g cs hg=>R.ext e _ _ (h.1 g cs hg),fun c P hc=>?_,fun L hL=>(h.2.2 L hL).ext e⟩
 obtain⟨h1,cs,T,fz,h2,h3⟩:=h.2.1 c P hc;obtain⟨k1,k2⟩:=e.keep c (bc_.1 h2).1 h1
 grind
theorem Be(hg:Iw C N w E)(ht:TR C N w tm a.tmps)(x):R C N w (opd E tm x) (a.eval x):=by
 cases x with
 |tmp t=>
  simp only[opd,Act.eval]
  split
  ·rename_i v hv;exact ht t v hv
  ·unfold R;trivial
 |const v=>exact Aoj v
 |global g=>
  simp only[opd,Act.eval]
  split
  ·rename_i cs hc;exact hg.1 g cs hc
  ·unfold R;trivial
 |func f=>
  simp only[opd,Act.eval];unfold R
  exact⟨#[],#[],rfl,by unfold RL;trivial,by unfold RL;trivial⟩
theorem Dm(hg:Iw C N w E)(ht:TR C N w tm a.tmps):∀(l:List Operand),RL C N w (opds E tm l) (l.map a.eval)
 |[]=>by simp only[opds,gs_];unfold RL;trivial
 |x::r=>by simp only[opds,cn_];unfold RL;exact⟨Be hg ht x,Dm hg ht r⟩
end
theorem Jg(a b):Tz a b=(a==b):=by
 cases a<;>cases b<;>simp only[Tz]
 ·rename_i m n
  by_cases h:m=n
  ·subst h;simp
  ·have:Nat.beq m n=false:=by rw[bz_];intro hb;exact h (ac_ hb)
   grind
 ·rfl
 ·rfl
 ·rename_i m n
  by_cases h:m=n
  ·subst h;simp
  ·have:Nat.beq m n=false:=by rw[bz_];intro hb;exact h (ac_ hb)
   grind
theorem Ec(a b):T1 a b=decide (a<=b):=by
 cases a<;>cases b<;>simp only[T1]
 ·rename_i m n
  rw[fq_,hb_,decide_eq_true_iff];simp
 ·grind
 ·grind
 ·rename_i m n
  rw[fq_,hb_,decide_eq_true_iff];omega
theorem N4(a b):Ed a b=true↔a=b:=by cases a<;>cases b<;>simp[Ed]
theorem Pz(k n)(h:M0 k n=true):k.wrap n=n:=by
 cases n with
 |ofNat m=>
  have e:Int.ofNat m=(m:Int):=rfl;rw[e];cases k
  ·have h':m<=127:=al_ h;exact IntWalk.i8_in _ ⟨by omega,by omega⟩
  ·have h':m<=32767:=al_ h;exact IntWalk.i16_in _ ⟨by omega,by omega⟩
  ·have h':m<=2147483647:=al_ h;exact IntWalk.i32_in _ ⟨by omega,by omega⟩
  ·have h':m<=9223372036854775807:=al_ h;exact IntWalk.i64_in _ ⟨by omega,by omega⟩
  ·have h':m<=255:=al_ h;exact IntWalk.u8_in _ ⟨by omega,by omega⟩
  ·have h':m<=65535:=al_ h;exact IntWalk.u16_in _ ⟨by omega,by omega⟩
  ·have h':m<=4294967295:=al_ h;exact IntWalk.u32_in _ ⟨by omega,by omega⟩
  ·have h':m<=18446744073709551615:=al_ h;exact IntWalk.u64_in _ ⟨by omega,by omega⟩
 |negSucc m=>
  have e:Int.negSucc m= -((m:Int)+1):=by omega
  cases k
  ·have h':m<=127:=al_ h;rw[e];exact IntWalk.i8_in _ ⟨by omega,by omega⟩
  ·have h':m<=32767:=al_ h;rw[e];exact IntWalk.i16_in _ ⟨by omega,by omega⟩
  ·have h':m<=2147483647:=al_ h;rw[e];exact IntWalk.i32_in _ ⟨by omega,by omega⟩
  ·have h':m<=9223372036854775807:=al_ h;rw[e];exact IntWalk.i64_in _ ⟨by omega,by omega⟩
  all_goals (cases h)
theorem Nh(k n):Me k n=.int k (k.wrap n):=by
 have key:∀m:Int,cond (M0 k m) (AV.int k m) (.int k (k.wrap m))=.int k (k.wrap m):=fun m=>by
  cases h:M0 k m
  ·rfl
  ·simp[Pz k m h]
 cases n<;>simp only[Me,Ak]<;>exact key _
theorem Aok(a b):Ako a b=a+b:=by cases a<;>cases b<;>rfl
theorem Wh(a b):Af3 a b=a-b:=by
 cases a with
 |ofNat m=>cases b with
  |ofNat n=>
   simp only[Af3];cases h:Nat.ble n m
   ·rfl
   ·simp only[cond_true];have:n<=m:=by simpa using h
    grind
  |negSucc n=>rfl
 |negSucc m=>cases b<;>rfl
theorem Xo{a b}(h:B2 a=B2 b):a=b:=by
 unfold B2 at h
 have h1:a.data.toList=b.data.toList:=by
  have key:∀(l m:List UInt8),l.map UInt8.toNat=m.map UInt8.toNat->l=m:=by
   intro l
   induction l with
   |nil=>intro m h;cases m with
    |nil=>rfl
    |cons=>simp at h
   |cons x r ih=>intro m h;cases m with
    |nil=>simp at h
    |cons y s=>simp only[cn_,dl_]at h;rw[UInt8.toNat_inj.1 h.1,ih s h.2]
  grind
 cases a;cases b;simp at h1;grind
theorem Gu:∀(a b:List Nat),Fm a b=true↔a=b
 |[],[]=>by simp[Fm]
 |[],_::_=>by simp[Fm]
 |_::_,[]=>by simp[Fm]
 |x::r,y::s=>by
  simp only[Fm]
  by_cases h:x=y
  ·subst h;simp[Gu r s]
  ·have:Nat.beq x y=false:=by rw[bz_];intro hb;exact h (ac_ hb)
   grind
theorem Lt(a b):Fm (B2 a) (B2 b)=(a.toList==b.toList):=by
 rw[fq_,Gu];simp only[Go.ByteArray.toList_eq,beq_iff_eq]
 constructor
 ·intro h;rw[Xo h]
 ·intro h;unfold B2;rw[h]
theorem Aaj:∀(a b:List UInt8),C8 (a.map UInt8.toNat) (b.map UInt8.toNat)=Op.bytesLess a b
 |_,[]=>by cases ‹List UInt8›<;>simp[C8,Op.bytesLess]
 |[],_::_=>by simp[C8,Op.bytesLess]
 |x::r,y::s=>by
  simp only[cn_,C8,Op.bytesLess,Aaj r s]
  by_cases h:x<y
  ·have:Nat.blt x.toNat y.toNat=true:=by simp[Nat.blt];exact UInt8.lt_iff_toNat_lt.1 h
   grind
  ·have h1:Nat.blt x.toNat y.toNat=false:=by
    rw[bz_];intro hb
    have:x.toNat<y.toNat:=by simp[Nat.blt]at hb;exact hb
    exact h (UInt8.lt_iff_toNat_lt.2 this)
   by_cases h2:x=y
   ·subst h2;simp[h1,h]
   ·have:Nat.beq x.toNat y.toNat=false:=by rw[bz_];intro hb;exact h2 (UInt8.toNat_inj.1 (ac_ hb))
    grind
theorem Aak(a b):B2 (a++b)=B2 a++B2 b:=by
 unfold B2;simp
theorem Fg(a):(B2 a).length=a.size:=by unfold B2;simp
section
variable {P:Program}{C:Ctx}{N:Nat}{w:World}
theorem Al7(a b:Int):(!decide (b<=a))=decide (a<b):=gr
theorem Ahx{op k a b v}(h:Ic op k a b=some v)(t):∃x,(binOp op t (.int k a) (.int k b)).run P w=.ok x w/\R C N w v x:=by
 cases op<;>simp only[Ic]at h
 case add=>cases h;exact⟨_,by simp only[binOp];simp[Op.intArith];rfl,by rw[Nh,Aok];unfold R;rfl⟩
 case sub=>cases h;exact⟨_,by simp only[binOp];simp[Op.intArith];rfl,by rw[Nh,Wh];unfold R;rfl⟩
 case mul=>cases h;exact⟨_,by simp only[binOp];simp[Op.intArith];rfl,by rw[Nh];unfold R;rfl⟩
 case eql=>cases h;exact⟨_,by simp only[binOp];simp[Op.intCmp];rfl,by unfold R;rw[Jg]⟩
 case neq=>cases h;exact⟨_,by simp only[binOp];simp[Op.intCmp];rfl,by unfold R;rw[Jg];rfl⟩
 case lss=>cases h;exact⟨_,by simp only[binOp];simp[Op.intCmp];rfl,by unfold R;rw[Ec,Al7]⟩
 case leq=>cases h;exact⟨_,by simp only[binOp];simp[Op.intCmp];rfl,by unfold R;rw[Ec]⟩
 case gtr=>cases h;exact⟨_,by simp only[binOp];simp[Op.intCmp];rfl,by unfold R;rw[Ec,Al7]⟩
 case geq=>cases h;exact⟨_,by simp only[binOp];simp[Op.intCmp];rfl,by unfold R;rw[Ec]⟩
 case quo=>
  split at h
  ·rename_i a b
   cases h
   refine⟨_,by simp only[binOp];simp[Op.intDiv];rfl,?_⟩
   rw[Nh];unfold R;rfl
  ·cases h
 case rem=>
  split at h
  ·rename_i a b
   rw[Ak]at h;cases h
   exact⟨_,by simp only[binOp];simp[Op.intDiv];rfl,by unfold R;rfl⟩
  ·cases h
 all_goals (cases h)
end
section
variable {P:Program}{C:Ctx}{N:Nat}{w:World}
theorem Ub{t:TypeId}{ti}(hti:Ay P t=some ti){z}(hz:Lh ti=some z):∃Z,(zeroValue t).run P w=.ok Z w/\R C N w z Z:=by
 obtain⟨i,d,g1,g2,g3,g4,_,g6,g7⟩:=Ap hti;unfold Lh at hz
 split at hz
 ·rename_i l hl
  rw[g6]at hl;obtain⟨Z,q1,q2,q3,q4,q5⟩:=Fq (C:=C) (w:=w) (N:=N) hl
  refine⟨Z,by unfold zeroValue;simp[Cq g1,q1],?_⟩
  rw[g7]at hz;cases hb:Mx d
  ·grind
  ·simp only[hb]at hz;cases hz;obtain⟨a,rfl⟩:=q4 hb;unfold R;exact⟨a,rfl,q2,q3⟩
 grind
end
end Go.AM
