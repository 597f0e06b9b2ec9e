/- A part of the proof; shortened by program. -/
import Derived.Test.YtmkaboegdoadhaaGreatDoorP05
set_option maxRecDepth 100000
set_option maxHeartbeats 4000000
set_option linter.unusedSimpArgs false
set_option linter.unusedVariables false
namespace Go.AM
open Go
section
variable {E:Env}{ops:List Oper}{Rr:Rec}{nt:Nat}
def Aia(E:Env)(ops:List Oper)(Rr:Rec)(o:Oper)(tm:Tr AV)(σ:Sto)(v:AV)(σ':Sto):Prop:=
 (Bn ops o tm=some true/\opA E o.op Rr tm σ=some (v,σ'))∨(Bn ops o tm=some false/\v=An/\σ'=σ)
def cnt(E:Env):List Oper->Nat->Nat
 |[],_=>0
 |_::_,0=>0
 |o::r,k+1=>(if B5 (Bc E o.op)=true then 1 else 0)+cnt E r k
inductive Lex (E:Env)(ops:List Oper)(Rr:Rec)(nt:Nat):List Oper->Tr AV->Sto->List (Tr AV×AV)->List Sto->Tr AV->Sto->Prop
 |nil {tm σ}:Lex E ops Rr nt [] tm σ [] [] tm σ
 |eff {o r tm σ v σ₁ tm₁ log eps tm' σ'}:B5 (Bc E o.op)=true->Aia E ops Rr o tm σ v σ₁->Ka o.dst tm nt v=some tm₁->Lex E ops Rr nt r tm₁ σ₁ log eps tm' σ'->
   Lex E ops Rr nt (o::r) tm σ ((tm,v)::log) (σ₁::eps) tm' σ'
 |calm {o r tm σ v σ₁ tm₁ log eps tm' σ'}:B5 (Bc E o.op)=false->Aia E ops Rr o tm σ v σ₁->Ka o.dst tm nt v=some tm₁->Lex E ops Rr nt r tm₁ σ log eps tm' σ'->
   Lex E ops Rr nt (o::r) tm σ ((tm,v)::log) eps tm' σ'
theorem Lz:∀{r:List Oper} {d d':DS},T9 E ops Rr r d=some d'->∃log eps,Lex E ops Rr d.s.nt r d.s.tm d.s.sto log eps d'.s.tm d'.s.sto/\d'.log.reverse=d.log.reverse++log/\d'.eps.reverse=d.eps.reverse++eps/\d'.s.nt=d.s.nt/\d'.s.df=d.s.df
 |[],d,d',h=>by
  simp only[T9,af_]at h;subst h
  exact⟨[],[],.nil,by simp,by simp,rfl,rfl⟩
 |o::r,d,d',h=>by
  simp only[T9]at h
  split at h
  ·rename_i d₁ h₁
   obtain⟨log,eps,k1,k2,k3,k4,k5⟩:=Lz h;unfold Rc at h₁
   split at h₁
   ·rename_i hg
    split at h₁
    ·rename_i v σ hv
     split at h₁
     ·rename_i tm htm
      split at h₁
      ·rename_i he
       cases h₁
       exact⟨_,_,.eff he (.inl ⟨hg,hv⟩) htm k1,by rw[k2];simp,by rw[k3];simp,k4,k5⟩
      ·rename_i he
       cases h₁
       exact⟨_,_,.calm he (.inl ⟨hg,hv⟩) htm k1,by rw[k2];simp,k3,k4,k5⟩
     ·cases h₁
    ·cases h₁
   ·rename_i hg
    split at h₁
    ·rename_i tm htm
     split at h₁
     ·rename_i he
      cases h₁
      exact⟨_,_,.eff he (.inr ⟨hg,rfl,rfl⟩) htm k1,by rw[k2];simp,by rw[k3];simp,k4,k5⟩
     ·rename_i he
      cases h₁
      exact⟨_,_,.calm he (.inr ⟨hg,rfl,rfl⟩) htm k1,by rw[k2];simp,k3,k4,k5⟩
    ·cases h₁
   ·cases h₁
  ·cases h
theorem Wq{r tm tm' σ σ' log eps}(h:Lex E ops Rr nt r tm σ log eps tm' σ'):
  log.length=r.length/\eps.length=cnt E r r.length/\(log.map (·.1)++[tm'])[0]? =some tm/\(σ::eps)[eps.length]? =some σ'/\
  ∀(k:Nat) (o:Oper),r[k]? =some o->∃t v t₁ σk σ₁,log[k]? =some (t,v)/\(log.map (·.1)++[tm'])[k+1]? =some t₁/\(σ::eps)[cnt E r k]? =some σk/\Ka o.dst t nt v=some t₁/\Aia E ops Rr o t σk v σ₁/\
   (B5 (Bc E o.op)=true->(σ::eps)[cnt E r k+1]? =some σ₁):=by
 induction h with
 |nil=>exact⟨rfl,rfl,rfl,rfl,fun k o h=>by simp at h⟩
 |@eff o r tm σ v σ₁ tm₁ log eps tm' σ' he dv ck pj ih=>
  obtain⟨h1,h2,h3,h4,h5⟩:=ih
  refine⟨by simp[h1],by simp[cnt,he,h2];omega,rfl,by simpa using h4,fun k o' hk=>?_⟩
  cases k with
  |zero=>
   simp at hk;subst hk
   exact⟨tm,v,tm₁,σ,σ₁,rfl,by simpa using h3,rfl,ck,dv,fun _=>by simp[cnt]⟩
  |succ k=>
   obtain⟨t,u,t₁,σk,σ₂,a1,a2,a3,a4,a5,a6⟩:=h5 k o' (by simpa using hk)
   refine⟨t,u,t₁,σk,σ₂,by simpa using a1,by simpa using a2,?_,a4,a5,fun hh=>?_⟩
   ·simp only[cnt,he,if_true];rw[fz_,cq_];exact a3
   ·simp only[cnt,he,if_true];rw[show 1+cnt E r k+1=(cnt E r k+1)+1 by omega,cq_];exact a6 hh
 |@calm o r tm σ v σ₁ tm₁ log eps tm' σ' he dv ck pj ih=>
  obtain⟨h1,h2,h3,h4,h5⟩:=ih
  refine⟨by simp[h1],by simp[cnt,he,h2],rfl,h4,fun k o' hk=>?_⟩
  cases k with
  |zero=>
   simp at hk;subst hk
   exact⟨tm,v,tm₁,σ,σ₁,rfl,by simpa using h3,rfl,ck,dv,fun hh=>by rw[he]at hh;cases hh⟩
  |succ k=>
   obtain⟨t,u,t₁,σk,σ₂,a1,a2,a3,a4,a5,a6⟩:=h5 k o' (by simpa using hk)
   refine⟨t,u,t₁,σk,σ₂,by simpa using a1,by simpa using a2,?_,a4,a5,fun hh=>?_⟩
   ·simp only[cnt,he,bp_,if_false,bn_];exact a3
   ·simp only[cnt,he,bp_,if_false,bn_];exact a6 hh
end
section
variable (ops:Array Oper)(V:Nat->AV)(tm₀:Tr AV)
def B9(L:Nat->Bool):Nat->Nat->Option AV
 |0,t=>tm₀.get t
 |i+1,t=>if L i=true/\(ops[i]?).bind (·.dst)=some t then some (V i)else B9 L i t
variable {ops V tm₀}
theorem Hw{L L'}{t:Nat}:∀{k:Nat},(∀i,i<k->(ops[i]?).bind (·.dst)=some t->L i=L' i)->B9 ops V tm₀ L k t=B9 ops V tm₀ L' k t
 |0,_=>rfl
 |i+1,h=>by
  simp only[B9];rw[Hw fun j hj=>h j Om]
  grind
theorem He{L}{t k:Nat}:∀{m:Nat},k<=m->(∀i,k<=i->i<m->(ops[i]?).bind (·.dst)=some t->L i=false)->B9 ops V tm₀ L m t=B9 ops V tm₀ L k t
 |0,hk,_=>gr
 |m+1,hk,h=>by
  by_cases he:k=m+1
  ·rw[he]
  ·simp only[B9];rw[if_neg,He Om fun i h1 h2=>h i h1 Om]
   grind
theorem Ni{T:Nat->Tr AV}{nt n}(h0:T 0=tm₀)(hT:∀k,k<n->∃o,ops[k]? =some o/\Ka o.dst (T k) nt (V k)=some (T (k+1))):∀k,k<=n->∀t,(T k).get t=B9 ops V tm₀ (fun _=>true) k t
 |0,_,t=>by rw[h0];rfl
 |k+1,hk,t=>by
  obtain⟨o,ho,ck⟩:=hT k Om;have ih:=Ni h0 hT k Om t;simp only[B9,ho,gq_,true_and];cases hd:o.dst with
  |none=>
   rw[hd]at ck;simp only[Ka,af_]at ck
   rw[if_neg (by simp),←ck];exact ih
  |some d=>
   rw[hd]at ck;simp only[Ka,Ef]at ck;cases hb:Nat.blt d nt
   ·grind
   ·simp only[hb,cond_true,af_]at ck;rw[←ck,dd_]
    grind
def Agm(ops:Array Oper)(j t:Nat):Prop:=∀i,i≠j->(ops[i]?).bind (·.dst)=some t->
 (i<j->((Region.before ops).getD j 0).testBit i=true)/\(j<i->((Region.before ops).getD i 0).testBit j=true)
def Aa7(ops:Array Oper)(L:Nat->Bool):Prop:=∀j,L j=true->∀i,((Region.before ops).getD j 0).testBit i=true->L i=true
theorem Aib{L j t n}(hj:j<=n)(hc:Aa7 ops L)(hL:L j=false)(hr:∀i,((Region.before ops).getD j 0).testBit i=true->L i=true)(ho:Agm ops j t):
  B9 ops V tm₀ L n t=B9 ops V tm₀ (fun _=>true) j t:=by
 rw[He (k:=j) hj fun i h1 h2 hd=>?_]
 ·refine Hw fun i hi hd=>?_
  exact hr i ((ho i Om hd).1 hi)
 ·by_cases hij:i=j
  ·grind
  ·rw[bz_];intro hi;have:=hc i hi j ((ho i hij hd).2 Om)
   grind
theorem Aeo{L j t n}(hj:j<n)(hc:Aa7 ops L)(hL:L j=false)(ho:Agm ops j t)(hd:(ops[j]?).bind (·.dst)=some t):
  B9 ops V tm₀ (fun i=>L i||i==j) n t=some (V j):=by
 rw[He (k:=j+1) Om fun i h1 h2 hdi=>?_]
 ·simp only[B9,beq_self_eq_true,Bool.or_true,true_and];rw[if_pos hd]
 ·rw[bz_];intro hi;rw[bk_]at hi
  rcases hi with hi|hi
  ·have:=hc i hi j ((ho i Om hdi).2 Om)
   grind
  grind
theorem Aa8{L}{j t n:Nat}(hd:(ops[j]?).bind (·.dst)≠some t):
  B9 ops V tm₀ (fun i=>L i||i==j) n t=B9 ops V tm₀ L n t:=by
 refine Hw fun i _ hdi=>?_
 have:(i==j)=false:=gr
 grind
end
theorem Gc(A:Array Nat)(i):A.toList.getD i 0=A.getD i 0:=by
 rw[List.getD_eq_getElem?_getD,bo_,bw_]
theorem Od{ops}(h:Eu ops (Region.before ops).toList=true){j}{o:Oper}(ho:ops[j]? =some o){t:Nat}(ht:t∈o.looksAt ops∨o.dst=some t):Agm ops j t:=by
 have key:∀i j x y,i<j->ops[i]? =some x->ops[j]? =some y->((Region.before ops).getD j 0).testBit i=true∨Oper.apart ops x y=true:=by
  intro i j x y hij hx hy;unfold Eu at h;rw[b_]at h;have hlt:=(bc_.1 hy).1;have h1:=h j (cw_.2 hlt);rw[b_]at h1;have h2:=h1 i (cw_.2 hij);rw[bk_,Gc]at h2
  rcases h2 with h2|h2
  ·exact .inl h2
  ·simp only[hx,hy]at h2;exact .inr h2
 intro i hne hd;cases hx:ops[i]? with
 |none=>rw[hx]at hd;cases hd
 |some x=>
  rw[hx]at hd;simp only[gq_]at hd;refine⟨fun hij=>?_,fun hji=>?_⟩
  ·rcases key i j x o hij hx ho with h1|h1
   ·exact h1
   ·obtain⟨a1,a2,_⟩:=Oper.apart_spec h1
    rcases ht with ht|ht
    ·exact absurd ht (a1 t hd)
    ·exact absurd ht (a2 t hd)
  ·rcases key j i o x hji ho hx with h1|h1
   ·exact h1
   ·obtain⟨_,a2,a3⟩:=Oper.apart_spec h1
    rcases ht with ht|ht
    ·exact absurd ht (a3 t hd)
    ·exact absurd hd (a2 t ht)
section
variable {E:Env}
theorem Ie:∀(l:List Oper) (i₀:Nat),(∀(k:Nat) (o:Oper),l[k]? =some o->B5 (Bc E o.op)=true->(A8 E l i₀)[cnt E l k]? =some (i₀+k))/\
  (∀(m e:Nat),(A8 E l i₀)[m]? =some e->∃(k:Nat) (o:Oper),e=i₀+k/\l[k]? =some o/\B5 (Bc E o.op)=true/\cnt E l k=m)
 |[],i₀=>⟨fun k o h=>by simp at h,fun m e h=>by simp[A8]at h⟩
 |o::r,i₀=>by
  obtain⟨h1,h2⟩:=Ie r (i₀+1);cases hb:B5 (Bc E o.op)
  ·simp only[A8,hb];refine⟨fun k o' hk he=>?_,fun m e hm=>?_⟩
   ·cases k with
    |zero=>simp at hk;subst hk;rw[hb]at he;cases he
    |succ k=>
     simp only[cnt,hb,bp_,if_false,bn_]
     rw[h1 k o' (by simpa using hk) he];congr 1;omega
   ·obtain⟨k,o',e1,e2,e3,e4⟩:=h2 m e hm
    exact⟨k+1,o',by omega,by simpa using e2,e3,by simp only[cnt,hb,bp_,if_false,bn_];exact e4⟩
  ·simp only[A8,hb];refine⟨fun k o' hk he=>?_,fun m e hm=>?_⟩
   ·cases k with
    |zero=>simp[cnt]
    |succ k=>
     simp only[cnt,hb,if_true]
     rw[fz_ 1,cq_,h1 k o' (by simpa using hk) he];congr 1;omega
   ·cases m with
    |zero=>simp at hm;exact⟨0,o,by omega,rfl,hb,rfl⟩
    |succ m=>
     obtain⟨k,o',e1,e2,e3,e4⟩:=h2 m e (by simpa using hm)
     exact⟨k+1,o',by omega,by simpa using e2,e3,by simp only[cnt,hb,if_true];omega⟩
theorem Ul{b}:∀{l:List Nat},Mg b l=true->∀(k i j:Nat),l[k]? =some i->l[k+1]? =some j->(b.getD j 0).testBit i=true
 |[],_,k,i,j,h,_=>by simp at h
 |[x],_,k,i,j,_,h=>by simp at h
 |x::y::l,hc,k,i,j,hi,hj=>by
  simp only[Mg,ad_]at hc;cases k with
  |zero=>simp at hi hj;subst hi hj;exact hc.1
  |succ k=>exact Ul (l:=y::l) hc.2 k i j (by simpa using hi) (by simpa using hj)
theorem Xv{p}:∀{l:List Nat} {k e:Nat},k<Bl p l->l[k]? =some e->p e=true
 |[],k,e,h,_=>by simp[Bl]at h
 |x::l,k,e,h,he=>by
  simp only[Bl]at h
  split at h
  ·rename_i hp
   cases k with
   |zero=>simp at he;subst he;exact hp
   |succ k=>exact Xv (l:=l) (k:=k) Om (by simpa using he)
  ·omega
theorem Xw{p}:∀{l:List Nat} {m:Nat},m<=l.length->(∀k e,k<m->l[k]? =some e->p e=true)->m<=Bl p l
 |l,0,_,_=>aq_ _
 |[],m+1,h,_=>by simp at h
 |x::l,m+1,h,hp=>by
  simp only[Bl];rw[hp 0 x Om rfl]
  have:=Xw (l:=l) (m:=m) (by simpa using h) fun k e hk he=>hp (k+1) e Om (by simpa using he)
  simp only;omega
theorem Um{p}:∀(l:List Nat),Bl p l<=l.length
 |[]=>by simp[Bl]
 |x::l=>by
  simp only[Bl]
  split
  ·have:=Um (p:=p) l;simp;omega
  ·omega
theorem Ix{b effs}:∀(l:List Oper) (i k:Nat) (o:Oper),l[k]? =some o->(Kb E b effs l i)[k]? =some ⟨Bc E o.op,Bl (fun e=>(b.getD (i+k) 0).testBit e) effs,Bl (fun e=> !(b.getD e 0).testBit (i+k)) effs⟩
 |[],i,k,o,h=>by simp at h
 |x::l,i,k,o,h=>by
  cases k with
  |zero=>
   simp at h;subst h
   simp only[Kb,Ak];cases hc:Bc E x.op<;>rfl
  |succ k=>
   have ih:=Ix (b:=b) (effs:=effs) l (i+1) k o (by simpa using h)
   simp only[Kb,Ak]
   cases hc:Bc E x.op<;>(simp only[cq_];rw[ih];simp only[show i+1+k=i+(k+1) by omega])
def Agn(E:Env)(ops:List Oper)(o:Oper)(tm:Tr AV)(v:AV)(l:List Sto):Prop:=Bn ops o tm=some true->∀σ∈l,∃σ',Aw E o.op tm σ=some (v,σ')
end
theorem Aep{ops}(he:Fo ops=true){listed}(hs:listed.size=ops.size)(h:Region.ready .any ops listed=[]):∀i,i<ops.size->listed.getD i false=true:=by
 intro i
 induction i using Nat.strongRecOn with
 |_ i ih=>
  intro hi;cases hl:listed.getD i false with
  |true=>rfl
  |false=>
   exfalso
   have hm:i∈Region.ready .any ops listed:=by
    rw[mem_ready]
    have ho:ops[i]? =some ops[i]:=by simp[hi]
    refine⟨?_,ops[i],ho,fun e hem hb=>?_⟩
    ·grind
    ·unfold Fo at he;rw[b_]at he;have h1:=he i (cw_.2 hi);simp only[ho]at h1;rw[Array.all_eq_true_iff_forall_mem]at h1
     grind
   rw[h]at hm;cases hm
theorem Un{listed:Array Bool}{j n}(hs:listed.size=n)(hj:j<n)(i):(listed.setIfInBounds j true).getD i false=(listed.getD i false||i==j):=by
 by_cases hij:i=j
 ·subst hij;simp[hs,hj]
 ·rw[getD_set_ne false (gx_ hij)]
  grind
section
variable {E:Env}{tm tm':Tr AV}{ops:Array Oper}
theorem Uo{o:Oper}(h:∀t∈o.looksAt ops,tm.get t=tm'.get t):Bn ops.toList o tm=Bn ops.toList o tm':=by
 unfold Bn;cases hg:o.guard with
 |none=>rfl
 |some gw=>
  obtain⟨j,want⟩:=gw;simp only;cases hj:ops.toList[j]? with
  |none=>rfl
  |some oj=>
   simp only;cases hd:oj.dst with
   |none=>rfl
   |some d=>
    simp only;have hj':ops[j]? =some oj:=gr
    rw[h d (by simp[Oper.looksAt,hg,hj',hd])]
theorem Aeq{o:Oper}(h:∀t∈o.looksAt ops,tm.get t=tm'.get t):∀x∈o.op.operands,opd E tm x=opd E tm' x:=by
 intro x hx;cases x with
 |tmp t=>
  have:t∈o.looksAt ops:=dg_ _ (List.mem_filterMap.2 ⟨.tmp t,gr,rfl⟩);simp only[opd,h t this]
 |_=>rfl
def only(tm:Tr AV):List Nat->Tr AV
 |[]=>.e
 |t::l=>match tm.get t with
  |some v=>(only tm l).put (t+1) t (some v)
  |none=>only tm l
theorem P9{tm}:∀{l:List Nat} {t:Nat} {v:AV},(only tm l).get t=some v->t∈l/\tm.get t=some v
 |[],t,v,h=>by simp[only,Tr.get]at h
 |u::l,t,v,h=>by
  simp only[only]at h
  split at h
  ·rename_i x hx
   rw[dd_]at h
   by_cases ht:t=u
   ·grind
   ·rw[if_neg ht]at h;obtain⟨h1,h2⟩:=P9 h;grind
  ·obtain⟨h1,h2⟩:=P9 h;grind
theorem Rh{tm}:∀{l:List Nat} {t:Nat},t∈l->(only tm l).get t=tm.get t
 |[],t,h=>by simp at h
 |u::l,t,h=>by
  simp only[only]
  by_cases ht:t=u
  ·subst ht
   split
   ·rename_i x hx;rw[dd_,if_pos rfl,hx]
   ·rename_i hx
    cases hg:(only tm l).get t with
    |none=>exact hx.symm
    |some v=>have:=(P9 hg).2;rw[hx]at this;cases this
  ·have hl:t∈l:=gr
   split
   ·rw[dd_,if_neg ht];exact Rh hl
   ·exact Rh hl
end
structure Aer (E:Env)(ops:Array Oper)(Rr:Rec)(nt:Nat)(tm₀:Tr AV)(es:List Nat)(T:Nat->Tr AV)(V:Nat->AV)(S:List Sto):Prop where
 slots:Eu ops (Region.before ops).toList=true
 hes:es=A8 E ops.toList 0
 len:S.length=es.length+1
 chain:Mg (Region.before ops).toList es=true
 here:∀(j:Nat) (o:Oper),ops[j]? =some o->∃σk σ₁,S[cnt E ops.toList j]? =some σk/\Ka o.dst (T j) nt (V j)=some (T (j+1))/\Aia E ops.toList Rr o (T j) σk (V j) σ₁/\(B5 (Bc E o.op)=true->S[cnt E ops.toList j+1]? =some σ₁)
 get:∀j,j<=ops.size->∀t,(T j).get t=B9 ops V tm₀ (fun _=>true) j t
 steady:∀(j:Nat) (o:Oper),ops[j]? =some o->Bc E o.op=.read->Agn E ops.toList o (T j) (V j)
  ((S.drop (Bl (fun e=>((Region.before ops).getD j 0).testBit e) es)).take (Bl (fun e=> !((Region.before ops).getD e 0).testBit j) es+1-Bl (fun e=>((Region.before ops).getD j 0).testBit e) es))
structure Inv (E:Env)(ops:Array Oper)(nt:Nat)(df:List (Nat×List AV))(tm₀:Tr AV)(es:List Nat)(V:Nat->AV)(S:List Sto)(C₀:Ctx)(N₀:Nat)(w₀:World)
  (L:Nat->Bool)(m:Nat)(σ:Sto)(C:Ctx)(w:World)(a:Act):Prop where
 closed:Aa7 ops L
 effs:∀k e,es[k]? =some e->(L e=true↔k<m)
 sto:S[m]? =some σ
 sim:Sim E.P C w σ
 glob:Iw C (nx σ) w E
 slots:∀t x,B9 ops V tm₀ L ops.size t=some x->R C (nx σ) w x (a.tmps.getD t undef)
 size:a.tmps.size=nt
 dfs:DR C (nx σ) w df a.defers
 ext:Ext C₀ N₀ w₀ C (nx σ) w
section
variable {E:Env}{ops:Array Oper}{Rr:Rec}{nt:Nat}{df:List (Nat×List AV)}{tm₀:Tr AV}{es:List Nat}{T:Nat->Tr AV}{V:Nat->AV}{S:List Sto}{C₀ C:Ctx}{N₀:Nat}{w₀ w:World}{L:Nat->Bool}{m:Nat}{σ:Sto}{a:Act}
theorem Inv.next(lx:Aer E ops Rr nt tm₀ es T V S)(iv:Inv E ops nt df tm₀ es V S C₀ N₀ w₀ L m σ C w a){j o}(ho:ops[j]? =some o)(hL:L j=false)(hr:∀i,((Region.before ops).getD j 0).testBit i=true->L i=true)
  {m' σ' C' w' x}(pm:S[m']? =some σ')(mg:∀k e,es[k]? =some e->((L e||e==j)=true↔k<m'))(hs:Sim E.P C' w' σ')(he:Ext C (nx σ) w C' (nx σ') w')(hx:R C' (nx σ') w' (V j) x):
  Inv E ops nt df tm₀ es V S C₀ N₀ w₀ (fun i=>L i||i==j) m' σ' C' w' (a.put o.dst x):=by
 have hj:=(bc_.1 ho).1;obtain⟨_,_,_,ck,_,_⟩:=lx.here j o ho
 have hdn:∀d,o.dst=some d->d<nt:=fun d hd=>by
  rw[hd]at ck;simp only[Ka]at ck;cases hb:Nat.blt d nt
  ·grind
  ·exact al_ hb
 refine⟨fun i hi k hk=>?_,mg,pm,hs,iv.glob.ext he,fun t y hy=>?_,?_,?_,iv.ext.trans he⟩
 ·rw[bk_]at hi⊢
  rcases hi with hi|hi
  ·exact .inl (iv.closed i hi k hk)
  grind
 ·by_cases hd:(ops[j]?).bind (·.dst)=some t
  ·have hd':o.dst=some t:=gr;rw[Aeo hj iv.closed hL (Od lx.slots ho (.inr hd')) hd]at hy;cases hy;have:=hdn t hd';rw[hd']
   have:t<a.tmps.size:=by rw[iv.size];exact this
   simp[Act.put,this];exact hx
  ·rw[Aa8 hd]at hy;have h1:=R.ext he _ _ (iv.slots t y hy);cases hod:o.dst with
   |none=>exact h1
   |some d=>
    have hne:d≠t:=fun hh=>hd gr
    simpa[Act.put,cr_ hne]using h1
 ·cases hod:o.dst<;>simp[Act.put,iv.size]
 ·have:(a.put o.dst x).defers=a.defers:=by cases o.dst<;>rfl
  rw[this];exact iv.dfs.ext he
end
section
variable {E:Env}{ops:Array Oper}{Rr:Rec}{nt:Nat}{df:List (Nat×List AV)}{tm₀:Tr AV}{es:List Nat}{T:Nat->Tr AV}{V:Nat->AV}{S:List Sto}{C₀ C:Ctx}{N₀:Nat}{w₀ w:World}{L:Nat->Bool}{m:Nat}{σ:Sto}{a:Act}
theorem Iy{op}(h:Bc E op=.read):∀tm σ,opA E op Rr tm σ=Aw E op tm σ:=by
 intro tm σ;cases op
 case call c=>
  cases hc:c.callee with
  |value f=>cases f<;>simp only[Bc,hc]at h<;>first|(cases h;done)|(split at h<;>cases h)
  |builtin b=>simp only[opA,hc]
  |invoke r n=>simp[Bc,hc]at h
 all_goals rfl
theorem Aa9(hR:Bk E Rr){op}(h:Bc E op=.pure)(tm):Fk (opA E op Rr tm):=by
 have viaStep:(∀σ,opA E op Rr tm σ=Aw E op tm σ)->Fk (opA E op Rr tm):=fun e σ σ' v hv=>by
  rw[e]at hv;obtain⟨k1,k2⟩:=Aos (tm:=tm) h σ σ' v hv
  exact⟨k1,fun τ=>by rw[e];exact k2 τ⟩
 cases op
 case call c=>
  cases hc:c.callee with
  |value f=>
   cases f with
   |func f=>
    have hp:E.pu f=true:=by
     simp only[Bc,hc]at h
     split at h
     ·assumption
     ·cases h
    intro σ σ' v hv
    have e:∀τ,opA E (.call c) Rr tm τ=Rr (.fn f) ([]++opds E tm c.args.toList++[]) τ:=fun τ=>by simp only[opA,hc,opd,Rb]
    rw[e]at hv;obtain⟨k1,k2⟩:=hR.pu f hp _ σ σ' v hv
    exact⟨k1,fun τ=>by rw[e];exact k2 τ⟩
   |_=>simp only[Bc,hc]at h;cases h
  |builtin b=>exact viaStep fun σ=>by simp only[opA,hc]
  |invoke r n=>simp only[Bc,hc]at h;cases h
 all_goals exact viaStep fun _=>rfl
theorem Inv.step (hR : Bk E Rr) (lx : Aer E ops Rr nt tm₀ es T V S) (iv : Inv E ops nt df tm₀ es V S C₀ N₀ w₀ L m σ C w a) {j o} (ho : ops[j]? = some o) (hL : L j = false) (hr : ∀ i,((Region.before ops).getD j 0).testBit i = true -> L i = true)
  {K Q} (hK : ∀ m' σ' C' w' a',Inv E ops nt df tm₀ es V S C₀ N₀ w₀ (fun i => L i || i == j) m' σ' C' w' a' -> K a' w') {ro n} : wpOpIn (Cy ro) n E.P ops Q j K a w := by
 have hj := (bc_.1 ho).1
 have hol : ops.toList[j]? = some o := by simpa using ho
 obtain ⟨σk,σ₁,h1,ck,dv,h3⟩ := lx.here j o ho
 have fe : ∀ t ∈ o.looksAt ops,B9 ops V tm₀ L ops.size t = (T j).get t := fun t ht => by
  rw [lx.get j Om];exact Aib Om iv.closed hL hr (Od lx.slots ho (.inl ht))
 have st : SSt E C w ⟨only (T j) (o.looksAt ops),nt,df,σ⟩ a := ⟨iv.sim,iv.glob,fun t y hy => by
  obtain ⟨k1,k2⟩ := P9 hy
  exact iv.slots t y (by rw [fe t k1]; exact k2),iv.size,iv.dfs⟩
 have hgc : Bn ops.toList o (only (T j) (o.looksAt ops)) = Bn ops.toList o (T j) := Uo fun t ht => Rh ht
 have hoc : ∀ τ,opA E o.op Rr (only (T j) (o.looksAt ops)) τ = opA E o.op Rr (T j) τ := fun τ => Aek (Aeq fun t ht => Rh ht)
 obtain ⟨e1,e2⟩ := Ie (E := E) ops.toList 0;rw [← lx.hes] at e1 e2

 have il : B5 (Bc E o.op) = true -> σ = σk /\ ∀ k e,es[k]? = some e -> ((L e || e == j) = true ↔ k < cnt E ops.toList j + 1) := by
  intro he;have hc := e1 j o hol he;rw [bn_] at hc
  have hle : m <= cnt E ops.toList j := by
   have := iv.effs _ _ hc;rw [hL] at this
   have h0 : ¬ (cnt E ops.toList j < m) := fun hh => by have := this.2 hh; cases this
   omega
  have hge : cnt E ops.toList j <= m := by
   rcases de_ (cnt E ops.toList j) with h0 | h0
   ·omega
   ·have hlt := (ae_.1 hc).1;have hp : es[cnt E ops.toList j - 1]? = some es[cnt E ops.toList j - 1] := az_ Om
    have hb := Ul lx.chain _ _ _ hp (by rw [show cnt E ops.toList j - 1 + 1 = cnt E ops.toList j by omega]; exact hc)
    rw [Gc] at hb;have := (iv.effs _ _ hp).1 (hr _ hb);omega
  have hm : m = cnt E ops.toList j := by omega
  refine ⟨by have := iv.sto; rw [hm,h1] at this; cases this; rfl,fun k e hk => ?_⟩
  obtain ⟨k',o',q1,q2,q3,q4⟩ := e2 k e hk;rw [bk_,iv.effs k e hk,beq_iff_eq]
  constructor
  ·rintro (h | h)
   ·omega
   ·have : k' = j := by omega
    subst this; omega
  ·intro h
   by_cases hkc : k = cnt E ops.toList j
   ·subst hkc; rw [hc] at hk; cases hk; exact .inr rfl
   ·exact .inl Om
 have cy : B5 (Bc E o.op) = false -> ∀ k e,es[k]? = some e -> ((L e || e == j) = true ↔ k < m) := by
  intro he k e hk;obtain ⟨k',o',q1,q2,q3,q4⟩ := e2 k e hk
  have hne : (e == j) = false := by
   rw [beq_eq_false_iff_ne]; intro hh
   have : k' = j := by omega
   subst this; rw [hol] at q2; cases q2; rw [q3] at he; cases he
  rw [hne,gl_]; exact iv.effs k e hk
 unfold wpOpIn;simp only [ho]
 rcases dv with ⟨hg,hv⟩ | ⟨hg,hv,hσ⟩
 ·rw [← hgc] at hg;have hw := Dp (b := true) st.tmps hg;rw [if_pos hw];cases he : B5 (Bc E o.op) with
  | true =>
   obtain ⟨rfl,q2⟩ := il he
   exact Rg hR st (by rw [hoc]; exact hv) fun C' w' x k1 k2 k3 => hK _ _ _ _ _ (iv.next lx ho hL hr (h3 he) q2 k1 k2 k3)
  | false =>
   have mj : opA E o.op Rr (T j) σ = some (V j,σ) := by
    cases hc : Bc E o.op with
    | eff => rw [hc] at he; cases he
    | pure => exact (Aa9 hR hc _ _ _ _ hv).2 σ
    | read =>
     rw [hgc] at hg;have hst := lx.steady j o ho hc hg
     have mm : m <= es.length := by have := (ae_.1 iv.sto).1; rw [lx.len] at this; omega
     have hlo : Bl (fun e => ((Region.before ops).getD j 0).testBit e) es <= m := by
      rcases Nat.lt_or_ge m (Bl (fun e => ((Region.before ops).getD j 0).testBit e) es) with h | h
      ·exfalso
       have hlt : m < es.length := ak_ h (Um es);have hp : es[m]? = some es[m] := az_ hlt;have := (iv.effs _ _ hp).1 (hr _ (Xv h hp));omega
      ·exact h
     have hhi : m <= Bl (fun e => !((Region.before ops).getD e 0).testBit j) es := by
      refine Xw mm fun k e hk hek => ?_
      have hle := (iv.effs k e hek).2 hk;cases hb : ((Region.before ops).getD e 0).testBit j with
      | false => rfl
      | true => have := iv.closed e hle j hb; rw [hL] at this; cases this
     have fg : σ ∈ (S.drop (Bl (fun e => ((Region.before ops).getD j 0).testBit e) es)).take (Bl (fun e => !((Region.before ops).getD e 0).testBit j) es + 1 - Bl (fun e => ((Region.before ops).getD j 0).testBit e) es) := by
      refine ab_ (i := m - Bl (fun e => ((Region.before ops).getD j 0).testBit e) es) ?_
      rw [ea_,if_pos Om,g_,show Bl (fun e => ((Region.before ops).getD j 0).testBit e) es + (m - Bl (fun e => ((Region.before ops).getD j 0).testBit e) es) = m by omega]
      exact iv.sto
     obtain ⟨σ₂,hs2⟩ := hst σ fg;have := S6 hc hs2;subst this; rw [Iy hc]; exact hs2
   exact Rg (s := ⟨only (T j) (o.looksAt ops),nt,df,σ⟩) hR st (by rw [hoc]; exact mj) fun C' w' x k1 k2 k3 => hK _ _ _ _ _ (iv.next lx ho hL hr iv.sto (cy he) k1 k2 k3)
 ·rw [← hgc] at hg;have hw := Dp (b := false) st.tmps hg
  rw [if_neg (by rw [hw]; simp)]
  refine ⟨fun _ _ => trivial,?_⟩
  have hx : R C (nx σ) w (V j) undef := by rw [hv]; exact P8
  cases he : B5 (Bc E o.op) with
  | true =>
   obtain ⟨rfl,q2⟩ := il he
   exact hK _ _ _ _ _ (iv.next lx ho hL hr (by rw [h3 he,hσ]) q2 iv.sim (cf_ _ _ _) hx)
  | false => exact hK _ _ _ _ _ (iv.next lx ho hL hr iv.sto (cy he) iv.sim (cf_ _ _ _) hx)
end
def Qa(L:Nat->Bool):Nat->Nat
 |0=>0
 |i+1=>(if L i=true then 0 else 1)+Qa L i
theorem Aes{L L'}:∀{n:Nat},(∀i,i<n->L i=L' i)->Qa L n=Qa L' n
 |0,_=>rfl
 |n+1,h=>by
  simp only[Qa];rw[h n Om,Aes (L:=L) (L':=L') (n:=n) fun i hi=>h i Om]
theorem Aba{L j}(hL:L j=false):∀{n:Nat},j<n->Qa (fun i=>L i||i==j) n+1=Qa L n
 |0,h=>by omega
 |n+1,h=>by
  by_cases hj:j=n
  ·subst hj
   have:Qa (fun i=>L i||i==j) j=Qa L j:=Aes fun i hi=>by
    have:(i==j)=false:=by rw[beq_eq_false_iff_ne];omega
    rw[this,gl_]
   simp[Qa,hL,this];omega
  ·have ih:=Aba (n:=n) hL Om
   have:(n==j)=false:=by rw[beq_eq_false_iff_ne];omega
   simp only[Qa,this,gl_];omega
theorem Ws{L}:∀{n:Nat},Qa L n=0->∀i,i<n->L i=true
 |0,_,i,hi=>by omega
 |n+1,h,i,hi=>by
  simp only[Qa]at h
  by_cases hn:L n=true
  ·rw[if_pos hn]at h
   by_cases he:i=n
   ·subst he;exact hn
   ·exact Ws (n:=n) Om i Om
  ·rw[if_neg hn]at h;omega
section
variable {E:Env}{ops:Array Oper}{Rr:Rec}{nt:Nat}{df:List (Nat×List AV)}{tm₀:Tr AV}{es:List Nat}{T:Nat->Tr AV}{V:Nat->AV}{S:List Sto}{C₀:Ctx}{N₀:Nat}{w₀:World}
theorem Inv.last(lx:Aer E ops Rr nt tm₀ es T V S){L m σ C w a}(iv:Inv E ops nt df tm₀ es V S C₀ N₀ w₀ L m σ C w a)(bs:∀i,i<ops.size->L i=true):
  S[es.length]? =some σ/\SSt E C w ⟨T ops.size,nt,df,σ⟩ a:=by
 have hm:m=es.length:=by
  have h1:=(ae_.1 iv.sto).1;rw[lx.len]at h1
  rcases Nat.lt_or_ge m es.length with h|h
  ·exfalso
   have hp:es[m]? =some es[m]:=az_ h;obtain⟨_,e2⟩:=Ie (E:=E) ops.toList 0;rw[←lx.hes]at e2;obtain⟨k,o,q1,q2,_⟩:=e2 m _ hp;have hk:=(ae_.1 q2).1
   have:=(iv.effs m _ hp).1 (bs _ (by rw[q1,bn_];simpa using hk))
   omega
  ·omega
 refine⟨hm▸iv.sto,iv.sim,iv.glob,fun t y hy=>iv.slots t y ?_,iv.size,iv.dfs⟩
 rw[←hy,lx.get ops.size nl];exact Hw fun i hi _=>bs i hi
theorem Wt(hR:Bk E Rr)(lx:Aer E ops Rr nt tm₀ es T V S)(hed:Fo ops=true){Q}
  (hQ:∀(L:Nat->Bool) m σ C w a,Inv E ops nt df tm₀ es V S C₀ N₀ w₀ L m σ C w a->(∀i,i<ops.size->L i=true)->Q .normal a w){ro n}:
  ∀(fuel:Nat) (listed:Array Bool) (m:Nat) (σ:Sto) (C:Ctx) (w:World) (a:Act),listed.size=ops.size->Qa (fun i=>listed.getD i false) ops.size=fuel->
   Inv E ops nt df tm₀ es V S C₀ N₀ w₀ (fun i=>listed.getD i false) m σ C w a->wpAnyIn (Cy ro) n E.P .any ops Q fuel listed a w
 |0,listed,m,σ,C,w,a,hs,ht,iv=>by
  have bs:=Ws ht;refine⟨?_,hQ _ m σ C w a iv bs⟩;rw[List.eq_nil_iff_forall_not_mem];intro j hj;obtain⟨h1,o,ho,_⟩:=mem_ready.1 hj;have hlt:=(bc_.1 ho).1;have h2:=bs j hlt;simp only[bo_]at h1 h2
  rw[em_ (by omega:j<listed.size)]at h1 h2
  simp only[gp_]at h1 h2;rw[h1]at h2;cases h2
 |fuel+1,listed,m,σ,C,w,a,hs,ht,iv=>by
  refine⟨fun h0=>hQ _ m σ C w a iv (Aep hed hs h0),fun j hj=>?_⟩
  obtain⟨h1,o,ho,bs⟩:=mem_ready.1 hj;have hlt:=(bc_.1 ho).1
  have hL:listed.getD j false=false:=by
   simp only[bo_]at h1⊢
   rw[em_ (by omega:j<listed.size)]at h1⊢
   exact h1
  have hr:∀i,((Region.before ops).getD j 0).testBit i=true->listed.getD i false=true:=fun i hi=>by
   obtain⟨e,he,hb,h⟩:=Xu ho hi;have hon:=bs e he hb
   rcases h with rfl|h
   ·exact hon
   ·exact iv.closed _ hon i h
  refine iv.step hR lx ho hL hr fun m' σ' C' w' a' iv'=>?_
  have ir:(fun i=>(listed.setIfInBounds j true).getD i false)=fun i=>listed.getD i false||i==j:=funext fun i=>Un hs hlt i
  refine Wt hR lx hed hQ fuel _ m' σ' C' w' a' (by simp[hs]) ?_ (by rw[ir];exact iv')
  rw[ir];have:=Aba (L:=fun i=>listed.getD i false) hL hlt
  omega
end
theorem Ri{L}:∀{n:Nat},(∀i,L i=false)->Qa L n=n
 |0,_=>rfl
 |n+1,h=>by simp only[Qa];rw[if_neg (by rw[h n];simp),Ri (n:=n) h];omega
theorem Nj{E}:∀(l:List Oper) (i:Nat),cnt E l l.length=(A8 E l i).length
 |[],i=>rfl
 |o::r,i=>by
  simp only[as_,cnt,A8];cases hb:B5 (Bc E o.op)
  ·simp[Nj r (i+1)]
  ·simp[Nj r (i+1)];omega
theorem Aic{E}(hm:E.P.follows .mixedOrders=true){Rr}(hR:Bk E Rr){ops s d C w a id}(st:SSt E C w s a)
  (c1:Eu ops (Region.before ops).toList=true)(c2:Fo ops=true)(c3:Mg (Region.before ops).toList (A8 E ops.toList 0)=true)(hd:T9 E ops.toList Rr ops.toList ⟨s,[s.sto],[]⟩=some d)
  (hb:∀(j:Nat) (o:Oper) (t:Tr AV) (v:AV),ops[j]? =some o->d.log.reverse[j]? =some (t,v)->Bc E o.op=.read->Agn E ops.toList o t v
   ((d.eps.reverse.drop (Bl (fun e=>((Region.before ops).getD j 0).testBit e) (A8 E ops.toList 0))).take (Bl (fun e=> !((Region.before ops).getD e 0).testBit j) (A8 E ops.toList 0)+1-Bl (fun e=>((Region.before ops).getD j 0).testBit e) (A8 E ops.toList 0)))){ro n}:
  (Code.region id ops true).wpIn (Cy ro) n E.P (Aej E C (nx s.sto) w [(.normal,d.s)]) a w:=by
 obtain⟨log,eps,lex,k2,k3,k4,k5⟩:=Lz hd;simp only[dy_,bd_,d_]at k2 k3;obtain⟨x1,x2,x3,x4,x5⟩:=Wq lex
 have bl:ops.toList.length=ops.size:=by simp
 have hT:∀k,k<ops.size->∃o,ops[k]? =some o/\Ka o.dst (((log.map (·.1)++[d.s.tm])[k]?).getD .e) s.nt (((log[k]?).map (·.2)).getD .any)=some (((log.map (·.1)++[d.s.tm])[k+1]?).getD .e):=by
  intro k hk
  have ho:ops.toList[k]? =some ops[k]:=by simp[hk]
  obtain⟨t,v,t₁,σk,σ₁,y1,y2,y3,y4,y5,y6⟩:=x5 k _ ho;have hlt:=(ae_.1 y1).1
  refine⟨ops[k],by simp[hk],?_⟩
  rw[cg_ (by simpa using hlt),br_,y1,y2]
  exact y4
 have lx:Aer E ops Rr s.nt s.tm (A8 E ops.toList 0) (fun k=>((log.map (·.1)++[d.s.tm])[k]?).getD .e) (fun k=>((log[k]?).map (·.2)).getD .any) (s.sto::eps):=by
  refine⟨c1,rfl,by simp only[as_,x2,Nj ops.toList 0],c3,fun j o ho=>?_,fun j hj t=>?_,fun j o ho hc=>?_⟩
  ·obtain⟨t,v,t₁,σk,σ₁,y1,y2,y3,y4,y5,y6⟩:=x5 j o (by simpa using ho)
   have hlt:=(ae_.1 y1).1;refine⟨σk,σ₁,y3,?_,?_,y6⟩
   ·rw[cg_ (by simpa using hlt),br_,y1,y2];exact y4
   ·rw[cg_ (by simpa using hlt),br_,y1];exact y5
  ·exact Ni (n:=ops.size) (by rw[x3];rfl) hT j hj t
  ·obtain⟨t,v,t₁,σk,σ₁,y1,y2,y3,y4,y5,y6⟩:=x5 j o (by simpa using ho)
   have hlt:=(ae_.1 y1).1
   have:=hb j o t v ho (by rw[k2];exact y1) hc
   rw[k3]at this
   rw[cg_ (by simpa using hlt),br_,y1]
   exact this
 refine wpIn_region_any hm ?_;obtain⟨t1,t2⟩:=st.sim.same (w':={ w with drawn:=w.drawn+1 }) nl (fun _ _=>rfl) ⟨rfl,rfl⟩
 have cz:∀i,(Array.replicate ops.size false).getD i false=false:=fun i=>by
  rw[bo_,Array.getElem?_replicate];split<;>rfl
 refine Wt (C₀:=C) (N₀:=nx s.sto) (w₀:=w) (df:=s.df) hR lx c2 (fun L m σ C' w' a' iv bs=>?_) ops.size _ 0 s.sto C _ a (by simp) (Ri cz) ?_
 ·obtain⟨z1,z2⟩:=iv.last lx bs
  have hσ:σ=d.s.sto:=by
   rw[←Nj,←x2,x4]at z1;cases z1;rfl
  subst hσ;refine⟨(.normal,d.s),ev_ _,C',rfl,?_,iv.ext⟩
  have hTn:((log.map (·.1)++[d.s.tm])[ops.size]?).getD .e=d.s.tm:=by
   rw[←bl,←x1,do_ (by simp)];simp
  simp only[hTn]at z2
  exact⟨z2.sim,z2.glob,z2.tmps,by rw[k4];exact z2.size,by rw[k5];exact z2.dfs⟩
 ·refine⟨fun j hj=>?_,fun k e _=>?_,rfl,t1,st.glob.ext t2,fun t x hx=>?_,st.size,st.dfs.ext t2,t2⟩
  ·rw[cz]at hj;cases hj
  ·rw[cz];constructor
   ·intro hh;cases hh
   ·intro hh;omega
  ·refine R.ext t2 _ _ (st.tmps t x ?_);rw[←hx,He (k:=0) (aq_ _) fun i _ _ _=>cz i];rfl
structure Base (E:Env)(ops:Array Oper)(nt:Nat)(df:List (Nat×List AV))(tm₀:Tr AV)(C₀:Ctx)(N₀:Nat)(w₀:World)
  (U:Nat->AV)(L:Nat->Bool)(σ:Sto)(C:Ctx)(w:World)(a:Act):Prop where
 closed:Aa7 ops L
 sim:Sim E.P C w σ
 glob:Iw C (nx σ) w E
 slots:∀t x,B9 ops U tm₀ L ops.size t=some x->R C (nx σ) w x (a.tmps.getD t undef)
 size:a.tmps.size=nt
 dfs:DR C (nx σ) w df a.defers
 ext:Ext C₀ N₀ w₀ C (nx σ) w
def Conv(E:Env)(U:Nat->AV)(σ:Sto)(U':Nat->AV)(σ':Sto):Prop:=
 ∀C w,Sim E.P C w σ->∃C',Sim E.P C' w σ'/\Ext C (nx σ) w C' (nx σ') w/\∀i x,R C (nx σ) w (U i) x->R C' (nx σ') w (U' i) x
theorem Conv.refl{E U U' σ}(h:∀i,U i=U' i):Conv E U σ U' σ:=fun C _ hs=>⟨C,hs,cf_ _ _ _,gr⟩
abbrev ff_:=@Conv.refl
section
variable {E:Env}{ops:Array Oper}{Rr:Rec}{nt:Nat}{df:List (Nat×List AV)}{tm₀:Tr AV}{V U U':Nat->AV}{C₀ C:Ctx}{N₀:Nat}{w₀ w:World}{L:Nat->Bool}{σ σ':Sto}{a:Act}
theorem Nk{t:Nat}:∀{k:Nat},(∀i,i<k->(ops[i]?).bind (·.dst)=some t->L i=true->U i=U' i)->B9 ops U tm₀ L k t=B9 ops U' tm₀ L k t
 |0,_=>rfl
 |i+1,h=>by
  simp only[B9];rw[Nk fun j hj=>h j Om]
  grind
theorem Xx{t}:∀(k:Nat),(∃i,B9 ops U tm₀ L k t=some (U i)/\B9 ops U' tm₀ L k t=some (U' i))∨(B9 ops U tm₀ L k t=tm₀.get t/\B9 ops U' tm₀ L k t=tm₀.get t)
 |0=>.inr ⟨rfl,rfl⟩
 |i+1=>by
  simp only[B9]
  by_cases hd:L i=true/\(ops[i]?).bind (·.dst)=some t
  ·grind
  ·rw[if_neg hd,if_neg hd];exact Xx i
theorem Base.conv(h:Base E ops nt df tm₀ C₀ N₀ w₀ U L σ C w a)(hc:Conv E U σ U' σ'):∃C',Base E ops nt df tm₀ C₀ N₀ w₀ U' L σ' C' w a:=by
 obtain⟨C',h1,h2,h3⟩:=hc C w h.sim;refine⟨C',h.closed,h1,h.glob.ext h2,fun t x hx=>?_,h.size,h.dfs.ext h2,h.ext.trans h2⟩
 rcases Xx (ops:=ops) (U:=U) (U':=U') (tm₀:=tm₀) (L:=L) (t:=t) ops.size with⟨i,e1,e2⟩|⟨e1,e2⟩
 ·rw[e2]at hx;cases hx;exact h3 i _ (h.slots t _ e1)
 ·rw[e2,←e1]at hx;exact R.ext h2 _ _ (h.slots t x hx)
theorem Base.congr(h:Base E ops nt df tm₀ C₀ N₀ w₀ U L σ C w a)(hu:∀i,L i=true->U i=U' i):Base E ops nt df tm₀ C₀ N₀ w₀ U' L σ C w a:=
 ⟨h.closed,h.sim,h.glob,fun t x hx=>h.slots t x (by rw[Nk fun i _ _ hi=>hu i hi];exact hx),h.size,h.dfs,h.ext⟩
theorem Base.next(hsl:Eu ops (Region.before ops).toList=true)(iv:Base E ops nt df tm₀ C₀ N₀ w₀ U L σ C w a){j}{o:Oper}(ho:ops[j]? =some o)(hL:L j=false)(hr:∀i,((Region.before ops).getD j 0).testBit i=true->L i=true)
  (hdn:∀d,o.dst=some d->d<nt){v C' w' x}(hs:Sim E.P C' w' σ')(he:Ext C (nx σ) w C' (nx σ') w')(hx:R C' (nx σ') w' v x):
  Base E ops nt df tm₀ C₀ N₀ w₀ (fun i=>if i=j then v else U i) (fun i=>L i||i==j) σ' C' w' (a.put o.dst x):=by
 have hj:=(bc_.1 ho).1;have hUL:∀i,L i=true->U i=(if i=j then v else U i):=gr;refine⟨fun i hi k hk=>?_,hs,iv.glob.ext he,fun t y hy=>?_,?_,?_,iv.ext.trans he⟩
 ·rw[bk_]at hi⊢
  rcases hi with hi|hi
  ·exact .inl (iv.closed i hi k hk)
  grind
 ·by_cases hd:(ops[j]?).bind (·.dst)=some t
  ·have hd':o.dst=some t:=gr;rw[Aeo hj iv.closed hL (Od hsl ho (.inr hd')) hd]at hy;simp only[if_true]at hy;cases hy;have:=hdn t hd';rw[hd']
   have:t<a.tmps.size:=by rw[iv.size];grind
   simp[Act.put,this];exact hx
  ·rw[Aa8 hd,←Nk (U:=U) fun i _ _ hi=>hUL i hi]at hy
   have h1:=R.ext he _ _ (iv.slots t y hy);cases hod:o.dst with
   |none=>exact h1
   |some d=>
    have hne:d≠t:=fun hh=>hd gr
    simpa[Act.put,cr_ hne]using h1
 ·cases hod:o.dst<;>simp[Act.put,iv.size]
 ·have:(a.put o.dst x).defers=a.defers:=by cases o.dst<;>rfl
  rw[this];exact iv.dfs.ext he
theorem Base.step(hR:Bk E Rr)(hsl:Eu ops (Region.before ops).toList=true)(iv:Base E ops nt df tm₀ C₀ N₀ w₀ U L σ C w a){j}{o:Oper}(ho:ops[j]? =some o)(hL:L j=false)(hr:∀i,((Region.before ops).getD j 0).testBit i=true->L i=true)
  (hdn:∀d,o.dst=some d->d<nt){Tj}(hT:∀t,Tj.get t=B9 ops V tm₀ (fun _=>true) j t)(hU:∀i,((Region.before ops).getD j 0).testBit i=true->U i=V i){v}(h1:Aia E ops.toList Rr o Tj σ v σ')
  {K Q}(hK:∀C' w' a',Base E ops nt df tm₀ C₀ N₀ w₀ (fun i=>if i=j then v else U i) (fun i=>L i||i==j) σ' C' w' a'->K a' w'){ro n}:wpOpIn (Cy ro) n E.P ops Q j K a w:=by
 have hj:=(bc_.1 ho).1
 have fe:∀t∈o.looksAt ops,B9 ops U tm₀ L ops.size t=Tj.get t:=fun t ht=>by
  have mq:=Od hsl ho (.inl ht);rw[hT,Aib Om iv.closed hL hr mq];exact Nk fun i hi hd _=>hU i ((mq i Om hd).1 hi)
 have st:SSt E C w ⟨only Tj (o.looksAt ops),nt,df,σ⟩ a:=⟨iv.sim,iv.glob,fun t y hy=>by
  obtain⟨k1,k2⟩:=P9 hy;exact iv.slots t y gr,iv.size,iv.dfs⟩
 have hgc:Bn ops.toList o (only Tj (o.looksAt ops))=Bn ops.toList o Tj:=Uo fun t ht=>Rh ht
 have hoc:∀τ,opA E o.op Rr (only Tj (o.looksAt ops)) τ=opA E o.op Rr Tj τ:=fun τ=>Aek (Aeq fun t ht=>Rh ht)
 unfold wpOpIn;simp only[ho]
 rcases h1 with⟨hg,hv⟩|⟨hg,hv,hσ⟩
 ·rw[←hgc]at hg;have hw:=Dp (b:=true) st.tmps hg;rw[if_pos hw];exact Rg hR st gr fun C' w' x k1 k2 k3=>hK _ _ _ (iv.next hsl ho hL hr hdn k1 k2 k3)
 ·rw[←hgc]at hg;have hw:=Dp (b:=false) st.tmps hg;rw[if_neg gr];refine⟨fun _ _=>trivial,?_⟩
  subst hσ
  exact hK _ _ _ (iv.next hsl ho hL hr hdn iv.sim (cf_ _ _ _) (by rw[hv];exact P8))
theorem At3{es D k}(hc:Aa7 ops L)(hes:∀e∈es,L e=true↔e∈D)(hL:L k=false)(hr:∀i,((Region.before ops).getD k 0).testBit i=true->L i=true):Sz (Region.before ops).toList es D k=true:=by
 unfold Sz;rw[b_];intro e he;rw[Gc,Gc];cases hd:D.contains e with
 |true=>
  simp only;rw[bi_];rw[bz_];intro hh;have:=hc e ((hes e he).2 gr) k hh;rw[hL]at this;cases this
 |false=>
  simp only;rw[bi_];rw[bz_];intro hh;have:=(hes e he).1 (hr e hh);rw[←List.contains_iff_mem,hd]at this;cases this
structure Plan (E:Env)(ops:Array Oper)(Rr:Rec)(nt:Nat)(tm₀:Tr AV)(es:List Nat)(V:Nat->AV)(T:Nat->Tr AV)(nds:List Nd):Prop where
 slots:Eu ops (Region.before ops).toList=true
 edges:Fo ops=true
 effs:∀(k:Nat) (o:Oper),ops[k]? =some o->(B5 (Bc E o.op)=true↔k∈es)
 get:∀k,k<=ops.size->∀t,(T k).get t=B9 ops V tm₀ (fun _=>true) k t
 dst:∀(k:Nat) (o:Oper),ops[k]? =some o->∀d,o.dst=some d->d<nt
 sub:∀c∈nds,∀k∈c.D,k∈es
 ov:∀c∈nds,∀k,k∉c.D->ovr c.U V k=V k
 seen:∀c∈nds,∀k,k<ops.size->k∉c.D->Sz (Region.before ops).toList es c.D k=true->∀i,((Region.before ops).getD k 0).testBit i=true->ovr c.U V i=V i
 calm:∀c∈nds,∀(k:Nat) (o:Oper),ops[k]? =some o->k∉es->Sz (Region.before ops).toList es c.D k=true->Aia E ops.toList Rr o (T k) c.σ (V k) c.σ
 eff:∀c∈nds,∀(k:Nat) (o:Oper),ops[k]? =some o->k∈es->k∉c.D->Sz (Region.before ops).toList es c.D k=true->
  ∃v σ' c',Aia E ops.toList Rr o (T k) c.σ v σ'/\c'∈nds/\(∀e∈es,e∈c'.D↔e∈c.D∨e=k)/\Conv E (fun i=>if i=k then v else ovr c.U V i) σ' (ovr c'.U V) c'.σ
theorem Abb{es T nds}(hR:Bk E Rr)(pl:Plan E ops Rr nt tm₀ es V T nds){Q}
  (hQ:∀c∈nds,∀(L:Nat->Bool) C w a,(∀e∈es,L e=true↔e∈c.D)->(∀i,i<ops.size->L i=true)->Base E ops nt df tm₀ C₀ N₀ w₀ (ovr c.U V) L c.σ C w a->Q .normal a w){ro n}:
  ∀(fuel:Nat) (listed:Array Bool) (c:Nd) (C:Ctx) (w:World) (a:Act),c∈nds->listed.size=ops.size->Qa (fun i=>listed.getD i false) ops.size=fuel->(∀e∈es,listed.getD e false=true↔e∈c.D)->
   Base E ops nt df tm₀ C₀ N₀ w₀ (ovr c.U V) (fun i=>listed.getD i false) c.σ C w a->wpAnyIn (Cy ro) n E.P .any ops Q fuel listed a w
 |0,listed,c,C,w,a,hc,hs,ht,hes,iv=>by
  have bs:=Ws ht;refine⟨?_,hQ c hc _ C w a hes bs iv⟩;rw[List.eq_nil_iff_forall_not_mem];intro j hj;obtain⟨h1,o,ho,_⟩:=mem_ready.1 hj
  grind
 |fuel+1,listed,c,C,w,a,hc,hs,ht,hes,iv=>by
  refine⟨fun h0=>hQ c hc _ C w a hes (Aep pl.edges hs h0) iv,fun j hj=>?_⟩
  obtain⟨h1,o,ho,bs⟩:=mem_ready.1 hj;have hlt:=(bc_.1 ho).1;have hL:listed.getD j false=false:=gr
  have hr:∀i,((Region.before ops).getD j 0).testBit i=true->listed.getD i false=true:=fun i hi=>by
   obtain⟨e,he,hb,h⟩:=Xu ho hi;have hon:=bs e he hb
   rcases h with rfl|h
   ·grind
   ·exact iv.closed _ hon i h
  have hok:=At3 (es:=es) (D:=c.D) iv.closed hes hL hr
  have hjD:j∉c.D:=fun hh=>by
   have:=(hes j (pl.sub c hc j hh)).2 hh
   grind
  have ir:(fun i=>(listed.setIfInBounds j true).getD i false)=fun i=>listed.getD i false||i==j:=funext fun i=>Un hs hlt i
  have htodo:Qa (fun i=>listed.getD i false||i==j) ops.size=fuel:=by
   have:=Aba (L:=fun i=>listed.getD i false) hL hlt
   omega
  by_cases hje:j∈es
  ·obtain⟨v,σ',c',k1,k2,k3,k4⟩:=pl.eff c hc j o ho hje hjD hok;refine iv.step hR pl.slots ho hL hr (pl.dst j o ho) (pl.get j Om) (pl.seen c hc j hlt hjD hok) k1 fun C' w' a' iv'=>?_
   obtain⟨C'',iv''⟩:=iv'.conv k4
   refine Abb hR pl hQ fuel _ c' C'' w' a' k2 (by simp[hs]) gr (fun e he=>?_) gr
   rw[Un hs hlt,bk_,hes e he,k3 e he,beq_iff_eq]
  ·refine iv.step hR pl.slots ho hL hr (pl.dst j o ho) (pl.get j Om) (pl.seen c hc j hlt hjD hok) (pl.calm c hc j o ho hje hok) fun C' w' a' iv'=>?_
   refine Abb hR pl hQ fuel _ c C' w' a' hc (by simp[hs]) gr (fun e he=>?_) (by
    rw[ir];refine iv'.congr fun i _=>?_
    by_cases hij:i=j
    ·rw[if_pos hij,hij,pl.ov c hc j hjD]
    grind)
   rw[Un hs hlt,bk_,hes e he,beq_iff_eq]
   grind
theorem Xy{es T nds s s' id}(hm:E.P.follows .mixedOrders=true)(hR:Bk E Rr)(st:SSt E C w s a)(pl:Plan E ops Rr s.nt s.tm es V T nds)
  (h0:(⟨[],s.sto,[]⟩:Nd)∈nds)(hf:∀c∈nds,(∀e∈es,e∈c.D)->(∀k,ovr c.U V k=V k)/\c.σ=s'.sto)(ht:s'.tm=T ops.size)(hn:s'.nt=s.nt)(hdf:s'.df=s.df)(il:∀e∈es,e<ops.size){ro n}:
  (Code.region id ops true).wpIn (Cy ro) n E.P (Aej E C (nx s.sto) w [(.normal,s')]) a w:=by
 refine wpIn_region_any hm ?_;obtain⟨t1,t2⟩:=st.sim.same (w':={ w with drawn:=w.drawn+1 }) nl (fun _ _=>rfl) ⟨rfl,rfl⟩
 have cz:∀i,(Array.replicate ops.size false).getD i false=false:=fun i=>by
  rw[bo_,Array.getElem?_replicate];grind
 refine Abb (C₀:=C) (N₀:=nx s.sto) (w₀:=w) (df:=s.df) hR pl (fun c hc L C' w' a' hes bs iv=>?_) ops.size _ ⟨[],s.sto,[]⟩ C _ a h0 (by simp) (Ri cz) (fun e _=>?_) ?_
 ·obtain⟨q1,q2⟩:=hf c hc fun e he=>(hes e he).1 (bs e (il e he))
  refine⟨(.normal,s'),ev_ _,C',rfl,?_,by rw[←q2];exact iv.ext⟩
  refine⟨by rw[←q2];exact iv.sim,by rw[←q2];exact iv.glob,fun t x hx=>?_,by rw[hn];exact iv.size,by rw[hdf,←q2];exact iv.dfs⟩
  rw[←q2];refine iv.slots t x ?_;rw[←hx,ht,pl.get ops.size nl,Nk (U':=V) fun i _ _ _=>q1 i]
  exact Hw fun i hi _=>bs i hi
 ·grind
 ·refine⟨fun j hj=>?_,t1,st.glob.ext t2,fun t x hx=>?_,st.size,st.dfs.ext t2,t2⟩
  ·grind
  ·refine R.ext t2 _ _ (st.tmps t x ?_);rw[←hx,He (k:=0) (aq_ _) fun i _ _ _=>cz i];rfl
end
section
variable {E:Env}{Rr:Rec}{σ τ:Sto}{tm:Tr AV}
theorem Qb{t:Nat}{x y v σ'}(h:opA E (.makeSlice t x y) Rr tm σ=some (v,σ')):
  ∃sz l c A,v=.sr (nx σ) 0 sz l c/\σ'=σ.new (.cells A)/\∀τ,opA E (.makeSlice t x y) Rr tm τ=some (.sr (nx τ) 0 sz l c,τ.new (.cells A)):=by
 simp only[opA,Aw]at h⊢
 repeat' split at h
 all_goals try (cases h;done)
 all_goals
  unfold Nz at h⊢
  split at h
  ·rename_i l c hl hc
   cases hb:(Nat.ble l c&&Nat.ble (c*(_+1)) sizeLim)with
   |false=>rw[hb]at h;cases h
   |true=>rw[hb]at h;cases h;exact⟨_,_,_,_,rfl,rfl,fun τ=>by simp only[hb,cond_true]⟩
  ·cases h
def Da(C:Ctx)(n a b:Nat):Ctx:={ C with loc:=fun x=>if x=n+2 then C.loc a else if x=n+3 then C.loc b else if x=n∨x=n+1 then none else C.loc x }
theorem Conv.rename{A B a b U V ρ}(hab:(a=nx σ/\b=nx σ+1)∨(a=nx σ+1/\b=nx σ))(hn:nx τ=nx σ+2)(hr:nx ρ=nx σ+4)
  (ha:τ.get a=some (.cells A))(hb:τ.get b=some (.cells B))
  (hg:∀x,ρ.get x=if x=nx σ+3 then some (.cells B)else if x=nx σ+2 then some (.cells A)else if x=nx σ∨x=nx σ+1 then none else τ.get x)
  (hU:∀x,U x=V x∨(∃sz l c,U x=.sr a 0 sz l c/\V x=.sr (nx σ+2) 0 sz l c)∨(∃sz l c,U x=.sr b 0 sz l c/\V x=.sr (nx σ+3) 0 sz l c)):Conv E U τ V ρ:=by
 intro C w h
 have l2:(Da C (nx σ) a b).loc (nx σ+2)=C.loc a:=by simp[Da]
 have l3:(Da C (nx σ) a b).loc (nx σ+3)=C.loc b:=by simp[Da]
 have l0:∀x,x=nx σ∨x=nx σ+1->(Da C (nx σ) a b).loc x=none:=fun x hx=>by
  simp only[Da];rw[if_neg Om,if_neg Om,if_pos hx]
 have lo:∀x,x≠nx σ+2->x≠nx σ+3->¬(x=nx σ∨x=nx σ+1)->(Da C (nx σ) a b).loc x=C.loc x:=fun x h1 h2 h3=>by
  simp only[Da];rw[if_neg h1,if_neg h2,if_neg h3]
 have back:∀x p,(Da C (nx σ) a b).loc x=some p->∃y,C.loc y=some p:=fun x p hx=>by
  by_cases h1:x=nx σ+2
  ·subst h1;rw[l2]at hx;exact⟨a,hx⟩
  ·by_cases h2:x=nx σ+3
   ·subst h2;rw[l3]at hx;exact⟨b,hx⟩
   ·by_cases h3:x=nx σ∨x=nx σ+1
    ·rw[l0 x h3]at hx;cases hx
    ·rw[lo x h1 h2 h3]at hx;exact⟨x,hx⟩
 have mw:∀x p,nx τ<=x->C.loc x=some p->False:=fun x p hx hl=>by
  obtain⟨O,h1,_⟩:=h.dom x p hl;have:=h.bound x O h1;omega
 have e:Ext C (nx τ) w (Da C (nx σ) a b) (nx ρ) w:=⟨by omega,nl,
  fun q _ ho=>⟨fun hh=>hh.elim (fun hr=>ho (.inl hr)) fun⟨x,o,hx⟩=>by
   obtain⟨y,hy⟩:=back x _ hx;exact ho (.inr ⟨y,o,hy⟩),rfl⟩,
  fun x hx p hp=>by
   by_cases h3:x=nx σ∨x=nx σ+1
   ·rw[l0 x h3]at hp;cases hp
   ·rw[lo x Om Om h3]at hp;exact hp,
  fun _ _=>rfl,fun _ _=>rfl,fun _ _ _ _ _=>rfl,⟨rfl,fun _ _=>rfl⟩,rfl,rfl⟩
 have cells:∀y D,τ.get y=some (.cells D)->∀x,(Da C (nx σ) a b).loc x=C.loc y->OR E.P (Da C (nx σ) a b) w ρ x (.cells D):=fun y D hy x hx=>by
  obtain⟨c,o,cs,T,h1,h2,h3⟩:=h.obj y _ hy
  exact⟨c,o,cs,T,by rw[hx];exact h1,h2,gg_ e c rfl D o h3⟩
 refine⟨Da C (nx σ) a b,⟨fun x X hx=>?_,fun x X hx=>?_,fun x p hp=>?_,fun x y c o o' hx hy=>?_,fun x c o hx=>?_,h.rlt,fun x c o hx hr'=>?_⟩,e,fun i x hx=>?_⟩
 ·rw[hg]at hx
  by_cases h1:x=nx σ+3
  ·rw[if_pos h1]at hx;cases hx;subst h1;exact cells b B hb _ l3
  ·rw[if_neg h1]at hx
   by_cases h2:x=nx σ+2
   ·rw[if_pos h2]at hx;cases hx;subst h2;exact cells a A ha _ l2
   ·rw[if_neg h2]at hx
    by_cases h3:x=nx σ∨x=nx σ+1
    ·rw[if_pos h3]at hx;cases hx
    ·rw[if_neg h3]at hx;refine(h.obj x X hx).ext e (h.bound x X hx) (lo x h2 h1 h3) (fun _ _ _=>rfl) fun m hm kt es' v' hg'=>?_
     rw[hg,if_neg Om,if_neg Om]at hg'
     by_cases h4:m=nx σ∨m=nx σ+1
     ·rw[if_pos h4]at hg';cases hg'
     ·rw[if_neg h4]at hg';exact⟨kt,es',v',hg',nl,fun _=>⟨lo m Om Om h4,fun _ _ _=>rfl⟩⟩
 ·rw[hg]at hx
  by_cases h1:x=nx σ+3
  ·omega
  ·rw[if_neg h1]at hx
   by_cases h2:x=nx σ+2
   ·omega
   ·rw[if_neg h2]at hx
    by_cases h3:x=nx σ∨x=nx σ+1
    ·rw[if_pos h3]at hx;cases hx
    ·rw[if_neg h3]at hx;have:=h.bound x X hx;omega
 ·by_cases h1:x=nx σ+3
  ·exact⟨.cells B,by rw[hg,if_pos h1],rfl⟩
  ·by_cases h2:x=nx σ+2
   ·exact⟨.cells A,by rw[hg,if_neg h1,if_pos h2],rfl⟩
   ·by_cases h3:x=nx σ∨x=nx σ+1
    ·rw[l0 x h3]at hp;cases hp
    ·rw[lo x h2 h1 h3]at hp;obtain⟨O,k1,k2⟩:=h.dom x p hp
     exact⟨O,by rw[hg,if_neg h1,if_neg h2,if_neg h3];exact k1,k2⟩
 ·have key:∀x p,(Da C (nx σ) a b).loc x=some p->(x=nx σ+2/\C.loc a=some p)∨(x=nx σ+3/\C.loc b=some p)∨(C.loc x=some p/\x<nx σ):=fun x p hx=>by
   by_cases h1:x=nx σ+2
   ·subst h1;rw[l2]at hx;exact .inl ⟨rfl,hx⟩
   ·by_cases h2:x=nx σ+3
    ·subst h2;rw[l3]at hx;exact .inr (.inl ⟨rfl,hx⟩)
    ·by_cases h3:x=nx σ∨x=nx σ+1
     ·rw[l0 x h3]at hx;cases hx
     ·rw[lo x h1 h2 h3]at hx;refine .inr (.inr ⟨hx,?_⟩)
      rcases Nat.lt_or_ge x (nx τ)with hlt|hge
      ·omega
      ·exact(mw x p hge hx).elim
  rcases key x _ hx with⟨e1,k1⟩|⟨e1,k1⟩|⟨k1,e1⟩<;>rcases key y _ hy with⟨e2,k2⟩|⟨e2,k2⟩|⟨k2,e2⟩<;>have:=h.inj _ _ _ _ _ k1 k2<;>omega
 ·obtain⟨y,hy⟩:=back x _ hx;exact h.lt y c o hy
 ·obtain⟨y,hy⟩:=back x _ hx;exact h.rdis y c o hy hr'
 ·rcases hU i with h1|⟨sz,l,c,h1,h2⟩|⟨sz,l,c,h1,h2⟩
  ·rw[←h1];exact R.ext e _ _ hx
  ·rw[h1]at hx;rw[h2];unfold R at hx⊢;obtain⟨ad,k,q1,q2,q3,q4,q5⟩:=hx
   exact⟨ad,k,q1,by omega,q3,q4,fun c o hc=>q5 c o (by rw[←l2];exact hc)⟩
  ·rw[h1]at hx;rw[h2];unfold R at hx⊢;obtain⟨ad,k,q1,q2,q3,q4,q5⟩:=hx
   exact⟨ad,k,q1,by omega,q3,q4,fun c o hc=>q5 c o (by rw[←l3];exact hc)⟩
theorem Tr.put_mkL{α}{f k:Nat}{x:Option α}{v}{l r:Tr α}:Tr.mkL v l r=.n v l r:=by cases l<;>rfl
theorem Tr.put_mkR{α v}{l r:Tr α}:Tr.mkR v l r=.n v l r:=by cases r<;>rfl
theorem Tr.put_comm{α}:∀(f g:Nat) (t:Tr α) (a b:Nat) (x y:Option α),a≠b->a<f->b<g->(t.put f a x).put g b y=(t.put g b y).put f a x
 |0,_,_,_,_,_,_,_,h,_=>by omega
 |_+1,0,_,_,_,_,_,_,_,h=>by omega
 |f+1,g+1,t,a,b,x,y,hne,ha,hb=>by
  have mz:∀{c d:Nat},c+1<d+1->c / 2<d:=fun h=>by omega
  cases a with
  |zero=>
   cases b with
   |zero=>exact absurd rfl hne
   |succ b=>
    cases hb2:Nat.beq (b%2) 0<;>cases t<;>simp only[Tr.put,hb2,cond_true,cond_false,Tr.put_mkL (f:=0) (k:=0) (x:=none),Tr.put_mkR]
  |succ a=>
   cases b with
   |zero=>
    cases ha2:Nat.beq (a%2) 0<;>cases t<;>simp only[Tr.put,ha2,cond_true,cond_false,Tr.put_mkL (f:=0) (k:=0) (x:=none),Tr.put_mkR]
   |succ b=>
    have hd:Nat.beq (a%2) 0=Nat.beq (b%2) 0->a / 2≠b / 2:=fun h he=>by
     have h1:a%2=0↔b%2=0:=⟨fun q=>ac_ (by rw[←h,q];rfl),fun q=>ac_ (by rw[h,q];rfl)⟩
     omega
    cases ha2:Nat.beq (a%2) 0<;>cases hb2:Nat.beq (b%2) 0<;>cases t<;>simp only[Tr.put,ha2,hb2,cond_true,cond_false,Tr.put_mkL (f:=0) (k:=0) (x:=none),Tr.put_mkR]
    all_goals try rfl
    all_goals rw[Tr.put_comm f g _ _ _ x y (hd (by rw[ha2,hb2])) (mz ha) (mz hb)]
theorem Sto.set_comm{a b x y}(h:a≠b):(σ.set a x).set b y=(σ.set b y).set a x:=by
 cases σ;simp only[Sto.set,Ef];rw[Tr.put_comm _ _ _ _ _ _ _ h (bl_ _) (bl_ _)]
theorem Abc{t:Nat}{x y v σ' a off}(hx:opd E tm x=.pr a off)(h:opA E (.store t x y) Rr tm σ=some (v,σ')):
  v=An/\∃vs D,σ.get a=some (.cells vs)/\σ'=σ.set a (.cells D)/\∀τ,τ.get a=some (.cells vs)->opA E (.store t x y) Rr tm τ=some (An,τ.set a (.cells D)):=by
 simp only[opA,Aw]at h⊢
 split at h
 ·rename_i ti hti
  rw[hx]at h;unfold Wc at h
  split at h
  ·rename_i a' off' l hp hl
   cases hp
   split at h
   ·rename_i vs hvs
    split at h
    ·rename_i D hD
     cases h
     have hg:σ.get a=some (.cells vs):=by
      unfold Sto.cells at hvs
      split at hvs
      ·rename_i us hus;cases hvs;exact hus
      ·cases hvs
     refine⟨rfl,vs,D,hg,rfl,fun τ hτ=>?_⟩
     rw[hx];unfold Wc;simp only[hl,Sto.cells,hτ,hD]
    ·cases h
   ·cases h
  ·cases h
 ·cases h
end
end Go.AM
