/- A part of the proof; shortened by program. -/
import Derived.Test.YtmkaboegdoadhaaGreatDoorP05
set_option maxRecDepth 100000
set_option maxHeartbeats 4000000
set_option linter.all false
namespace Go.AM
open Go
section
variable {E:aZ}{ops:List Oper}{Rr:bP}{nt:Nat}
def oR(E:aZ)(G:List Oper)(a:bP)(o:Oper)(n:Tr I)(J:F)(v:I)(q:F):Prop:=
 (Bn G o n=some true/\bB E o.op a n J=some (v,q))\/(Bn G o n=some false/\v=An/\q=J)
def cnt(E:aZ):List Oper->Nat->Nat
 |[],_=>0
 |_::_,0=>0
 |o::r,k+1=>(if B5 (Bc E o.op)=true then 1 else 0)+cnt E r k
inductive Lex (E:aZ)(ops:List Oper)(Rr:bP)(nt:Nat):List Oper->Tr I->F->List (Tr I×I)->List F->Tr I->F->Prop
 |nil {tm J}:Lex E ops Rr nt [] tm J [] [] tm J
 |eff {o r tm J v J₁ tm₁ log eps tm' J'}:B5 (Bc E o.op)=true->oR E ops Rr o tm J v J₁->Ka o.dst tm nt v=some tm₁->Lex E ops Rr nt r tm₁ J₁ log eps tm' J'->
   Lex E ops Rr nt (o::r) tm J ((tm,v)::log) (J₁::eps) tm' J'
 |calm {o r tm J v J₁ tm₁ log eps tm' J'}:B5 (Bc E o.op)=false->oR E ops Rr o tm J v J₁->Ka o.dst tm nt v=some tm₁->Lex E ops Rr nt r tm₁ J log eps tm' J'->
   Lex E ops Rr nt (o::r) tm J ((tm,v)::log) eps tm' J'
theorem Lz:∀{r:List Oper} {d c:DS},T9 E ops Rr r d=some c->∃g e,Lex E ops Rr d.s.nt r d.s.tm d.s.sto g e c.s.tm c.s.sto/\c.log.reverse=d.log.reverse++g/\c.eps.reverse=d.eps.reverse++e/\c.s.nt=d.s.nt/\c.s.df=d.s.df
 |[],d,c,h=>by
  simp only[T9,bH]at h;subst h
  exact⟨[],[],.nil,by simp,by simp,rfl,rfl⟩
 |o::r,d,c,h=>by
  simp only[T9]at h
  split at h
  ·rename_i n a
   obtain⟨g,e,i,j,k,l,m⟩:=Lz h;unfold Rc at a
   split at a
   ·rename_i H
    split at a
    ·rename_i v J p
     split at a
     ·rename_i q b
      split at a
      ·rename_i f
       cases a
       exact⟨_,_,.eff f (.inl ⟨H,p⟩) b i,by rw[j];simp,by rw[k];simp,l,m⟩
      ·rename_i f
       cases a
       exact⟨_,_,.calm f (.inl ⟨H,p⟩) b i,by rw[j];simp,k,l,m⟩
     ·cases a
    ·cases a
   ·rename_i H
    split at a
    ·rename_i q b
     split at a
     ·rename_i f
      cases a
      exact⟨_,_,.eff f (.inr ⟨H,rfl,rfl⟩) b i,by rw[j];simp,by rw[k];simp,l,m⟩
     ·rename_i f
      cases a
      exact⟨_,_,.calm f (.inr ⟨H,rfl,rfl⟩) b i,by rw[j];simp,k,l,m⟩
    ·cases a
   ·cases a
  ·cases h
theorem Wq{r l m J q n c}(h:Lex E ops Rr nt r l J n c m q):
  n.length=r.length/\c.length=cnt E r r.length/\(n.map (·.1)++[m])[0]? =some l/\(J::c)[c.length]? =some q/\
  ∀(k:Nat) (o:Oper),r[k]? =some o->∃t v b e a,n[k]? =some (t,v)/\(n.map (·.1)++[m])[k+1]? =some b/\(J::c)[cnt E r k]? =some e/\Ka o.dst t nt v=some b/\oR E ops Rr o t e v a/\
   (B5 (Bc E o.op)=true->(J::c)[cnt E r k+1]? =some a):=by
 induction h with
 |nil=>exact⟨rfl,rfl,rfl,rfl,λk o h=>by simp at h⟩
 |@eff o r l J v a d n c m q g G C T R=>
  obtain⟨K,L,N,P,Q⟩:=R
  refine⟨by simp[K],by simp[cnt,g,L];omega,rfl,by simpa using P,λk S i=>?_⟩
  cases k with
  |zero=>
   simp at i;subst i
   exact⟨l,v,d,J,a,rfl,by simpa using N,rfl,C,G,λ_=>by simp[cnt]⟩
  |succ k=>
   obtain⟨t,u,b,e,f,p,s,w,x,y,B⟩:=Q k S (by simpa using i)
   refine⟨t,u,b,e,f,by simpa using p,by simpa using s,?_,x,y,λj=>?_⟩
   ·simp only[cnt,g,if_true];rw[yg,rE];exact w
   ·simp only[cnt,g,if_true];rw[show 1+cnt E r k+1=(cnt E r k+1)+1 by omega,rE];exact B j
 |@calm o r l J v a d n c m q g G C T R=>
  obtain⟨K,L,N,P,Q⟩:=R
  refine⟨by simp[K],by simp[cnt,g,L],rfl,P,λk S i=>?_⟩
  cases k with
  |zero=>
   simp at i;subst i
   exact⟨l,v,d,J,a,rfl,by simpa using N,rfl,C,G,λj=>by rw[g]at j;cases j⟩
  |succ k=>
   obtain⟨t,u,b,e,f,p,s,w,x,y,B⟩:=Q k S (by simpa using i)
   refine⟨t,u,b,e,f,by simpa using p,by simpa using s,?_,x,y,λj=>?_⟩
   ·simp only[cnt,g,fY,if_false,dE];exact w
   ·simp only[cnt,g,fY,if_false,dE];exact B j
end
section
variable (ops:Array Oper)(V:Nat->I)(tm₀:Tr I)
def B9(L:Nat->Bool):Nat->Nat->Option I
 |0,t=>tm₀.get t
 |i+1,t=>if L i=true/\(ops[i]?).bind (·.dst)=some t then some (V i)else B9 L i t
variable {ops V tm₀}
theorem Hw{L b}{t:Nat}:∀{k:Nat},(∀i,i<k->(ops[i]?).bind (·.dst)=some t->L i=b i)->B9 ops V tm₀ L k t=B9 ops V tm₀ b k t
 |0,_=>rfl
 |i+1,h=>by
  simp only[B9];rw[Hw λj a=>h j z]
  grind
theorem He{L}{t k:Nat}:∀{m:Nat},k<=m->(∀i,k<=i->i<m->(ops[i]?).bind (·.dst)=some t->L i=false)->B9 ops V tm₀ L m t=B9 ops V tm₀ L k t
 |0,c,_=>Z
 |m+1,c,h=>by
  by_cases b:k=m+1
  ·rw[b]
  ·simp only[B9];rw[if_neg,He z λi a d=>h i a z]
   grind
theorem Ni{T:Nat->Tr I}{e n}(b:T 0=tm₀)(N:∀k,k<n->∃o,ops[k]? =some o/\Ka o.dst (T k) e (V k)=some (T (k+1))):∀k,k<=n->∀t,(T k).get t=B9 ops V tm₀ (λ_=>true) k t
 |0,_,t=>by rw[b];rfl
 |k+1,i,t=>by
  obtain⟨o,g,a⟩:=N k z;have h:=Ni b N k z t;simp only[B9,g,BH,true_and];cases c:o.dst with
  |none=>
   rw[c]at a;simp only[Ka,bH]at a
   rw[if_neg zS,<-a];exact h
  |some d=>
   rw[c]at a;simp only[Ka,Ef]at a;cases f:Nat.blt d e
   ·grind
   ·simp only[f,cond_true,bH]at a;rw[<-a,jL]
    grind
def EF(G:Array Oper)(j t:Nat):Prop:=∀i,i≠j->(G[i]?).bind (·.dst)=some t->
 (i<j->((Region.before G).getD j 0).testBit i=true)/\(j<i->((Region.before G).getD i 0).testBit j=true)
def xE(G:Array Oper)(L:Nat->Bool):Prop:=∀j,L j=true->∀i,((Region.before G).getD j 0).testBit i=true->L i=true
theorem QV{L j t n}(h:j<=n)(P:xE ops L)(g:L j=false)(w:∀i,((Region.before ops).getD j 0).testBit i=true->L i=true)(d:EF ops j t):
  B9 ops V tm₀ L n t=B9 ops V tm₀ (λ_=>true) j t:=by
 rw[He (k:=j) h λi e f a=>?_]
 ·refine Hw λi b a=>?_
  exact w i ((d i z a).1 b)
 ·by_cases c:i=j
  ·grind
  ·rw[iB];intro b;have:=P i b j ((d i c a).2 z)
   grind
theorem NF{L j t n}(f:j<n)(P:xE ops L)(h:L j=false)(c:EF ops j t)(g:(ops[j]?).bind (·.dst)=some t):
  B9 ops V tm₀ (λi=>L i||i==j) n t=some (V j):=by
 rw[He (k:=j+1) z λi d e b=>?_]
 ·simp only[B9,beq_self_eq_true,Bool.or_true,true_and];rw[if_pos g]
 ·rw[iB];intro a;rw[eO]at a
  rcases a with a|a
  ·have:=P i a j ((c i z b).2 z)
   grind
  grind
theorem NW{L}{j t n:Nat}(g:(ops[j]?).bind (·.dst)≠some t):
  B9 ops V tm₀ (λi=>L i||i==j) n t=B9 ops V tm₀ L n t:=by
 refine Hw λi _ a=>?_
 have:(i==j)=false:=Z
 grind
end
theorem Gc(a:Array Nat)(i):a.toList.getD i 0=a.getD i 0:=by
 rw[List.getD_eq_getElem?_getD,jY,iO]
theorem Od{G}(h:Eu G (Region.before G).toList=true){j}{o:Oper}(n:G[j]? =some o){t:Nat}(m:t∈o.looksAt G\/o.dst=some t):EF G j t:=by
 have f:∀i j x y,i<j->G[i]? =some x->G[j]? =some y->((Region.before G).getD j 0).testBit i=true\/Oper.apart G x y=true:=by
  intro i j x y d e p;unfold Eu at h;rw[b_]at h;have l:=(iK.1 p).1;have a:=h j (jW.2 l);rw[b_]at a;have c:=a i (jW.2 d);rw[eO,Gc]at c
  rcases c with c|c
  ·exact .inl c
  ·simp only[e,p]at c;exact .inr c
 intro i s b;cases e:G[i]? with
 |none=>rw[e]at b;cases b
 |some x=>
  rw[e]at b;simp only[BH]at b;refine⟨λd=>?_,λk=>?_⟩
  ·rcases f i j x o d e n with a|a
   ·exact a
   ·obtain⟨q,g,_⟩:=Oper.apart_spec a
    rcases m with m|m
    ·exact absurd m (q t b)
    ·exact absurd m (g t b)
  ·rcases f j i o x k n e with a|a
   ·exact a
   ·obtain⟨_,g,r⟩:=Oper.apart_spec a
    rcases m with m|m
    ·exact absurd m (r t b)
    ·exact absurd b (g t m)
section
variable {E:aZ}
theorem Ie:∀(l:List Oper) (a:Nat),(∀(k:Nat) (o:Oper),l[k]? =some o->B5 (Bc E o.op)=true->(A8 E l a)[cnt E l k]? =some (a+k))/\
  (∀(m e:Nat),(A8 E l a)[m]? =some e->∃(k:Nat) (o:Oper),e=a+k/\l[k]? =some o/\B5 (Bc E o.op)=true/\cnt E l k=m)
 |[],a=>⟨λk o h=>by simp at h,λm e h=>by simp[A8]at h⟩
 |o::r,a=>by
  obtain⟨p,q⟩:=Ie r (a+1);cases b:B5 (Bc E o.op)
  ·simp only[A8,b];refine⟨λk c f d=>?_,λm e g=>?_⟩
   ·cases k with
    |zero=>simp at f;subst f;rw[b]at d;cases d
    |succ k=>
     simp only[cnt,b,fY,if_false,dE]
     rw[p k c (by simpa using f) d];congr 1;omega
   ·obtain⟨k,c,s,i,j,n⟩:=q m e g
    exact⟨k+1,c,by omega,by simpa using i,j,by simp only[cnt,b,fY,if_false,dE];exact n⟩
  ·simp only[A8,b];refine⟨λk c f d=>?_,λm e g=>?_⟩
   ·cases k with
    |zero=>simp[cnt]
    |succ k=>
     simp only[cnt,b,if_true]
     rw[yg 1,rE,p k c (by simpa using f) d];congr 1;omega
   ·cases m with
    |zero=>simp at g;exact⟨0,o,by omega,rfl,b,rfl⟩
    |succ m=>
     obtain⟨k,c,s,i,j,n⟩:=q m e (by simpa using g)
     exact⟨k+1,c,by omega,by simpa using i,j,by simp only[cnt,b,if_true];omega⟩
theorem Ul{b}:∀{l:List Nat},Mg b l=true->∀(k i j:Nat),l[k]? =some i->l[k+1]? =some j->(b.getD j 0).testBit i=true
 |[],_,k,i,j,h,_=>by simp at h
 |[x],_,k,i,j,_,h=>by simp at h
 |x::y::l,a,k,i,j,c,d=>by
  simp only[Mg,bg]at a;cases k with
  |zero=>simp at c d;subst c d;exact a.1
  |succ k=>exact Ul (l:=y::l) a.2 k i j (by simpa using c) (by simpa using d)
theorem Xv{p}:∀{l:List Nat} {k e:Nat},k<Bl p l->l[k]? =some e->p e=true
 |[],k,e,h,_=>by simp[Bl]at h
 |x::l,k,e,h,a=>by
  simp only[Bl]at h
  split at h
  ·rename_i b
   cases k with
   |zero=>simp at a;subst a;exact b
   |succ k=>exact Xv (l:=l) (k:=k) z (by simpa using a)
  ·omega
theorem Xw{p}:∀{l:List Nat} {m:Nat},m<=l.length->(∀k e,k<m->l[k]? =some e->p e=true)->m<=Bl p l
 |l,0,_,_=>bU _
 |[],m+1,h,_=>by simp at h
 |x::l,m+1,h,a=>by
  simp only[Bl];rw[a 0 x z rfl]
  have:=Xw (l:=l) (m:=m) (by simpa using h) λk e c b=>a (k+1) e z (by simpa using b)
  simp only;omega
theorem Um{p}:∀(l:List Nat),Bl p l<=l.length
 |[]=>by simp[Bl]
 |x::l=>by
  simp only[Bl]
  split
  ·have:=Um (p:=p) l;simp;omega
  ·omega
theorem Ix{b effs}:∀(l:List Oper) (i k:Nat) (o:Oper),l[k]? =some o->(Kb E b effs l i)[k]? =some ⟨Bc E o.op,Bl (λe=>(b.getD (i+k) 0).testBit e) effs,Bl (λe=> !(b.getD e 0).testBit (i+k)) effs⟩
 |[],i,k,o,h=>by simp at h
 |x::l,i,k,o,h=>by
  cases k with
  |zero=>
   simp at h;subst h
   simp only[Kb,Ak];cases a:Bc E x.op<;>rfl
  |succ k=>
   have c:=Ix (b:=b) (effs:=effs) l (i+1) k o (by simpa using h)
   simp only[Kb,Ak]
   cases a:Bc E x.op<;>(simp only[rE];rw[c];simp only[show i+1+k=i+(k+1) by omega])
def ED(E:aZ)(G:List Oper)(o:Oper)(n:Tr I)(v:I)(l:List F):Prop:=Bn G o n=some true->∀J∈l,∃a,Aw E o.op n J=some (v,a)
end
theorem RY{G}(p:Fo G=true){v}(j:v.size=G.size)(h:Region.ready .any G v=[]):∀i,i<G.size->v.getD i false=true:=by
 intro i
 induction i using Nat.strongRecOn with
 |_ i l=>
  intro b;cases k:v.getD i false with
  |true=>rfl
  |false=>
   exfalso
   have c:i∈Region.ready .any G v:=by
    rw[mem_ready]
    have d:G[i]? =some G[i]:=by simp[b]
    refine⟨?_,G[i],d,λe f g=>?_⟩
    ·grind
    ·unfold Fo at p;rw[b_]at p;have a:=p i (jW.2 b);simp only[d]at a;rw[Array.all_eq_true_iff_forall_mem]at a
     grind
   rw[h]at c;cases c
theorem Un{v:Array Bool}{j n}(b:v.size=n)(h:j<n)(i):(v.setIfInBounds j true).getD i false=(v.getD i false||i==j):=by
 by_cases a:i=j
 ·subst a;simp[b,h]
 ·rw[getD_set_ne false (mq a)]
  grind
section
variable {E:aZ}{tm tm':Tr I}{ops:Array Oper}
theorem Uo{o:Oper}(h:∀t∈o.looksAt ops,tm.get t=tm'.get t):Bn ops.toList o tm=Bn ops.toList o tm':=by
 unfold Bn;cases H:o.guard with
 |none=>rfl
 |some e=>
  obtain⟨j,c⟩:=e;simp only;cases g:ops.toList[j]? with
  |none=>rfl
  |some b=>
   simp only;cases f:b.dst with
   |none=>rfl
   |some d=>
    simp only;have a:ops[j]? =some b:=Z
    rw[h d (by simp[Oper.looksAt,H,a,f])]
theorem KP{o:Oper}(h:∀t∈o.looksAt ops,tm.get t=tm'.get t):∀x∈o.op.operands,opd E tm x=opd E tm' x:=by
 intro x a;cases x with
 |tmp t=>
  have:t∈o.looksAt ops:=rQ _ (List.mem_filterMap.2 ⟨.tmp t,Z,rfl⟩);simp only[opd,h t this]
 |_=>rfl
def only(n:Tr I):List Nat->Tr I
 |[]=>.e
 |t::l=>match n.get t with
  |some v=>(only n l).put (t+1) t (some v)
  |none=>only n l
theorem P9{n}:∀{l:List Nat} {t:Nat} {v:I},(only n l).get t=some v->t∈l/\n.get t=some v
 |[],t,v,h=>by simp[only,Tr.get]at h
 |u::l,t,v,h=>by
  simp only[only]at h
  split at h
  ·rename_i x d
   rw[jL]at h
   by_cases c:t=u
   ·grind
   ·rw[if_neg c]at h;obtain⟨a,b⟩:=P9 h;grind
  ·obtain⟨a,b⟩:=P9 h;grind
theorem Rh{n}:∀{l:List Nat} {t:Nat},t∈l->(only n l).get t=n.get t
 |[],t,h=>by simp at h
 |u::l,t,h=>by
  simp only[only]
  by_cases c:t=u
  ·subst c
   split
   ·rename_i x a;rw[jL,if_pos rfl,a]
   ·rename_i a
    cases H:(only n l).get t with
    |none=>exact a.symm
    |some v=>have:=(P9 H).2;rw[a]at this;cases this
  ·have b:t∈l:=Z
   split
   ·rw[jL,if_neg c];exact Rh b
   ·exact Rh b
end
structure rM (E:aZ)(ops:Array Oper)(Rr:bP)(nt:Nat)(tm₀:Tr I)(es:List Nat)(T:Nat->Tr I)(V:Nat->I)(S:List F):Prop where
 slots:Eu ops (Region.before ops).toList=true
 hes:es=A8 E ops.toList 0
 len:S.length=es.length+1
 chain:Mg (Region.before ops).toList es=true
 here:∀(j:Nat) (o:Oper),ops[j]? =some o->∃σk J₁,S[cnt E ops.toList j]? =some σk/\Ka o.dst (T j) nt (V j)=some (T (j+1))/\oR E ops.toList Rr o (T j) σk (V j) J₁/\(B5 (Bc E o.op)=true->S[cnt E ops.toList j+1]? =some J₁)
 get:∀j,j<=ops.size->∀t,(T j).get t=B9 ops V tm₀ (λ_=>true) j t
 steady:∀(j:Nat) (o:Oper),ops[j]? =some o->Bc E o.op=.read->ED E ops.toList o (T j) (V j)
  ((S.drop (Bl (λe=>((Region.before ops).getD j 0).testBit e) es)).take (Bl (λe=> !((Region.before ops).getD e 0).testBit j) es+1-Bl (λe=>((Region.before ops).getD j 0).testBit e) es))
structure kN (E:aZ)(ops:Array Oper)(nt:Nat)(df:List (Nat×List I))(tm₀:Tr I)(es:List Nat)(V:Nat->I)(S:List F)(C₀:aO)(N₀:Nat)(w₀:World)
  (L:Nat->Bool)(m:Nat)(J:F)(C:aO)(w:World)(a:Act):Prop where
 closed:xE ops L
 effs:∀k e,es[k]? =some e->(L e=true↔k<m)
 sto:S[m]? =some J
 sim:aX E.P C w J
 glob:Iw C (O J) w E
 slots:∀t x,B9 ops V tm₀ L ops.size t=some x->R C (O J) w x (a.tmps.getD t undef)
 size:a.tmps.size=nt
 dfs:DR C (O J) w df a.defers
 ext:bC C₀ N₀ w₀ C (O J) w
section
variable {E:aZ}{ops:Array Oper}{Rr:bP}{nt:Nat}{df:List (Nat×List I)}{tm₀:Tr I}{es:List Nat}{T:Nat->Tr I}{V:Nat->I}{S:List F}{C₀ C:aO}{N₀:Nat}{w₀ w:World}{L:Nat->Bool}{m:Nat}{J:F}{a:Act}
theorem kN.next(P:rM E ops Rr nt tm₀ es T V S)(f:kN E ops nt df tm₀ es V S C₀ N₀ w₀ L m J C w a){j o}(B:ops[j]? =some o)(h:L j=false)(hr:∀i,((Region.before ops).getD j 0).testBit i=true->L i=true)
  {c q n s x}(pm:S[c]? =some q)(mg:∀k e,es[k]? =some e->((L e||e==j)=true↔k<c))(X:aX E.P n s q)(p:bC C (O J) w n (O q) s)(hx:R n (O q) s (V j) x):
  kN E ops nt df tm₀ es V S C₀ N₀ w₀ (λi=>L i||i==j) c q n s (a.put o.dst x):=by
 have U:=(iK.1 B).1;obtain⟨_,_,_,K,_,_⟩:=P.here j o B
 have u:∀d,o.dst=some d->d<nt:=λd g=>by
  rw[g]at K;simp only[Ka]at K;cases Q:Nat.blt d nt
  ·grind
  ·exact dB Q
 refine⟨λi l k W=>?_,mg,pm,X,f.glob.ext p,λt y r=>?_,?_,?_,f.ext.trans p⟩
 ·rw[eO]at l⊢
  rcases l with l|l
  ·exact .inl (f.closed i l k W)
  grind
 ·by_cases g:(ops[j]?).bind (·.dst)=some t
  ·have b:o.dst=some t:=Z;rw[NF U f.closed h (Od P.slots B (.inr b)) g]at r;cases r;have:=u t b;rw[b]
   have:t<a.tmps.size:=by rw[f.size];exact this
   simp[Act.put,this];exact hx
  ·rw[NW g]at r;have N:=R.ext p _ _ (f.slots t y r);cases G:o.dst with
   |none=>exact N
   |some d=>
    have v:d≠t:=λhh=>g Z
    simpa[Act.put,xv v]using N
 ·cases G:o.dst<;>simp[Act.put,f.size]
 ·have:(a.put o.dst x).defers=a.defers:=by cases o.dst<;>rfl
  rw[this];exact f.dfs.ext p
end
section
variable {E:aZ}{ops:Array Oper}{Rr:bP}{nt:Nat}{df:List (Nat×List I)}{tm₀:Tr I}{es:List Nat}{T:Nat->Tr I}{V:Nat->I}{S:List F}{C₀ C:aO}{N₀:Nat}{w₀ w:World}{L:Nat->Bool}{m:Nat}{J:F}{a:Act}
theorem Iy{w}(h:Bc E w=.read):∀d J,bB E w Rr d J=Aw E w d J:=by
 intro d J;cases w
 case call c=>
  cases a:c.callee with
  |value f=>cases f<;>simp only[Bc,a]at h<;>first|(cases h;done)|(split at h<;>cases h)
  |builtin b=>simp only[bB,a]
  |invoke r n=>simp[Bc,a]at h
 all_goals rfl
theorem RQ(x:Bk E Rr){w}(h:Bc E w=.pure)(tm):Fk (bB E w Rr tm):=by
 have a:(∀J,bB E w Rr tm J=Aw E w tm J)->Fk (bB E w Rr tm):=λe J i v g=>by
  rw[e]at g;obtain⟨j,k⟩:=Te (tm:=tm) h J i v g
  exact⟨j,λU=>by rw[e];exact k U⟩
 cases w
 case call c=>
  cases d:c.callee with
  |value f=>
   cases f with
   |func f=>
    have l:E.pu f=true:=by
     simp only[Bc,d]at h
     split at h
     ·assumption
     ·cases h
    intro J i v g
    have e:∀U,bB E (.call c) Rr tm U=Rr (.fn f) ([]++opds E tm c.args.toList++[]) U:=λU=>by simp only[bB,d,opd,Rb]
    rw[e]at g;obtain⟨j,k⟩:=x.pu f l _ J i v g
    exact⟨j,λU=>by rw[e];exact k U⟩
   |_=>simp only[Bc,d]at h;cases h
  |builtin b=>exact a λJ=>by simp only[bB,d]
  |invoke r n=>simp only[Bc,d]at h;cases h
 all_goals exact a λ_=>rfl
theorem kN.step (hR : Bk E Rr) (q : rM E ops Rr nt tm₀ es T V S) (f : kN E ops nt df tm₀ es V S C₀ N₀ w₀ L m J C w a) {j o} (g : ops[j]? = some o) (p : L j = false) (u : ∀ i,((Region.before ops).getD j 0).testBit i = true -> L i = true)
  {K Q} (hK : ∀ m' J' C' w' a',kN E ops nt df tm₀ es V S C₀ N₀ w₀ (λi => L i || i == j) m' J' C' w' a' -> K a' w') {ro n} : wpOpIn (Cy ro) n E.P ops Q j K a w := by
 have hj := (iK.1 g).1
 have P : ops.toList[j]? = some o := by simpa using g
 obtain ⟨ae,af,h1,ck,dv,h3⟩ := q.here j o g
 have fe : ∀ t ∈ o.looksAt ops,B9 ops V tm₀ L ops.size t = (T j).get t := λt ht => by
  rw [q.get j z];exact QV z f.closed p u (Od q.slots g (.inl ht))
 have st : cV E C w ⟨only (T j) (o.looksAt ops),nt,df,J⟩ a := ⟨f.sim,f.glob,λt y hy => by
  obtain ⟨k1,k2⟩ := P9 hy
  exact f.slots t y (by rw [fe t k1]; exact k2),f.size,f.dfs⟩
 have r : Bn ops.toList o (only (T j) (o.looksAt ops)) = Bn ops.toList o (T j) := Uo λt ht => Rh ht
 have N : ∀ U,bB E o.op Rr (only (T j) (o.looksAt ops)) U = bB E o.op Rr (T j) U := λU => JI (KP λt ht => Rh ht)
 obtain ⟨e1,e2⟩ := Ie (E := E) ops.toList 0;rw [<- q.hes] at e1 e2

 have il : B5 (Bc E o.op) = true -> J = ae /\ ∀ k e,es[k]? = some e -> ((L e || e == j) = true ↔ k < cnt E ops.toList j + 1) := by
  intro c;have d := e1 j o P c;rw [dE] at d
  have B : m <= cnt E ops.toList j := by
   have := f.effs _ _ d;rw [p] at this
   have h0 : ¬ (cnt E ops.toList j < m) := λhh => by have := this.2 hh; cases this
   omega
  have ah : cnt E ops.toList j <= m := by
   rcases oL (cnt E ops.toList j) with h0 | h0
   ·omega
   ·have G := (bQ.1 d).1;have W : es[cnt E ops.toList j - 1]? = some es[cnt E ops.toList j - 1] := fF z
    have hb := Ul q.chain _ _ _ W (by rw [show cnt E ops.toList j - 1 + 1 = cnt E ops.toList j by omega]; exact d)
    rw [Gc] at hb;have := (f.effs _ _ W).1 (u _ hb);omega
  have hm : m = cnt E ops.toList j := by omega
  refine ⟨by have := f.sto; rw [hm,h1] at this; cases this; rfl,λk e l => ?_⟩
  obtain ⟨k',o',q1,v,q3,q4⟩ := e2 k e l;rw [eO,f.effs k e l,beq_iff_eq]
  constructor
  ·rintro (h | h)
   ·omega
   ·have : k' = j := by omega
    subst this; omega
  ·intro h
   by_cases a8 : k = cnt E ops.toList j
   ·subst a8; rw [d] at l; cases l; exact .inr rfl
   ·exact .inl z
 have cy : B5 (Bc E o.op) = false -> ∀ k e,es[k]? = some e -> ((L e || e == j) = true ↔ k < m) := by
  intro c k e l;obtain ⟨k',o',q1,v,q3,q4⟩ := e2 k e l
  have a9 : (e == j) = false := by
   rw [beq_eq_false_iff_ne]; intro hh
   have : k' = j := by omega
   subst this; rw [P] at v; cases v; rw [q3] at c; cases c
  rw [a9,zT]; exact f.effs k e l
 unfold wpOpIn;simp only [g]
 rcases dv with ⟨H,hv⟩ | ⟨H,hv,ac⟩
 ·rw [<- r] at H;have hw := Dp (b := true) st.tmps H;rw [if_pos hw];cases c : B5 (Bc E o.op) with
  | true =>
   obtain ⟨rfl,v⟩ := il c
   exact Rg hR st (by rw [N]; exact hv) λC' w' x k1 k2 k3 => hK _ _ _ _ _ (f.next q g p u (h3 c) v k1 k2 k3)
  | false =>
   have mj : bB E o.op Rr (T j) J = some (V j,J) := by
    cases d : Bc E o.op with
    | eff => rw [d] at c; cases c
    | pure => exact (RQ hR d _ _ _ _ hv).2 J
    | read =>
     rw [r] at H;have aa := q.steady j o g d H
     have mm : m <= es.length := by have := (bQ.1 f.sto).1; rw [q.len] at this; omega
     have aj : Bl (λe => ((Region.before ops).getD j 0).testBit e) es <= m := by
      rcases Nat.lt_or_ge m (Bl (λe => ((Region.before ops).getD j 0).testBit e) es) with h | h
      ·exfalso
       have G : m < es.length := cC h (Um es);have W : es[m]? = some es[m] := fF G;have := (f.effs _ _ W).1 (u _ (Xv h W));omega
      ·exact h
     have ai : m <= Bl (λe => !((Region.before ops).getD e 0).testBit j) es := by
      refine Xw mm λk e l a7 => ?_
      have B := (f.effs k e a7).2 l;cases hb : ((Region.before ops).getD e 0).testBit j with
      | false => rfl
      | true => have := f.closed e B j hb; rw [p] at this; cases this
     have fg : J ∈ (S.drop (Bl (λe => ((Region.before ops).getD j 0).testBit e) es)).take (Bl (λe => !((Region.before ops).getD e 0).testBit j) es + 1 - Bl (λe => ((Region.before ops).getD j 0).testBit e) es) := by
      refine bA (i := m - Bl (λe => ((Region.before ops).getD j 0).testBit e) es) ?_
      rw [tJ,if_pos z,g_,show Bl (λe => ((Region.before ops).getD j 0).testBit e) es + (m - Bl (λe => ((Region.before ops).getD j 0).testBit e) es) = m by omega]
      exact f.sto
     obtain ⟨ag,X⟩ := aa J fg;have := S6 d X;subst this; rw [Iy d]; exact X
   exact Rg (s := ⟨only (T j) (o.looksAt ops),nt,df,J⟩) hR st (by rw [N]; exact mj) λC' w' x k1 k2 k3 => hK _ _ _ _ _ (f.next q g p u f.sto (cy c) k1 k2 k3)
 ·rw [<- r] at H;have hw := Dp (b := false) st.tmps H
  rw [if_neg (by rw [hw]; simp)]
  refine ⟨λ_ _ => trivial,?_⟩
  have hx : R C (O J) w (V j) undef := by rw [hv]; exact P8
  cases c : B5 (Bc E o.op) with
  | true =>
   obtain ⟨rfl,v⟩ := il c
   exact hK _ _ _ _ _ (f.next q g p u (by rw [h3 c,ac]) v f.sim (dJ _ _ _) hx)
  | false => exact hK _ _ _ _ _ (f.next q g p u f.sto (cy c) f.sim (dJ _ _ _) hx)
end
def Qa(L:Nat->Bool):Nat->Nat
 |0=>0
 |i+1=>(if L i=true then 0 else 1)+Qa L i
theorem Aes{L L'}:∀{n:Nat},(∀i,i<n->L i=L' i)->Qa L n=Qa L' n
 |0,_=>rfl
 |n+1,h=>by
  simp only[Qa];rw[h n z,Aes (L:=L) (L':=L') (n:=n) λi a=>h i z]
theorem Aba{L j}(a:L j=false):∀{n:Nat},j<n->Qa (λi=>L i||i==j) n+1=Qa L n
 |0,h=>by omega
 |n+1,h=>by
  by_cases b:j=n
  ·subst b
   have:Qa (λi=>L i||i==j) j=Qa L j:=Aes λi c=>by
    have:(i==j)=false:=by rw[beq_eq_false_iff_ne];omega
    rw[this,zT]
   simp[Qa,a,this];omega
  ·have d:=Aba (n:=n) a z
   have:(n==j)=false:=by rw[beq_eq_false_iff_ne];omega
   simp only[Qa,this,zT];omega
theorem Ws{L}:∀{n:Nat},Qa L n=0->∀i,i<n->L i=true
 |0,_,i,c=>by omega
 |n+1,h,i,c=>by
  simp only[Qa]at h
  by_cases a:L n=true
  ·rw[if_pos a]at h
   by_cases b:i=n
   ·subst b;exact a
   ·exact Ws (n:=n) z i z
  ·rw[if_neg a]at h;omega
section
variable {E:aZ}{ops:Array Oper}{Rr:bP}{nt:Nat}{df:List (Nat×List I)}{tm₀:Tr I}{es:List Nat}{T:Nat->Tr I}{V:Nat->I}{S:List F}{C₀:aO}{N₀:Nat}{w₀:World}
theorem kN.last(q:rM E ops Rr nt tm₀ es T V S){L m J C w a}(f:kN E ops nt df tm₀ es V S C₀ N₀ w₀ L m J C w a)(b:∀i,i<ops.size->L i=true):
  S[es.length]? =some J/\cV E C w ⟨T ops.size,nt,df,J⟩ a:=by
 have l:m=es.length:=by
  have e:=(bQ.1 f.sto).1;rw[q.len]at e
  rcases Nat.lt_or_ge m es.length with h|h
  ·exfalso
   have d:es[m]? =some es[m]:=fF h;obtain⟨_,c⟩:=Ie (E:=E) ops.toList 0;rw[<-q.hes]at c;obtain⟨k,o,p,r,_⟩:=c m _ d;have j:=(bQ.1 r).1
   have:=(f.effs m _ d).1 (b _ (by rw[p,dE];simpa using j))
   omega
  ·omega
 refine⟨l▸f.sto,f.sim,f.glob,λt y n=>f.slots t y ?_,f.size,f.dfs⟩
 rw[<-n,q.get ops.size Y];exact Hw λi g _=>b i g
theorem Wt(x:Bk E Rr)(q:rM E ops Rr nt tm₀ es T V S)(k:Fo ops=true){Q}
  (y:∀(L:Nat->Bool) m J C w a,kN E ops nt df tm₀ es V S C₀ N₀ w₀ L m J C w a->(∀i,i<ops.size->L i=true)->Q .normal a w){ro n}:
  ∀(c:Nat) (b:Array Bool) (m:Nat) (J:F) (C:aO) (w:World) (a:Act),b.size=ops.size->Qa (λi=>b.getD i false) ops.size=c->
   kN E ops nt df tm₀ es V S C₀ N₀ w₀ (λi=>b.getD i false) m J C w a->wpAnyIn (Cy ro) n E.P .any ops Q c b a w
 |0,b,m,J,C,w,a,t,G,r=>by
  have s:=Ws G;refine⟨?_,y _ m J C w a r s⟩;rw[List.eq_nil_iff_forall_not_mem];intro j u;obtain⟨f,o,l,_⟩:=mem_ready.1 u;have d:=(iK.1 l).1;have g:=s j d;simp only[jY]at f g
  rw[IW (by omega:j<b.size)]at f g
  simp only[BT]at f g;rw[f]at g;cases g
 |c+1,b,m,J,C,w,a,t,G,r=>by
  refine⟨λU=>y _ m J C w a r (RY k t U),λj u=>?_⟩
  obtain⟨f,o,l,s⟩:=mem_ready.1 u;have d:=(iK.1 l).1
  have B:b.getD j false=false:=by
   simp only[jY]at f⊢
   rw[IW (by omega:j<b.size)]at f⊢
   exact f
  have hr:∀i,((Region.before ops).getD j 0).testBit i=true->b.getD i false=true:=λi hi=>by
   obtain⟨e,X,W,h⟩:=Xu l hi;have p:=s e X W
   rcases h with rfl|h
   ·exact p
   ·exact r.closed _ p i h
  refine r.step x q l B hr λm' P N w' R v=>?_
  have K:(λi=>(b.setIfInBounds j true).getD i false)=λi=>b.getD i false||i==j:=funext λi=>Un t d i
  refine Wt x q k y c _ m' P N w' R (by simp[t]) ?_ (by rw[K];exact v)
  rw[K];have:=Aba (L:=λi=>b.getD i false) B d
  omega
end
theorem Ri{L}:∀{n:Nat},(∀i,L i=false)->Qa L n=n
 |0,_=>rfl
 |n+1,h=>by simp only[Qa];rw[if_neg (by rw[h n];simp),Ri (n:=n) h];omega
theorem Nj{E}:∀(l:List Oper) (i:Nat),cnt E l l.length=(A8 E l i).length
 |[],i=>rfl
 |o::r,i=>by
  simp only[cZ,cnt,A8];cases a:B5 (Bc E o.op)
  ·simp[Nj r (i+1)]
  ·simp[Nj r (i+1)];omega
theorem xT{E}(hm:E.P.follows .mixedOrders=true){P}(hR:Bk E P){G s d C w a id}(r:cV E C w s a)
  (c1:Eu G (Region.before G).toList=true)(c2:Fo G=true)(c3:Mg (Region.before G).toList (A8 E G.toList 0)=true)(hd:T9 E G.toList P G.toList ⟨s,[s.sto],[]⟩=some d)
  (hb:∀(j:Nat) (o:Oper) (t:Tr I) (v:I),G[j]? =some o->d.log.reverse[j]? =some (t,v)->Bc E o.op=.read->ED E G.toList o t v
   ((d.eps.reverse.drop (Bl (λe=>((Region.before G).getD j 0).testBit e) (A8 E G.toList 0))).take (Bl (λe=> !((Region.before G).getD e 0).testBit j) (A8 E G.toList 0)+1-Bl (λe=>((Region.before G).getD j 0).testBit e) (A8 E G.toList 0)))){ro n}:
  (Code.region id G true).wpIn (Cy ro) n E.P (sW E C (O s.sto) w [(.normal,d.s)]) a w:=by
 obtain⟨c,Q,U,k2,k3,k4,k5⟩:=Lz hd;simp only[rK,fK,d_]at k2 k3;obtain⟨x1,x2,x3,x4,W⟩:=Wq U
 have bl:G.toList.length=G.size:=by simp
 have hT:∀k,k<G.size->∃o,G[k]? =some o/\Ka o.dst (((c.map (·.1)++[d.s.tm])[k]?).getD .e) s.nt (((c[k]?).map (·.2)).getD .any)=some (((c.map (·.1)++[d.s.tm])[k+1]?).getD .e):=by
  intro k hk
  have p:G.toList[k]? =some G[k]:=by simp[hk]
  obtain⟨t,v,h,l,f,g,K,X,N,y5,y6⟩:=W k _ p;have b:=(bQ.1 g).1
  refine⟨G[k],by simp[hk],?_⟩
  rw[kU (by simpa using b),eC,g,K]
  exact N
 have lx:rM E G P s.nt s.tm (A8 E G.toList 0) (λk=>((c.map (·.1)++[d.s.tm])[k]?).getD .e) (λk=>((c[k]?).map (·.2)).getD .any) (s.sto::Q):=by
  refine⟨c1,rfl,by simp only[cZ,x2,Nj G.toList 0],c3,λj o p=>?_,λj y t=>?_,λj o p hc=>?_⟩
  ·obtain⟨t,v,h,l,f,g,K,X,N,y5,y6⟩:=W j o (by simpa using p)
   have b:=(bQ.1 g).1;refine⟨l,f,X,?_,?_,y6⟩
   ·rw[kU (by simpa using b),eC,g,K];exact N
   ·rw[kU (by simpa using b),eC,g];exact y5
  ·exact Ni (n:=G.size) (by rw[x3];rfl) hT j y t
  ·obtain⟨t,v,h,l,f,g,K,X,N,y5,y6⟩:=W j o (by simpa using p)
   have b:=(bQ.1 g).1
   have:=hb j o t v p (by rw[k2];exact g) hc
   rw[k3]at this
   rw[kU (by simpa using b),eC,g]
   exact this
 refine wpIn_region_any hm ?_;obtain⟨t1,B⟩:=r.sim.same (w':={ w with drawn:=w.drawn+1 }) Y zN ⟨rfl,rfl⟩
 have u:∀i,(Array.replicate G.size false).getD i false=false:=λi=>by
  rw[jY,Array.getElem?_replicate];split<;>rfl
 refine Wt (C₀:=C) (N₀:=O s.sto) (w₀:=w) (df:=s.df) hR lx c2 (λL m J C' w' a' iv bs=>?_) G.size _ 0 s.sto C _ a zS (Ri u) ?_
 ·obtain⟨z1,q⟩:=iv.last lx bs
  have T:J=d.s.sto:=by
   rw[<-Nj,<-x2,x4]at z1;cases z1;rfl
  subst T;refine⟨(.normal,d.s),HE _,C',rfl,?_,iv.ext⟩
  have S:((c.map (·.1)++[d.s.tm])[G.size]?).getD .e=d.s.tm:=by
   rw[<-bl,<-x1,zw zS];simp
  simp only[S]at q
  exact⟨q.sim,q.glob,q.tmps,by rw[k4];exact q.size,by rw[k5];exact q.dfs⟩
 ·refine⟨λj y=>?_,λk e _=>?_,rfl,t1,r.glob.ext B,λt x hx=>?_,r.size,r.dfs.ext B,B⟩
  ·rw[u]at y;cases y
  ·rw[u];constructor
   ·intro hh;cases hh
   ·intro hh;omega
  ·refine R.ext B _ _ (r.tmps t x ?_);rw[<-hx,He (k:=0) (bU _) λi _ _ _=>u i];rfl
structure dX (E:aZ)(ops:Array Oper)(nt:Nat)(df:List (Nat×List I))(tm₀:Tr I)(C₀:aO)(N₀:Nat)(w₀:World)
  (aC:Nat->I)(L:Nat->Bool)(J:F)(C:aO)(w:World)(a:Act):Prop where
 closed:xE ops L
 sim:aX E.P C w J
 glob:Iw C (O J) w E
 slots:∀t x,B9 ops aC tm₀ L ops.size t=some x->R C (O J) w x (a.tmps.getD t undef)
 size:a.tmps.size=nt
 dfs:DR C (O J) w df a.defers
 ext:bC C₀ N₀ w₀ C (O J) w
def Conv(E:aZ)(t:Nat->I)(J:F)(k:Nat->I)(q:F):Prop:=
 ∀C w,aX E.P C w J->∃a,aX E.P a w q/\bC C (O J) w a (O q) w/\∀i x,R C (O J) w (t i) x->R a (O q) w (k i) x
theorem Conv.refl{E t k J}(h:∀i,t i=k i):Conv E t J k J:=λC _ a=>⟨C,a,dJ _ _ _,Z⟩
abbrev xS:=@Conv.refl
section
variable {E:aZ}{ops:Array Oper}{Rr:bP}{nt:Nat}{df:List (Nat×List I)}{tm₀:Tr I}{V aC aB:Nat->I}{C₀ C:aO}{N₀:Nat}{w₀ w:World}{L:Nat->Bool}{J J':F}{a:Act}
theorem Nk{t:Nat}:∀{k:Nat},(∀i,i<k->(ops[i]?).bind (·.dst)=some t->L i=true->aC i=aB i)->B9 ops aC tm₀ L k t=B9 ops aB tm₀ L k t
 |0,_=>rfl
 |i+1,h=>by
  simp only[B9];rw[Nk λj a=>h j z]
  grind
theorem Xx{t}:∀(k:Nat),(∃i,B9 ops aC tm₀ L k t=some (aC i)/\B9 ops aB tm₀ L k t=some (aB i))\/(B9 ops aC tm₀ L k t=tm₀.get t/\B9 ops aB tm₀ L k t=tm₀.get t)
 |0=>.inr ⟨rfl,rfl⟩
 |i+1=>by
  simp only[B9]
  by_cases a:L i=true/\(ops[i]?).bind (·.dst)=some t
  ·grind
  ·rw[if_neg a,if_neg a];exact Xx i
theorem dX.conv(h:dX E ops nt df tm₀ C₀ N₀ w₀ aC L J C w a)(P:Conv E aC J aB J'):∃d,dX E ops nt df tm₀ C₀ N₀ w₀ aB L J' d w a:=by
 obtain⟨d,g,b,j⟩:=P C w h.sim;refine⟨d,h.closed,g,h.glob.ext b,λt x c=>?_,h.size,h.dfs.ext b,h.ext.trans b⟩
 rcases Xx (ops:=ops) (aC:=aC) (aB:=aB) (tm₀:=tm₀) (L:=L) (t:=t) ops.size with⟨i,e,f⟩|⟨e,f⟩
 ·rw[f]at c;cases c;exact j i _ (h.slots t _ e)
 ·rw[f,<-e]at c;exact R.ext b _ _ (h.slots t x c)
theorem dX.congr(h:dX E ops nt df tm₀ C₀ N₀ w₀ aC L J C w a)(c:∀i,L i=true->aC i=aB i):dX E ops nt df tm₀ C₀ N₀ w₀ aB L J C w a:=
 ⟨h.closed,h.sim,h.glob,λt x d=>h.slots t x (by rw[Nk λi _ _ b=>c i b];exact d),h.size,h.dfs,h.ext⟩
theorem dX.next(s:Eu ops (Region.before ops).toList=true)(f:dX E ops nt df tm₀ C₀ N₀ w₀ aC L J C w a){j}{o:Oper}(B:ops[j]? =some o)(h:L j=false)(S:∀i,((Region.before ops).getD j 0).testBit i=true->L i=true)
  (N:∀d,o.dst=some d->d<nt){v g l x}(P:aX E.P g l J')(p:bC C (O J) w g (O J') l)(W:R g (O J') l v x):
  dX E ops nt df tm₀ C₀ N₀ w₀ (λi=>if i=j then v else aC i) (λi=>L i||i==j) J' g l (a.put o.dst x):=by
 have G:=(iK.1 B).1;have m:∀i,L i=true->aC i=(if i=j then v else aC i):=Z;refine⟨λi c k K=>?_,P,f.glob.ext p,λt y e=>?_,?_,?_,f.ext.trans p⟩
 ·rw[eO]at c⊢
  rcases c with c|c
  ·exact .inl (f.closed i c k K)
  grind
 ·by_cases n:(ops[j]?).bind (·.dst)=some t
  ·have b:o.dst=some t:=Z;rw[NF G f.closed h (Od s B (.inr b)) n]at e;simp only[if_true]at e;cases e;have:=N t b;rw[b]
   have:t<a.tmps.size:=by rw[f.size];grind
   simp[Act.put,this];exact W
  ·rw[NW n,<-Nk (aC:=aC) λi _ _ c=>m i c]at e
   have u:=R.ext p _ _ (f.slots t y e);cases r:o.dst with
   |none=>exact u
   |some d=>
    have q:d≠t:=λQ=>n Z
    simpa[Act.put,xv q]using u
 ·cases r:o.dst<;>simp[Act.put,f.size]
 ·have:(a.put o.dst x).defers=a.defers:=by cases o.dst<;>rfl
  rw[this];exact f.dfs.ext p
theorem dX.step(X:Bk E Rr)(e:Eu ops (Region.before ops).toList=true)(f:dX E ops nt df tm₀ C₀ N₀ w₀ aC L J C w a){j}{o:Oper}(k:ops[j]? =some o)(h:L j=false)(m:∀i,((Region.before ops).getD j 0).testBit i=true->L i=true)
  (N:∀d,o.dst=some d->d<nt){c}(hT:∀t,c.get t=B9 ops V tm₀ (λ_=>true) j t)(hU:∀i,((Region.before ops).getD j 0).testBit i=true->aC i=V i){v}(u:oR E ops.toList Rr o c J v J')
  {K Q}(G:∀s r B,dX E ops nt df tm₀ C₀ N₀ w₀ (λi=>if i=j then v else aC i) (λi=>L i||i==j) J' s r B->K B r){ro n}:wpOpIn (Cy ro) n E.P ops Q j K a w:=by
 have hj:=(iK.1 k).1
 have fe:∀t∈o.looksAt ops,B9 ops aC tm₀ L ops.size t=c.get t:=λt l=>by
  have W:=Od e k (.inl l);rw[hT,QV z f.closed h m W];exact Nk λi hi hd _=>hU i ((W i z hd).1 hi)
 have q:cV E C w ⟨only c (o.looksAt ops),nt,df,J⟩ a:=⟨f.sim,f.glob,λt y hy=>by
  obtain⟨S,T⟩:=P9 hy;exact f.slots t y Z,f.size,f.dfs⟩
 have g:Bn ops.toList o (only c (o.looksAt ops))=Bn ops.toList o c:=Uo λt l=>Rh l
 have a7:∀U,bB E o.op Rr (only c (o.looksAt ops)) U=bB E o.op Rr c U:=λU=>JI (KP λt l=>Rh l)
 unfold wpOpIn;simp only[k]
 rcases u with⟨H,P⟩|⟨H,P,p⟩
 ·rw[<-g]at H;have R:=Dp (b:=true) q.tmps H;rw[if_pos R];exact Rg X q Z λs r x S T k3=>G _ _ _ (f.next e k h m N S T k3)
 ·rw[<-g]at H;have R:=Dp (b:=false) q.tmps H;rw[if_neg Z];refine⟨λ_ _=>trivial,?_⟩
  subst p
  exact G _ _ _ (f.next e k h m N f.sim (dJ _ _ _) (by rw[P];exact P8))
theorem ZE{es D k}(c:xE ops L)(P:∀e∈es,L e=true↔e∈D)(h:L k=false)(w:∀i,((Region.before ops).getD k 0).testBit i=true->L i=true):Sz (Region.before ops).toList es D k=true:=by
 unfold Sz;rw[b_];intro e b;rw[Gc,Gc];cases d:D.contains e with
 |true=>
  simp only;rw[eQ];rw[iB];intro a;have:=c e ((P e b).2 Z) k a;rw[h]at this;cases this
 |false=>
  simp only;rw[eQ];rw[iB];intro a;have:=(P e b).1 (w e a);rw[<-List.contains_iff_mem,d]at this;cases this
structure xh (E:aZ)(ops:Array Oper)(Rr:bP)(nt:Nat)(tm₀:Tr I)(es:List Nat)(V:Nat->I)(T:Nat->Tr I)(nds:List Nd):Prop where
 slots:Eu ops (Region.before ops).toList=true
 edges:Fo ops=true
 effs:∀(k:Nat) (o:Oper),ops[k]? =some o->(B5 (Bc E o.op)=true↔k∈es)
 get:∀k,k<=ops.size->∀t,(T k).get t=B9 ops V tm₀ (λ_=>true) k t
 dst:∀(k:Nat) (o:Oper),ops[k]? =some o->∀d,o.dst=some d->d<nt
 sub:∀c∈nds,∀k∈c.D,k∈es
 ov:∀c∈nds,∀k,k∉c.D->iI c.aC V k=V k
 seen:∀c∈nds,∀k,k<ops.size->k∉c.D->Sz (Region.before ops).toList es c.D k=true->∀i,((Region.before ops).getD k 0).testBit i=true->iI c.aC V i=V i
 calm:∀c∈nds,∀(k:Nat) (o:Oper),ops[k]? =some o->k∉es->Sz (Region.before ops).toList es c.D k=true->oR E ops.toList Rr o (T k) c.J (V k) c.J
 eff:∀c∈nds,∀(k:Nat) (o:Oper),ops[k]? =some o->k∈es->k∉c.D->Sz (Region.before ops).toList es c.D k=true->
  ∃v J' c',oR E ops.toList Rr o (T k) c.J v J'/\c'∈nds/\(∀e∈es,e∈c'.D↔e∈c.D\/e=k)/\Conv E (λi=>if i=k then v else iI c.aC V i) J' (iI c'.aC V) c'.J
theorem Abb{es T u}(x:Bk E Rr)(b:xh E ops Rr nt tm₀ es V T u){Q}
  (y:∀c∈u,∀(L:Nat->Bool) C w a,(∀e∈es,L e=true↔e∈c.D)->(∀i,i<ops.size->L i=true)->dX E ops nt df tm₀ C₀ N₀ w₀ (iI c.aC V) L c.J C w a->Q .normal a w){ro n}:
  ∀(f:Nat) (d:Array Bool) (c:Nd) (C:aO) (w:World) (a:Act),c∈u->d.size=ops.size->Qa (λi=>d.getD i false) ops.size=f->(∀e∈es,d.getD e false=true↔e∈c.D)->
   dX E ops nt df tm₀ C₀ N₀ w₀ (iI c.aC V) (λi=>d.getD i false) c.J C w a->wpAnyIn (Cy ro) n E.P .any ops Q f d a w
 |0,d,c,C,w,a,l,r,ht,g,s=>by
  have R:=Ws ht;refine⟨?_,y c l _ C w a g R s⟩;rw[List.eq_nil_iff_forall_not_mem];intro j S;obtain⟨h1,o,p,_⟩:=mem_ready.1 S
  grind
 |f+1,d,c,C,w,a,l,r,ht,g,s=>by
  refine⟨λh0=>y c l _ C w a g (RY b.edges r h0) s,λj S=>?_⟩
  obtain⟨h1,o,p,R⟩:=mem_ready.1 S;have k:=(iK.1 p).1;have K:d.getD j false=false:=Z
  have W:∀i,((Region.before ops).getD j 0).testBit i=true->d.getD i false=true:=λi hi=>by
   obtain⟨e,B,hb,h⟩:=Xu p hi;have U:=R e B hb
   rcases h with rfl|h
   ·grind
   ·exact s.closed _ U i h
  have q:=ZE (es:=es) (D:=c.D) s.closed g K W
  have m:j∉c.D:=λhh=>by
   have:=(g j (b.sub c l j hh)).2 hh
   grind
  have ir:(λi=>(d.setIfInBounds j true).getD i false)=λi=>d.getD i false||i==j:=funext λi=>Un r k i
  have X:Qa (λi=>d.getD i false||i==j) ops.size=f:=by
   have:=Aba (L:=λi=>d.getD i false) K k
   omega
  by_cases J:j∈es
  ·obtain⟨v,J',c',k1,k2,k3,k4⟩:=b.eff c l j o p J m q;refine s.step x b.slots p K W (b.dst j o p) (b.get j z) (b.seen c l j k m q) k1 λC' w' P t=>?_
   obtain⟨N,a7⟩:=t.conv k4
   refine Abb x b y f _ c' N w' P k2 (by simp[r]) Z (λe B=>?_) Z
   rw[Un r k,eO,g e B,k3 e B,beq_iff_eq]
  ·refine s.step x b.slots p K W (b.dst j o p) (b.get j z) (b.seen c l j k m q) (b.calm c l j o p J q) λC' w' P t=>?_
   refine Abb x b y f _ c C' w' P l (by simp[r]) Z (λe B=>?_) (by
    rw[ir];refine t.congr λi _=>?_
    by_cases G:i=j
    ·rw[if_pos G,G,b.ov c l j m]
    grind)
   rw[Un r k,eO,g e B,beq_iff_eq]
   grind
theorem Xy{es T nds s s' v}(K:E.P.follows .mixedOrders=true)(B:Bk E Rr)(J:cV E C w s a)(b:xh E ops Rr s.nt s.tm es V T nds)
  (y:(⟨[],s.sto,[]⟩:Nd)∈nds)(N:∀c∈nds,(∀e∈es,e∈c.D)->(∀k,iI c.aC V k=V k)/\c.J=s'.sto)(m:s'.tm=T ops.size)(S:s'.nt=s.nt)(h:s'.df=s.df)(Q:∀e∈es,e<ops.size){W n}:
  (Code.region v ops true).wpIn (Cy W) n E.P (sW E C (O s.sto) w [(.normal,s')]) a w:=by
 refine wpIn_region_any K ?_;obtain⟨X,g⟩:=J.sim.same (w':={ w with drawn:=w.drawn+1 }) Y zN ⟨rfl,rfl⟩
 have q:∀i,(Array.replicate ops.size false).getD i false=false:=λi=>by
  rw[jY,Array.getElem?_replicate];grind
 refine Abb (C₀:=C) (N₀:=O s.sto) (w₀:=w) (df:=s.df) B b (λc G L u w' a' l p d=>?_) ops.size _ ⟨[],s.sto,[]⟩ C _ a y zS (Ri q) (λe _=>?_) ?_
 ·obtain⟨U,f⟩:=N c G λe r=>(l e r).1 (p e (Q e r))
  refine⟨(.normal,s'),HE _,u,rfl,?_,by rw[<-f];exact d.ext⟩
  refine⟨by rw[<-f];exact d.sim,by rw[<-f];exact d.glob,λt x o=>?_,by rw[S];exact d.size,by rw[h,<-f];exact d.dfs⟩
  rw[<-f];refine d.slots t x ?_;rw[<-o,m,b.get ops.size Y,Nk (aB:=V) λi _ _ _=>U i]
  exact Hw λi P _=>p i P
 ·grind
 ·refine⟨λj hj=>?_,X,J.glob.ext g,λt x o=>?_,J.size,J.dfs.ext g,g⟩
  ·grind
  ·refine R.ext g _ _ (J.tmps t x ?_);rw[<-o,He (k:=0) (bU _) λi _ _ _=>q i];rfl
end
section
variable {E:aZ}{Rr:bP}{J U:F}{tm:Tr I}
theorem Qb{t:Nat}{x y:Operand}{v:I}{q:F}(h:bB E (.makeSlice t x y) Rr tm J=some (v,q)):
  ∃d l c b,v=.sr (O J) 0 d l c/\q=J.new (.cells b)/\∀U,bB E (.makeSlice t x y) Rr tm U=some (.sr (O U) 0 d l c,U.new (.cells b)):=by
 simp only[bB,Aw]at h⊢
 repeat' split at h
 all_goals try (cases h;done)
 all_goals
  unfold Nz at h⊢
  split at h
  ·rename_i l c f e
   cases a:(Nat.ble l c&&Nat.ble (c*(_+1)) az)with
   |false=>rw[a]at h;cases h
   |true=>rw[a]at h;cases h;exact⟨_,_,_,_,rfl,rfl,λU=>by simp only[a,cond_true]⟩
  ·cases h
def Da(C:aO)(n a b:Nat):aO:={ C with loc:=λx=>if x=n+2 then C.loc a else if x=n+3 then C.loc b else if x=n\/x=n+1 then none else C.loc x }
def FA(s:Option (Nat×Nat×Option Nat))(a:Nat):I:=match s with|none=>.pr a 0|some (b,l,c)=>.sr a 0 b l c
theorem QE{s:Option (Nat×Nat×Option Nat)}{C i:aO}{N J:Nat}{w:World}{a x:Nat}{v:Value}(h:R C N w (FA s a) v)(d:i.loc x=C.loc a)(S:x<J):R i J w (FA s x) v:=by
 rcases s with _|⟨p,l,c⟩
 ·unfold FA R at h⊢;obtain⟨b,f,j,g⟩:=h
  exact⟨b,f,S,λc o e=>g c o (by rw[<-d];exact e)⟩
 ·unfold FA R at h⊢;obtain⟨b,k,f,j,g,m,n⟩:=h
  exact⟨b,k,f,S,g,m,λc o e=>n c o (by rw[<-d];exact e)⟩
theorem Conv.rename{A B:List I}{a b:Nat}{t Q:Nat->I}{f:F}(ac:(a=O J/\b=O J+1)\/(a=O J+1/\b=O J))(hn:O U=O J+2)(hr:O f=O J+4)
  (ha:U.get a=some (.cells A))(hb:U.get b=some (.cells B))
  (H:∀x,f.get x=if x=O J+3 then some (.cells B)else if x=O J+2 then some (.cells A)else if x=O J\/x=O J+1 then none else U.get x)
  (hU:∀x,t x=Q x\/(∃s,t x=FA s a/\Q x=FA s (O J+2))\/(∃s,t x=FA s b/\Q x=FA s (O J+3))):Conv E t U Q f:=by
 intro C w h
 have W:(Da C (O J) a b).loc (O J+2)=C.loc a:=by simp[Da]
 have l3:(Da C (O J) a b).loc (O J+3)=C.loc b:=by simp[Da]
 have S:∀x,x=O J\/x=O J+1->(Da C (O J) a b).loc x=none:=λx d=>by
  simp only[Da];rw[if_neg z,if_neg z,if_pos d]
 have G:∀x,x≠O J+2->x≠O J+3->¬(x=O J\/x=O J+1)->(Da C (O J) a b).loc x=C.loc x:=λx g j k=>by
  simp only[Da];rw[if_neg g,if_neg j,if_neg k]
 have l:∀x p,(Da C (O J) a b).loc x=some p->∃y,C.loc y=some p:=λx p d=>by
  by_cases g:x=O J+2
  ·subst g;rw[W]at d;exact⟨a,d⟩
  ·by_cases j:x=O J+3
   ·subst j;rw[l3]at d;exact⟨b,d⟩
   ·by_cases k:x=O J\/x=O J+1
    ·rw[S x k]at d;cases d
    ·rw[G x g j k]at d;exact⟨x,d⟩
 have mw:∀x p,O U<=x->C.loc x=some p->False:=λx p d hl=>by
  obtain⟨a7,g,_⟩:=h.dom x p hl;have:=h.bound x a7 g;omega
 have e:bC C (O U) w (Da C (O J) a b) (O f) w:=⟨by omega,Y,
  λq _ ho=>⟨λhh=>hh.elim (λhr=>ho (.inl hr)) λ⟨x,o,d⟩=>by
   obtain⟨y,v⟩:=l x _ d;exact ho (.inr ⟨y,o,v⟩),rfl⟩,
  λx d p u=>by
   by_cases k:x=O J\/x=O J+1
   ·rw[S x k]at u;cases u
   ·rw[G x z z k]at u;exact u,
  λ_ _=>rfl,λ_ _=>rfl,λ_ _ _ _ _=>rfl,⟨rfl,λ_ _=>rfl⟩,rfl,rfl⟩
 have n:∀y P,U.get y=some (.cells P)->∀x,(Da C (O J) a b).loc x=C.loc y->OR E.P (Da C (O J) a b) w f x (.cells P):=λy P v x d=>by
  obtain⟨c,o,cs,T,g,j,k⟩:=h.obj y _ v
  exact⟨c,o,cs,T,by rw[d];exact g,j,Ql e c rfl P o k⟩
 refine⟨Da C (O J) a b,⟨λx X d=>?_,λx X d=>?_,λx p u=>?_,λx y c o o' d v=>?_,λx c o d=>?_,h.rlt,λx c o d aa=>?_⟩,e,λi x d=>?_⟩
 ·rw[H]at d
  by_cases g:x=O J+3
  ·rw[if_pos g]at d;cases d;subst g;exact n b B hb _ l3
  ·rw[if_neg g]at d
   by_cases j:x=O J+2
   ·rw[if_pos j]at d;cases d;subst j;exact n a A ha _ W
   ·rw[if_neg j]at d
    by_cases k:x=O J\/x=O J+1
    ·rw[if_pos k]at d;cases d
    ·rw[if_neg k]at d;refine(h.obj x X d).ext e (h.bound x X d) (G x j g k) (λ_ _ _=>rfl) λm hm kt a8 v' r=>?_
     rw[H,if_neg z,if_neg z]at r
     by_cases h4:m=O J\/m=O J+1
     ·rw[if_pos h4]at r;cases r
     ·rw[if_neg h4]at r;exact⟨kt,a8,v',r,Y,λ_=>⟨G m z z h4,λ_ _ _=>rfl⟩⟩
 ·rw[H]at d
  by_cases g:x=O J+3
  ·omega
  ·rw[if_neg g]at d
   by_cases j:x=O J+2
   ·omega
   ·rw[if_neg j]at d
    by_cases k:x=O J\/x=O J+1
    ·rw[if_pos k]at d;cases d
    ·rw[if_neg k]at d;have:=h.bound x X d;omega
 ·by_cases g:x=O J+3
  ·exact⟨.cells B,by rw[H,if_pos g],rfl⟩
  ·by_cases j:x=O J+2
   ·exact⟨.cells A,by rw[H,if_neg g,if_pos j],rfl⟩
   ·by_cases k:x=O J\/x=O J+1
    ·rw[S x k]at u;cases u
    ·rw[G x j g k]at u;obtain⟨a7,K,L⟩:=h.dom x p u
     exact⟨a7,by rw[H,if_neg g,if_neg j,if_neg k];exact K,L⟩
 ·have N:∀x p,(Da C (O J) a b).loc x=some p->(x=O J+2/\C.loc a=some p)\/(x=O J+3/\C.loc b=some p)\/(C.loc x=some p/\x<O J):=λx p d=>by
   by_cases g:x=O J+2
   ·subst g;rw[W]at d;exact .inl ⟨rfl,d⟩
   ·by_cases j:x=O J+3
    ·subst j;rw[l3]at d;exact .inr (.inl ⟨rfl,d⟩)
    ·by_cases k:x=O J\/x=O J+1
     ·rw[S x k]at d;cases d
     ·rw[G x g j k]at d;refine .inr (.inr ⟨d,?_⟩)
      rcases Nat.lt_or_ge x (O U)with ae|a9
      ·omega
      ·exact(mw x p a9 d).elim
  rcases N x _ d with⟨e1,K⟩|⟨e1,K⟩|⟨K,e1⟩<;>rcases N y _ v with⟨e2,L⟩|⟨e2,L⟩|⟨L,e2⟩<;>have:=h.inj _ _ _ _ _ K L<;>omega
 ·obtain⟨y,v⟩:=l x _ d;exact h.lt y c o v
 ·obtain⟨y,v⟩:=l x _ d;exact h.rdis y c o v aa
 ·rcases hU i with g|⟨s,g,j⟩|⟨s,g,j⟩
  ·rw[<-g];exact R.ext e _ _ d
  ·rw[g]at d;rw[j];exact QE d W z
  ·rw[g]at d;rw[j];exact QE d l3 z
theorem Tr.put_mkL{C:Type}{f k:Nat}{x:Option C}{v:Option C}{l r:Tr C}:Tr.mkL v l r=.n v l r:=by cases l<;>rfl
theorem Tr.put_mkR{C:Type}{v:Option C}{l r:Tr C}:Tr.mkR v l r=.n v l r:=by cases r<;>rfl
theorem Tr.put_comm{C:Type}:∀(f g:Nat) (t:Tr C) (a b:Nat) (x y:Option C),a≠b->a<f->b<g->(t.put f a x).put g b y=(t.put g b y).put f a x
 |0,_,_,_,_,_,_,_,h,_=>by omega
 |_+1,0,_,_,_,_,_,_,_,h=>by omega
 |f+1,g+1,t,a,b,x,y,hne,m,hb=>by
  have mz:∀{c d:Nat},c+1<d+1->c / 2<d:=λh=>by omega
  cases a with
  |zero=>
   cases b with
   |zero=>exact absurd rfl hne
   |succ b=>
    cases i:Nat.beq (b%2) 0<;>cases t<;>simp only[Tr.put,i,cond_true,cond_false,Tr.put_mkL (f:=0) (k:=0) (x:=none),Tr.put_mkR]
  |succ a=>
   cases b with
   |zero=>
    cases ha2:Nat.beq (a%2) 0<;>cases t<;>simp only[Tr.put,ha2,cond_true,cond_false,Tr.put_mkL (f:=0) (k:=0) (x:=none),Tr.put_mkR]
   |succ b=>
    have o:Nat.beq (a%2) 0=Nat.beq (b%2) 0->a / 2≠b / 2:=λh r=>by
     have h1:a%2=0↔b%2=0:=⟨λq=>bK (by rw[<-h,q];rfl),λq=>bK (by rw[h,q];rfl)⟩
     omega
    cases ha2:Nat.beq (a%2) 0<;>cases i:Nat.beq (b%2) 0<;>cases t<;>simp only[Tr.put,ha2,i,cond_true,cond_false,Tr.put_mkL (f:=0) (k:=0) (x:=none),Tr.put_mkR]
    all_goals try rfl
    all_goals rw[Tr.put_comm f g _ _ _ x y (o (by rw[ha2,i])) (mz m) (mz hb)]
theorem F.set_comm{a b:Nat}{x y:AO}(h:a≠b):(J.set a x).set b y=(J.set b y).set a x:=by
 cases J;simp only[F.set,Ef];rw[Tr.put_comm _ _ _ _ _ _ _ h (eU _) (eU _)]
theorem QP{t:Nat}{x y:Operand}{v:I}{q:F}{a g:Nat}(W:opd E tm x=.pr a g)(h:bB E (.store t x y) Rr tm J=some (v,q)):
  v=An/\∃c d,J.get a=some (.cells c)/\q=J.set a (.cells d)/\∀U,U.get a=some (.cells c)->bB E (.store t x y) Rr tm U=some (An,U.set a (.cells d)):=by
 simp only[bB,Aw]at h⊢
 split at h
 ·rename_i p n
  rw[W]at h;unfold Wc at h
  split at h
  ·rename_i o i l m k
   cases m
   split at h
   ·rename_i c b
    split at h
    ·rename_i d j
     cases h
     have H:J.get a=some (.cells c):=by
      unfold F.cells at b
      split at b
      ·rename_i r e;cases b;exact e
      ·cases b
     refine⟨rfl,c,d,H,rfl,λU f=>?_⟩
     rw[W];unfold Wc;simp only[k,F.cells,f,j]
    ·cases h
   ·cases h
  ·cases h
 ·cases h
end
end Go.AM

