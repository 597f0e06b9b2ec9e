/- A part of the proof; shortened by program. -/
import Derived.Test.YtmkaboegdoadhaaGreatDoorP03
set_option maxRecDepth 100000
set_option maxHeartbeats 4000000
set_option linter.all false
namespace Go.AM
open Go
section
variable {P:Program}{C C':aO}{N N':Nat}{w w':World}{J J':F}
theorem Aaw{n x}:∀{e:List (aQ×I)},D5 n e=some x->
  ∃a d b,e=a++(d,x)::b/\aQ.eq n d=true/\(∀v,Ph n v e=a++(d,v)::b)/\Adh n e=a++b
 |[],h=>by simp[D5]at h
 |(d,y)::r,h=>by
  simp only[D5]at h;cases c:aQ.eq n d
  ·simp only[c,cond_false]at h;obtain⟨a,k,b,f,g,i,j⟩:=Aaw h
   exact⟨(d,y)::a,k,b,by simp[f],g,λv=>by simp[Ph,c,i],by simp[Adh,c,j]⟩
  ·simp only[c,cond_true,bH]at h;subst h
   exact⟨[],d,r,rfl,c,λv=>by simp[Ph,c],by simp[Adh,c]⟩
theorem S4{n}:∀{b:List (aQ×I)},D5 n b=none->(∀x∈b,aQ.eq n x.1=false)/\Adh n b=b
 |[],_=>⟨λx a=>by simp at a,rfl⟩
 |(f,y)::r,h=>by
  simp only[D5]at h;cases c:aQ.eq n f
  ·simp only[c,cond_false]at h;obtain⟨d,e⟩:=S4 h
   refine⟨λx a=>?_,by simp[Adh,c,e]⟩
   rcases bN.1 a with rfl|a
   ·exact c
   ·exact d x a
  ·simp[c]at h
theorem Aax(n v):∀(d:List (aQ×I)),∃a b,d=a++b/\Nx n v d=a++(n,v)::b
 |[]=>⟨[],[],rfl,rfl⟩
 |(c,y)::r=>by
  simp only[Nx];cases g:aQ.lt n c
  ·obtain⟨a,b,e,f⟩:=Aax n v r
   exact⟨(c,y)::a,b,by simp[e],by simp[f]⟩
  ·exact⟨[],(c,y)::r,rfl,rfl⟩
theorem ER.split:∀{a b:List (aQ×I)} {L:List MapEntry},ER C N w (a++b) L->∃c B,L=c++B/\ER C N w a c/\ER C N w b B
 |[],b,L,h=>⟨[],L,rfl,by unfold ER;trivial,h⟩
 |x::a,b,[],h=>by rw[dL]at h;unfold ER at h;exact h.elim
 |x::a,b,e::L,h=>by
  rw[dL]at h;unfold ER at h;obtain⟨c,B,d,f,g⟩:=ER.split h.2
  exact⟨e::c,B,by simp[d],by unfold ER;exact⟨h.1,f⟩,g⟩
theorem ER.append:∀{a b:List (aQ×I)} {c B:List MapEntry},ER C N w a c->ER C N w b B->ER C N w (a++b) (c++B)
 |[],b,[],B,_,h=>h
 |x::a,b,e::c,B,h,k=>by unfold ER at h;rw[dL,dL];unfold ER;exact⟨h.1,ER.append h.2 k⟩
 |[],_,_::_,_,h,_=>by unfold ER at h;exact h.elim
 |_::_,_,[],_,h,_=>by unfold ER at h;exact h.elim
theorem ER.length:∀{a:List (aQ×I)} {b:List MapEntry},ER C N w a b->a.length=b.length
 |[],[],_=>rfl
 |x::a,e::b,h=>by unfold ER at h;simp[ER.length h.2]
 |[],_::_,h=>by unfold ER at h;exact h.elim
 |_::_,[],h=>by unfold ER at h;exact h.elim
theorem ER.mem:∀{a:List (aQ×I)} {c:List MapEntry},ER C N w a c->∀e∈c,∃x∈a,KV x.1 e.key/\R C N w x.2 e.val
 |[],[],_,e,b=>by simp at b
 |x::a,f::c,h,e,b=>by
  unfold ER at h
  rcases bN.1 b with rfl|b
  ·exact⟨x,by simp,h.1⟩
  ·obtain⟨y,d,g⟩:=ER.mem h.2 e b;exact⟨y,by simp[d],g⟩
 |[],_::_,h,_,_=>by unfold ER at h;exact h.elim
 |_::_,[],h,_,_=>by unfold ER at h;exact h.elim
theorem Ck{C J:Type}{f:C->J}{a B e g}(h:((a++e::B).map f).Nodup){j}(b:(a++e::B)[j]? =some g)(H:f g=f e):j=a.length/\g=e:=by
 have c:((a++e::B).map f)[j]? =some (f e):=by rw[eC,b];simp[H]
 have d:((a++e::B).map f)[a.length]? =some (f e):=by rw[eC];simp
 obtain⟨i,k⟩:=bQ.1 c;obtain⟨m,l⟩:=bQ.1 d;have:j=a.length:=(List.getElem?_inj i h).1 (c.trans d.symm);subst this
 simp at b
 exact⟨rfl,b.symm⟩
structure At (C:aO)(N:Nat)(w:World)(es:List (aQ×I))(E:Array MapEntry)(V:Value)(x:I)(kv:aQ) where
 A:List MapEntry
 e:MapEntry
 B:List MapEntry
 a:List (aQ×I)
 k':aQ
 b:List (aQ×I)
 A':List MapEntry
 B':List MapEntry
 hE:E.toList=A++e::B
 key:e.key=V
 val:R C N w x e.val
 kk:KV k' e.key
 hes:es=a++(k',x)::b
 ea:ER C N w a A'
 eb:ER C N w b B'
 perm:(A'++B').Perm (A++B)
 set:∀v,Ph kv v es=a++(k',v)::b
 del:Adh kv es=a++b
theorem D8.locate{s:TypeId}{k E g}(h:D8 P C N w s k E g){n d}(hk:KV n d)(m:KT P s d):
  (∃x,D5 n k=some x/\∃q:At C N w k E d x n,∀c,(Instr.findKey s d E.toList).run P c=.ok (some (q.A.length,q.e.val)) c)\/
  (D5 n k=none/\(∀e∈E.toList,e.key≠d)/\∀c,(Instr.findKey s d E.toList).run P c=.ok none c):=by
 obtain⟨L,R,hL⟩:=h.perm;cases hm:D5 n k with
 |none=>
  obtain⟨v,_⟩:=S4 hm
  have u:∀e∈E.toList,e.key≠d:=λe i hh=>by
   obtain⟨x,hx,S,_⟩:=ER.mem hL e (R.symm.subset i);have:=(AI (w:=w) hk S m (h.typed e i)).1.2 hh.symm;rw[v x hx]at this;cases this
  refine .inr ⟨rfl,u,λc=>?_⟩
  obtain⟨r,U,G⟩:=Ob (w:=c) m h.typed;cases r with
  |none=>exact U
  |some p=>
   obtain⟨f,_,l,K,_⟩:=G;exact absurd K (u f (bA l))
 |some x=>
  obtain⟨a,k',b,v,h2,h3,h4⟩:=Aaw hm;have o:=hL;rw[v]at o;obtain⟨X,L2,q1,q2,J⟩:=o.split;cases L2 with
  |nil=>unfold ER at J;exact J.elim
  |cons e B'=>
   unfold ER at J;obtain⟨⟨q4,q5⟩,q6⟩:=J
   have i:e∈E.toList:=R.subset (by rw[q1];simp)
   obtain⟨W,B,Q⟩:=xm i;have T:e.key=d:=((AI (w:=w) hk q4 m (h.typed e i)).1.1 h2).symm
   have kl:(X++B').Perm (W++B):=by
    have:=R;rw[q1,Q]at this;exact(List.perm_middle.symm.trans (this.trans List.perm_middle)).cons_inv
   refine .inl ⟨x,rfl,⟨W,e,B,a,k',b,X,B',Q,T,q5,q4,v,q2,q6,kl,h3,h4⟩,λc=>?_⟩
   obtain⟨r,U,G⟩:=Ob (w:=c) m h.typed;cases r with
   |none=>exact absurd T (G e i)
   |some p=>
    obtain⟨f,_,l,K,f4⟩:=G;obtain⟨j,y⟩:=p;simp only[mO]at l f4;have t:=h.keys;rw[Q]at t l;obtain⟨g1,g2⟩:=Ck t l (K.trans T.symm);subst g1 g2;rw[U,<-f4]
theorem Oc{C:Type}(f e B):∀a:List C,(a++e::B).modify a.length f=a++f e::B
 |[]=>rfl
 |x::a=>by simp only[dL,cZ,List.modify_succ_cons,Oc f e B a]
theorem D8.set{s:TypeId}{f E b}(h:D8 P C N w s f E b){n d x v}(q:At C N w f E d x n){y}(B:R C N w v y):
  D8 P C N w s (Ph n v f) (E.modify q.A.length λe=>{ e with key:=d,val:=y }) b/\(E.modify q.A.length λe=>{ e with key:=d,val:=y }).toList=q.A++{ q.e with val:=y }::q.B:=by
 have c:(E.modify q.A.length λe=>{ e with key:=d,val:=y }).toList=q.A++{ q.e with val:=y }::q.B:=by
  rw[FF,q.hE];have g:=q.key
  simp[Oc,<-g]
 have i:(q.A++{ q.e with val:=y }::q.B).map (·.key)=(q.A++q.e::q.B).map (·.key):=by simp
 have j:(q.A++{ q.e with val:=y }::q.B).map (·.born)=(q.A++q.e::q.B).map (·.born):=by simp
 refine⟨⟨λe a=>?_,⟨q.A'++{ q.e with val:=y }::q.B',?_,?_⟩,?_,λe a=>?_,?_⟩,c⟩
 ·rw[c]at a
  rcases dW.1 a with a|a
  ·exact h.typed e (by rw[q.hE];simp[a])
  ·rcases bN.1 a with rfl|a
   ·exact h.typed q.e (by rw[q.hE];simp)
   ·exact h.typed e (by rw[q.hE];simp[a])
 ·rw[c];exact List.perm_middle.trans ((q.perm.cons _).trans List.perm_middle.symm)
 ·rw[q.set v];exact q.ea.append (by unfold ER;exact⟨⟨q.kk,B⟩,q.eb⟩)
 ·rw[c,i,<-q.hE];exact h.keys
 ·rw[c]at a
  rcases dW.1 a with a|a
  ·exact h.born e (by rw[q.hE];simp[a])
  ·rcases bN.1 a with rfl|a
   ·exact h.born q.e (by rw[q.hE];simp)
   ·exact h.born e (by rw[q.hE];simp[a])
 ·rw[c,j,<-q.hE];exact h.apart
theorem D8.ins{s:TypeId}{k E c}(h:D8 P C N w s k E c){n f}(X:KV n f)(m:KT P s f)(i:∀e∈E.toList,e.key≠f){v y}(B:R C N w v y):
  D8 P C N w s (Nx n v k) (E.push ⟨f,y,c⟩) (c+1):=by
 obtain⟨L,u,o⟩:=h.perm;obtain⟨a,b,r,t⟩:=Aax n v k;rw[r]at o;obtain⟨p,q,G,J,K⟩:=o.split
 have g:(E.push ⟨f,y,c⟩).toList=E.toList++[⟨f,y,c⟩]:=by simp
 refine⟨λe d=>?_,⟨p++⟨f,y,c⟩::q,?_,?_⟩,?_,λe d=>?_,?_⟩
 ·rw[g]at d
  rcases dW.1 d with d|d
  ·exact h.typed e d
  ·simp at d;subst d;exact m
 ·rw[g];refine List.perm_middle.trans ?_;rw[<-G];exact(u.cons _).trans (List.perm_append_singleton _ _).symm
 ·rw[t];exact J.append (by unfold ER;exact⟨⟨X,B⟩,K⟩)
 ·rw[g,iG,rC]
  refine⟨h.keys,by simp,λx l Q j=>?_⟩
  simp at j;subst j
  obtain⟨e,d,rfl⟩:=dO.1 l;exact i e d
 ·rw[g]at d
  rcases dW.1 d with d|d
  ·have:=h.born e d;omega
  ·simp at d;subst d;exact eU _
 ·rw[g,iG,rC]
  refine⟨h.apart,by simp,λx l Q j=>?_⟩
  simp at j;subst j
  obtain⟨e,d,rfl⟩:=dO.1 l;have:=h.born e d;omega
theorem D8.del{s:TypeId}{d E a}(h:D8 P C N w s d E a){n i x}(q:At C N w d E i x n):
  D8 P C N w s (Adh n d) (E.eraseIdxIfInBounds q.A.length) a:=by
 have b:(E.eraseIdxIfInBounds q.A.length).toList=q.A++q.B:=by
  have g:q.A.length<E.size:=by rw[<-kE,q.hE];simp
  unfold Array.eraseIdxIfInBounds;rw[dif_pos g,Array.toList_eraseIdx,q.hE]
  simp[List.eraseIdx_append_of_length_le]
 have c:(q.A++q.B).Sublist E.toList:=by rw[q.hE];exact List.Sublist.append (List.Sublist.refl _) (List.sublist_cons_self _ _)
 refine⟨λe f=>h.typed e (c.subset (by rwa[b]at f)),⟨q.A'++q.B',by rw[b];exact q.perm,by rw[q.del];exact q.ea.append q.eb⟩,?_,λe f=>h.born e (c.subset (by rwa[b]at f)),?_⟩
 ·rw[b];exact(c.map _).nodup h.keys
 ·rw[b];exact(c.map _).nodup h.apart
theorem D8.empty{s:TypeId}{clock}:D8 P C N w s [] #[] clock:=
 ⟨λe a=>by simp at a,⟨[],by simp,by unfold ER;trivial⟩,by simp,λe a=>by simp at a,by simp⟩
abbrev FV:=@D8.empty
theorem D8.count{s:TypeId}{b E a}(h:D8 P C N w s b E a):b.length=E.size:=by
 obtain⟨L,d,c⟩:=h.perm;rw[c.length,d.length_eq];simp
end
section
variable {P:Program}{C C':aO}{N N':Nat}{w w':World}{J J':F}
theorem Cw{c E a}(h:w.heap[c]? =some (.map E a)):(getObj c).run P w=.ok (.map E a) w:=by
 simp only[getObj,Sem.run,h]
theorem Gv{c E a}(h:w.heap[c]? =some (.map E a))(b):
  (setObj c b).run P w=.ok () { w with heap:=w.heap.setIfInBounds c b }:=by
 simp only[setObj,Sem.run,h]
theorem P6{c a}(h:w.heap[c]? =some a)(e):Wr w { w with heap:=w.heap.setIfInBounds c e } c e:=by
 have d:=(iK.1 h).1
 refine⟨by simp,by simp[d],λb f=>?_,rfl,rfl⟩
 simp only[];rw[xv (λh=>f h.symm)]
theorem LY{c E a}(h:w.heap[c]? =some (.map E a)):csize w c=0:=by unfold csize;simp[h]
theorem setMap(j:aX P C w J){r s f k}(H:J.get r=some (.map s k f)){c E a}(d:C.loc r=some (c,0))(l:w.heap[c]? =some (.map E a))
  {es' X}(b:f<X){E' clock'}(K:D8 P C (O J) w s es' E' clock'):
  aX P C { w with heap:=w.heap.setIfInBounds c (.map E' clock') } (J.set r (.map s es' X))/\bC C (O J) w C (O J) { w with heap:=w.heap.setIfInBounds c (.map E' clock') }:=by
 have p:=P6 l (.map E' clock')
 refine j.upd d p (by rw[LY p.here,LY l]) H _ rfl (λi g m h=>?_) λe=>?_
 ·cases h;exact⟨s,k,f,rfl,b⟩
 ·refine⟨c,E',clock',d,p.here,?_⟩;rw[Aq];exact K.ext e
theorem P7{d v}(h:KS d v)(n):Instr.sameBits n v v=true:=by
 unfold KS at h
 split at h
 ·obtain⟨m,rfl⟩:=h;cases n<;>simp[Instr.sameBits]
 ·obtain⟨m,rfl⟩:=h;cases n<;>simp[Instr.sameBits,Go.MapKept.bytes_beq]
 ·obtain⟨m,rfl⟩:=h;cases n<;>simp[Instr.sameBits]
 ·exact h.elim
theorem Ui(n):∀{b:List Field} {a:List Value},KFs P b a->((a.zip a).all λ(x,y)=>Instr.sameBits n x y)=true
 |[],[],_=>rfl
 |f::b,v::a,h=>by
  unfold KFs at h;obtain⟨⟨i,d,_,_,_,_,e,_⟩,c⟩:=h;simp only[List.zip_cons_cons,gX,bg];exact⟨P7 e n,Ui n c⟩
 |[],_::_,h=>by unfold KFs at h;exact h.elim
 |_::_,[],h=>by unfold KFs at h;exact h.elim
theorem MC{s:TypeId}{v}(h:KT P s v):(Instr.keyThatStays v v).run P w=.ok v w:=by
 have:Instr.sameBits 10000 v v=true:=by
  rcases h with⟨d,_,h⟩|⟨g,a,_,rfl,h,_⟩|⟨_,_,a,d,_,_,rfl,_,_,_,_,_,_,h⟩
  ·exact P7 h _
  case inr.inr=>
   simp only[Instr.sameBits,bg,beq_self_eq_true,true_and]
   have b:∀l:List Value,(∀x∈l,KS d x)->((l.zip l).all λ(x,y)=>Instr.sameBits 9999 x y)=true:=by
    intro l
    induction l with
    |nil=>intro _;rfl
    |cons x l f=>intro c;simp only[List.zip_cons_cons,gX,bg];exact⟨P7 (c x zS) _,f λy e=>c y (by simp[e])⟩
   exact b a.toList h
  ·have:=Ui 9999 h;simp only[Instr.sameBits,bg,beq_self_eq_true,true_and];exact this
 unfold Instr.keyThatStays;rw[this];rfl
theorem Mb{s:TypeId}{y}(c:Ay P s=some y){U}(d:Lh y=some U):∃b,(∀w,(zeroValue s).run P w=.ok b w)/\∀(C:aO) (N:Nat) (w:World),R C N w U b:=by
 obtain⟨b,a,k⟩:=Ub (P:=P) (C:=⟨λ_=>none,λ_=>0,λ_=>False,λ_=>none⟩) (N:=0) (w:=default) c d
 have e:∀w,(zeroValue s).run P w=.ok b w:=λw=>by
  unfold zeroValue typeInfo at a⊢;simp only[Sem.run_bind,run_program,Result.andThen_ok]at a⊢;cases g:P.info? s with
  |none=>simp[g]at a
  |some i=>
   simp only[g,Sem.run_pure,Result.andThen_ok]at a⊢;cases d:i.zero with
   |none=>simp[d]at a
   |some v=>simp only[d,Sem.run_pure,Result.ok.injEq]at a⊢;exact⟨a.1,trivial⟩
 refine⟨b,e,λC N w=>?_⟩
 obtain⟨j,f,h⟩:=Ub (P:=P) (C:=C) (N:=N) (w:=w) c d;rw[e w]at f;cases f;exact h
theorem FN{c v a}(h:R C N w v a)(b):R C N w (nh c v b) (if c then .tuple #[a,.bool b]else a):=by
 cases c
 ·exact h
 ·simp only[nh];unfold R;exact⟨_,rfl,by unfold RL;exact⟨h,by unfold RL;exact⟨by unfold R;rfl,by unfold RL;trivial⟩⟩⟩
theorem Adp(hs:aX P C w J){t s L:TypeId}{S y}(o:Ay P t=some S)(hd:S.desc=.map s L)(n:Ay P L=some y){U}(hz:Lh y=some U){k m K G}(hk:R C (O J) w k K)(g:R C (O J) w m G)
  {Q v}(h:Ky s (D4 P s k) U Q m J=some (v,J')):J'=J/\Dz P C (O J) w (Instr.lookup t G K Q) v:=by
 obtain⟨_,d,_,g2,g3,_⟩:=Ap o
 have u:=g2.trans (by rw[<-g3,hd])
 obtain⟨a9,T,W⟩:=Mb n hz;unfold Ky at h
 split at h
 ·rename_i kv j
  obtain⟨hK,b⟩:=H3 j hk
  split at h
  ·rename_i r
   split at h
   ·rename_i a7 es a8 H
    split at h
    ·rename_i a
     have a:=bK a;subst a;unfold R at g;obtain⟨c,rfl,_,X⟩:=g;obtain⟨c',E,i,l1,N,l3⟩:=hs.obj r _ H;have:=X c' 0 l1;subst this
     rcases l3.locate hK b with⟨x,B,q,l⟩|⟨B,_,l⟩
     ·rw[B]at h;cases h;refine⟨rfl,_,?_,FN q.val true⟩;simp only[Instr.lookup,Sem.run_bind,Aa u,Result.andThen_ok,Cw N,Sem.run_pure,C3 b _ 9998,l w]
     ·rw[B]at h;cases h;refine⟨rfl,_,?_,FN (W _ _ _) false⟩;simp only[Instr.lookup,Sem.run_bind,Aa u,Result.andThen_ok,Cw N,Sem.run_pure,C3 b _ 9998,l w,T]
    ·cases h
   ·cases h
  ·cases h;unfold R at g;obtain⟨rfl,_⟩:=g;refine⟨rfl,_,?_,FN (W _ _ _) false⟩
   obtain⟨r,k1,k2⟩:=Ob (P:=P) (w:=w) b (es:=[]) (λe he=>by simp at he)
   have:r=none:=by
    cases r with
    |none=>rfl
    |some p=>obtain⟨f,_,f2,_⟩:=k2;simp at f2
   subst this;simp only[Instr.lookup,Sem.run_bind,Aa u,Result.andThen_ok,Sem.run_pure,C3 b _ 9998,k1,T]
  ·cases h
 ·cases h
theorem MU{E:Array MapEntry}{a B e}(h:E.toList=a++e::B):E[a.length]? =some e:=by
 rw[<-iO,h];simp
theorem Wo(j:aX P C w J){t s et:TypeId}{ti te}(p:Ay P t=some ti)(hd:ti.desc=.map s et){k m v K S T}(hk:R C (O J) w k K)(X:R C (O J) w m S)(hv:R C (O J) w v T)
  {u}(h:N1 s (D4 P s k) te m v J=some (u,J')):u=An/\∃Q,(Instr.mapUpdate t S K T).run P w=.ok () Q/\aX P C Q J'/\bC C (O J) w C (O J') Q:=by
 obtain⟨_,d,_,g2,g3,_⟩:=Ap p
 have hu:=g2.trans (by rw[<-g3,hd])
 unfold N1 at h
 split at h
 ·rename_i kv r l
  obtain⟨U,b⟩:=H3 l hk
  split at h
  ·rename_i a7 es f H
   split at h
   ·rename_i W
    rw[bg]at W;have i:=bK W.1;subst i;unfold R at X;obtain⟨c,rfl,_,bk⟩:=X;obtain⟨c',E,g,B,a,G⟩:=j.obj r _ H;have:=bk c' 0 B;subst this
    rcases G.locate U b with⟨x,y,q,o⟩|⟨y,n,o⟩
    ·simp only[y,Ak,bH,cE]at h;obtain⟨rfl,rfl⟩:=h;obtain⟨m1,_⟩:=G.set q hv;obtain⟨L,N⟩:=setMap j H B a (eU f) m1
     refine⟨rfl,_,?_,L,by rw[Aq];exact N⟩
     have e:=MU q.hE;simp only[Instr.mapUpdate,Sem.run_bind,Aa hu,Result.andThen_ok,Cw a,C3 b _ 9998,o w,e,mH,BT,q.key,MC b,Gv a]
    ·simp only[y,Ak,bH,cE]at h;obtain⟨rfl,rfl⟩:=h;obtain⟨L,N⟩:=setMap j H B a (eU f) (G.ins U b n hv)
     refine⟨rfl,_,?_,L,by rw[Aq];exact N⟩
     simp only[Instr.mapUpdate,Sem.run_bind,Aa hu,Result.andThen_ok,Cw a,C3 b _ 9998,o w,Gv a]
   ·cases h
  ·cases h
 ·cases h
theorem Tw(j:aX P C w J){t s et ty t2:TypeId}{v}(o:Ay P t=some v)(hd:v.desc=.map s et){k m K Q}(X:R C (O J) w k K)(i:R C (O J) w m Q)
  {u}(h:HV s (D4 P s k) m J=some (u,J')):u=An/\∃N,(Builtin.delete_ #[t,t2] ty #[Q,K]).run P w=.ok (.tuple #[]) N/\aX P C N J'/\bC C (O J) w C (O J') N:=by
 obtain⟨_,d,_,g2,g3,_⟩:=Ap o
 have p:=g2.trans (by rw[<-g3,hd])
 unfold HV at h
 split at h
 ·rename_i U r b
  obtain⟨S,f⟩:=H3 b X
  split at h
  ·rename_i a8 es g H
   split at h
   ·rename_i hb
    have l:=bK hb;subst l;unfold R at i;obtain⟨c,rfl,_,W⟩:=i;obtain⟨c',E,a,y,e,B⟩:=j.obj r _ H;have:=W c' 0 y;subst this;simp only[Ak,bH,cE]at h;obtain⟨rfl,rfl⟩:=h
    rcases B.locate S f with⟨x,T,q,n⟩|⟨T,a7,n⟩
    ·obtain⟨G,L⟩:=setMap j H y e (eU g) (B.del q)
     refine⟨rfl,_,?_,G,by rw[Aq];exact L⟩
     simp[Builtin.delete_,Aa p,Cw e,C3 f _ 9998,n w,Gv e]
    ·obtain⟨G,L⟩:=setMap j H y e (eU g) (E':=E) (clock':=a) (es':=Adh U es) (by rw[(S4 T).2];exact B)
     refine⟨rfl,_,?_,G,by rw[Aq];exact L⟩
     simp[Builtin.delete_,Aa p,Cw e,C3 f _ 9998,n w,Gv e]
   ·cases h
  ·cases h
 ·rename_i U b
  obtain⟨S,f⟩:=H3 b X;cases h;unfold R at i;obtain⟨rfl,_⟩:=i;refine⟨rfl,w,?_,j,dJ _ _ _⟩
  simp[Builtin.delete_,Aa p,C3 f _ 9998]
 ·cases h
theorem Yq(j:aX P C w J){t x s ty:TypeId}{v}(a:Ay P t=some v)(g:v.desc=.map x s){m i}(K:R C (O J) w m i)
  {u}(h:Q9 m J=some (u,J')):u=An/\∃f,(Builtin.clear_ #[t] ty #[i]).run P w=.ok (.tuple #[]) f/\aX P C f J'/\bC C (O J) w C (O J') f:=by
 obtain⟨_,d,_,p,q,_⟩:=Ap a
 have k:=p.trans (by rw[<-q,g])
 unfold Q9 at h
 split at h
 ·rename_i r
  split at h
  ·rename_i y L e H
   unfold R at K;obtain⟨c,rfl,_,n⟩:=K;obtain⟨o,E,clock,l,b,N⟩:=j.obj r _ H;have:=n o 0 l;subst this;simp only[Ak,bH,cE]at h;obtain⟨rfl,rfl⟩:=h;obtain⟨B,G⟩:=setMap j H l b (eU e) (FV (clock:=clock))
   refine⟨rfl,_,?_,B,by rw[Aq];exact G⟩
   simp[Builtin.clear_,Aa k,Cw b,Gv b]
  ·cases h
 ·cases h;unfold R at K;obtain⟨rfl,_⟩:=K;refine⟨rfl,w,?_,j,dJ _ _ _⟩
  simp[Builtin.clear_,Aa k]
 ·cases h
theorem Yg(j:aX P C w J){t o s ty:TypeId}{v}(b:Ay P t=some v)(g:v.desc=.map o s){m e}(K:R C (O J) w m e)
  {u}(h:T6 m J=some (u,J')):J'=J/\Dz P C (O J) w (Builtin.len_ #[t] ty #[e]) u:=by
 obtain⟨_,d,_,l,n,_⟩:=Ap b
 have f:=l.trans (by rw[<-n,g])
 unfold T6 at h
 split at h
 ·rename_i r
  split at h
  ·rename_i p G B H
   unfold R at K;obtain⟨c,rfl,_,i⟩:=K;obtain⟨k,E,a,q,x,y⟩:=j.obj r _ H;have:=i k 0 q;subst this;simp only[Ak,bH,cE]at h;obtain⟨rfl,rfl⟩:=h
   refine⟨rfl,_,by simp[Builtin.len_,Aa f,Cw x];rfl,?_⟩
   unfold goInt R;rw[y.count];rfl
  ·cases h
 ·cases h;unfold R at K;obtain⟨rfl,_⟩:=K
  exact⟨rfl,_,by simp[Builtin.len_,Aa f];rfl,by unfold goInt R;rfl⟩
 ·cases h
end
section
variable {P:Program}{C C':aO}{N N':Nat}{w w':World}{J J':F}
theorem Wp{C:Type}{a b:Array C}(h:a.toList=b.toList):a=b:=Array.ext' h
theorem Ads{E:Array MapEntry}{a B e}(h:E.toList=a++e::B){b}(c:e.key=b):(E.modify a.length λe=>{ e with key:=b })=E:=by
 apply Wp;rw[FF,h,Oc,<-c]
theorem Yr(hs:aX P C w J){t kt et:TypeId}{ti te}(a7:Ay P t=some ti)(hd:ti.desc=.map kt et)(W:Ay P et=some te){ac}(hz:Lh te=some ac){k m K a9}(hk:R C (O J) w k K)(hm:R C (O J) w m a9)
  {u}(h:Q8 kt (D4 P kt k) ac m J=some (u,J')):Iv P C w J (Instr.mapEntry t a9 K) u J':=by
 obtain⟨_,d,_,g2,g3,_⟩:=Ap a7
 have hu:=g2.trans (by rw[<-g3,hd])
 obtain⟨ae,z1,z2⟩:=Mb W hz;unfold Q8 at h
 split at h
 ·rename_i kv r Q
  obtain⟨L,s⟩:=H3 Q hk
  split at h
  ·rename_i l es f H
   split at h
   ·rename_i hb
    have N:=bK hb;subst N;unfold R at hm;obtain⟨c,rfl,hr,bk⟩:=hm;obtain⟨c',E,j,l1,p,l3⟩:=hs.obj r _ H;have:=bk c' 0 l1;subst this;rw[Ak]at h

    have i:∀{g:List (aQ×I)} {n:Array MapEntry} {a:Nat} (m1:D8 P C (O J) w l g n a) (e:MapEntry) (he:e∈n.toList) (v:e.key=K) {x:I} {X:Value} (o:R C (O J) w x X)
      (bq:(Instr.mapEntry t (.map (some c)) K).run P w=.ok (.tuple #[X,goInt e.born]) { w with heap:=w.heap.setIfInBounds c (.map n a) }),
      Iv P C w J (Instr.mapEntry t (.map (some c)) K) (.tup [x,.stp (O J)]) ((J.set r (.map l g (f+1))).new (.stamp r (f+1) kv)):=by
     intro g n a m1 e he v x X o bq;obtain⟨s1,s2⟩:=setMap hs H l1 p (eU f) m1;have S:O (J.set r (.map l g (f+1)))=O J:=Aq _ _ _;have kh:=(P6 p (.map n a)).here
     obtain⟨s3,B⟩:=s1.newStamp e.born r (f+1) kv (by rw[S];exact hr) (λa8 G aa b=>by
      rw[aU,if_pos rfl]at b;cases b
      exact⟨Y,λ_=>⟨c,n,a,l1,kh,e,he,by rw[v];exact L,rfl⟩⟩)
     refine⟨_,_,_,_,bq,rfl,s3,?_,?_⟩
     ·rw[Ao];rw[S]at B⊢;exact s2.trans B
     ·rw[Ao];rw[S]at B⊢;unfold R;refine⟨_,rfl,?_⟩;unfold RL;refine⟨R.ext (s2.trans B) _ _ o,?_⟩;unfold RL
      refine⟨?_,by unfold RL;trivial⟩
      unfold R
      exact⟨by simp[goInt,aO.addStm],eU _⟩
    rcases l3.locate L s with⟨x,o,q,U⟩|⟨o,T,U⟩
    ·simp only[o,bH,cE]at h;obtain⟨rfl,rfl⟩:=h
     refine i l3 q.e (by rw[q.hE];simp) q.key q.val ?_
     have y:=MU q.hE;simp only[Instr.mapEntry,Sem.run_bind,Aa hu,Result.andThen_ok,Cw p,C3 s _ 9998,U w,y,mH,BT,q.key,MC s,Gv p,Ads q.hE q.key,Sem.run_pure]
    ·simp only[o,bH,cE]at h;obtain⟨rfl,rfl⟩:=h
     refine i (l3.ins L s T (z2 _ _ _)) ⟨K,ae,j⟩ zS rfl (z2 _ _ _) ?_
     simp only[Instr.mapEntry,Sem.run_bind,Aa hu,Result.andThen_ok,Cw p,C3 s _ 9998,U w,Gv p,z1,Sem.run_pure]
   ·cases h
  ·cases h
 ·cases h
theorem UF{s:TypeId}{d E a}(h:D8 P C N w s d E a){e f}(p:e∈E.toList)(i:f∈E.toList)(Q:f.born=e.born):f=e:=by
 obtain⟨k,B,g⟩:=xm p;obtain⟨j,c⟩:=fA.1 i;have b:=h.apart;rw[g]at b c;exact(Ck b c Q).2
theorem VZ{s:TypeId}{d E a}(h:D8 P C N w s d E a){e f}(p:e∈E.toList)(i:f∈E.toList)(Q:f.key=e.key):f=e:=by
 obtain⟨k,B,g⟩:=xm p;obtain⟨j,c⟩:=fA.1 i;have b:=h.keys;rw[g]at b c;exact(Ck b c Q).2
theorem YC{C:Type}(E:Array C)(p):E.findIdx? p=E.toList.findIdx? p:=by
 cases E;simp
theorem Uj(j:aX P C w J){t te m st v U S p}(K:R C (O J) w m U)(o:R C (O J) w st S)(hv:R C (O J) w v p)
  {u}(h:Mf te m st v J=some (u,J')):u=An/\∃T,(Instr.entryStore t U S p).run P w=.ok () T/\aX P C T J'/\bC C (O J) w C (O J') T:=by
 unfold Mf at h
 split at h
 ·rename_i r a
  split at h
  ·rename_i r' n kv kt es a7 N H
   split at h
   ·rename_i G
    simp only[bg]at G;have h1:=bK G.1.1;subst h1;have h2:=bK G.1.2;subst h2
    split at h
    ·rename_i x hx
     simp only[Ak,bH,cE]at h;obtain⟨rfl,rfl⟩:=h;refine⟨rfl,?_⟩;obtain⟨_,o2⟩:=j.obj a _ N;obtain⟨cm,E,B,Q,y,e,W,L,X⟩:=(o2 kt es n H).2 rfl;obtain⟨c',E',s,i,k,l⟩:=j.obj r _ H;rw[Q]at i;cases i;rw[y]at k;cases k;unfold R at K o;obtain⟨c,rfl,_,bk⟩:=K;have:=bk _ _ Q;subst this;obtain⟨rfl,_⟩:=o
     rcases l.locate L (l.typed e W)with⟨x',b,q,_⟩|⟨b,_⟩
     ·have g:q.e=e:=VZ l W (by rw[q.hE];simp) q.key
      obtain⟨m1,m2⟩:=l.set q hv;obtain⟨s1,s2⟩:=setMap j H Q y (eU n) m1
      refine⟨_,?_,s1,by rw[Aq];exact s2⟩
      have pb:E.findIdx? (λf=>(f.born:Int)==C.stm a)=some q.A.length:=by
       rw[YC,q.hE,List.findIdx?_append]
       have hA:List.findIdx? (λf:MapEntry=>(f.born:Int)==C.stm a) q.A=none:=by
        rw[List.findIdx?_eq_none_iff];intro f hf;rw[X,<-g];have d:=l.apart;rw[q.hE,iG,rC]at d
        have:=d.2.2 f.born (zC hf) q.e.born zS
        exact beq_eq_false_iff_ne.2 λhh=>this (Int.ofNat_inj.1 hh)
       rw[hA]
       simp[List.findIdx?_cons,X,g]
      have br:(E.modify q.A.length λf=>{ f with val:=p })=E.modify q.A.length λf=>{ f with key:=e.key,val:=p }:=by
       apply Wp;rw[m2,FF,q.hE,Oc]
      simp only[Instr.entryStore,Sem.run_bind,Cw y,Result.andThen_ok,asInt,asIntOf,Sem.run_pure,pb,Gv y,br]
     ·rw[hx]at b;cases b
    ·cases h
   ·cases h
  ·cases h
 ·cases h
theorem Aa0(j:aX P C w J){t s:TypeId}{u}(h:T5 s J=some (u,J')):Iv P C w J (Instr.makeMap t none) u J':=by
 unfold T5 at h;cases h;have p:=K3 w (.map #[] 0)
 obtain⟨b,c⟩:=j.new p (.map s [] 0) rfl (λe=>⟨w.heap.size,#[],0,by simp[aO.add],p.here,FV⟩)
 refine⟨_,_,_,_,by simp[Instr.makeMap];rfl,rfl,b,by rw[Ao];exact c,?_⟩
 rw[Ao];unfold R
 exact⟨_,rfl,eU _,λd o a=>by simp[aO.add]at a;exact a.1⟩
theorem Yt(j:aX P C w J){t s c:TypeId}{v}(a:Ay P t=some v)(g:v.desc=.map s c){x X}(W:R C (O J) w x X){u}(h:We s x J=some (u,J')):Iv P C w J (Instr.makeMap t (some X)) u J':=by
 obtain⟨_,d,_,f,i,_⟩:=Ap a
 have k:=f.trans (by rw[<-i,g])
 unfold We at h
 split at h
 ·cases h;unfold R at W;subst W;have p:=K3 w (.map #[] 0)
  obtain⟨l,m⟩:=j.new p (.map s [] 0) rfl (λe=>⟨w.heap.size,#[],0,by simp[aO.add],p.here,FV⟩)
  refine⟨_,_,_,_,by simp[Instr.makeMap,Aa k,asInt,asIntOf];rfl,rfl,l,by rw[Ao];exact m,?_⟩
  rw[Ao];unfold R
  exact⟨_,rfl,eU _,λn o b=>by simp[aO.add]at b;exact b.1⟩
 ·cases h
theorem R.newIt{a c N}(e:a<N)(d:C.loc a=some (c,0)):R C N w (.it a) (.pointer (some ⟨c,0,none⟩)):=by
 unfold R
 exact⟨c,rfl,e,λf o b=>by rw[d]at b;cases b;rfl⟩
theorem Agi(j:aX P C w J){t kt s:TypeId}{N}(i:Ay P t=some N)(hd:N.desc=.map kt s){m y}(K:R C (O J) w m y){u}(h:yI m J=some (u,J')):Iv P C w J (Instr.range t y) u J':=by
 obtain⟨_,d,_,W,X,_⟩:=Ap i
 have B:=W.trans (by rw[<-X,hd])
 unfold yI at h
 split at h
 ·cases h;unfold R at K;obtain⟨rfl,_⟩:=K;have p:=K3 w (.mapIter none 0 #[] 0)
  obtain⟨o,q⟩:=j.new p (.iter none 0 [] none) rfl (λe=>⟨w.heap.size,0,#[],0,by simp[aO.add],p.here,rfl⟩)
  refine⟨_,_,_,_,by simp[Instr.range,Aa B];rfl,rfl,o,by rw[Ao];exact q,?_⟩
  rw[Ao];exact R.newIt (eU _) (oZ ..)
 ·rename_i r
  split at h
  ·rename_i a7 U x H
   cases h;unfold R at K;obtain⟨c,rfl,hr,S⟩:=K;obtain⟨T,E,a,n,G,l3⟩:=j.obj r _ H;have:=S T 0 n;subst this;have p:=K3 w (.mapIter (some c) a #[] a);have g:=j.lt r c 0 n
   obtain⟨o,q⟩:=j.new p (.iter (some r) x U none) rfl (λe=>by
    refine⟨by rw[Ao];omega,w.heap.size,c,a,#[],a,by simp[aO.add],p.here,λl f Q b=>?_⟩
    rw[a5,if_neg z]at b;rw[H]at b;cases b
    refine⟨Y,λ_=>⟨E,by simp only[aO.add];rw[if_neg z];exact n,(p.other c g).trans G,rfl,?_,λk v hk=>by cases hk⟩⟩
    obtain⟨L,q1,q2⟩:=l3.perm;rw[Ao]
    exact⟨L,by rw[z'.2 zS];exact q1,q2.ext e⟩)
   refine⟨_,_,_,_,by simp[Instr.range,Aa B,Cw G];rfl,rfl,o,by rw[Ao];exact q,?_⟩
   rw[Ao];exact R.newIt (eU _) (oZ ..)
  ·cases h
 ·cases h
theorem TU(j:aX P C w J){x X}(W:R C (O J) w x X){u}(h:tT x J=some (u,J')):J'=J/\Dz P C (O J) w (Instr.entry X) u:=by
 unfold tT at h
 split at h
 ·rename_i a
  split at h
  ·rename_i r m left k v y
   split at h
   ·rename_i kt U n H
    cases q:Nat.beq m n
    ·simp[q]at h
    ·simp only[q,cond_true,bH,cE]at h;obtain⟨rfl,rfl⟩:=h;have G:=bK q;subst G;refine⟨rfl,?_⟩;obtain⟨_,c,S,b,l,i,o1,o2,o3⟩:=j.obj a _ y;obtain⟨E,l1,K,T,_,pc⟩:=(o3 kt U m H).2 rfl;obtain⟨e,s,ko,hk,G⟩:=pc k v rfl;obtain⟨c',E',o,d,g,L⟩:=j.obj r _ H;rw[l1]at d;cases d;rw[K]at g;cases g;unfold R at W;obtain⟨Q,rfl,_,N⟩:=W;have:=N c 0 o1;subst this;refine⟨.tuple #[e.key,e.val],?_,?_⟩
     ·have mb:E.find? (λf=>f.born==e.born)=some e:=by
       cases p:E.find? (λf=>f.born==e.born)with
       |none=>
        rw[Array.find?_eq_none]at p
        exact absurd zS (p e (by simpa using s))
       |some f=>
        have h1:=Array.find?_some p;have h2:=Array.mem_of_find?_eq_some p
        have t:f=e:=UF L s (by simpa using h2) (by simpa using h1)
        rw[t]
      have B:(getObj Q).run P w=.ok (.mapIter (some S) b l i) w:=by simp only[getObj,Sem.run,o2]
      subst T
      simp[Instr.entry,B,ko,Cw K,mb]
     ·unfold R;refine⟨_,rfl,?_⟩;unfold RL;refine⟨xw hk (L.typed e s),?_⟩;unfold RL
      exact⟨G,by unfold RL;trivial⟩
   ·cases h
  ·cases h
 ·cases h
end
section
variable {P:Program}{C C':aO}{N N':Nat}{w w':World}{J J':F}
theorem Aei{C}(x b):∀a:List C,(x,a++b)∈Ht (a++x::b)
 |[]=>by simp[Ht]
 |y::a=>by
  have:=Aei x b a;simp only[dL,Ht,bN,dO];exact .inr ⟨(x,a++b),this,rfl⟩
theorem ER.mid:∀{l:List (aQ×I)} {c B:List MapEntry} {e:MapEntry},ER C N w l (c++e::B)->∃a x b,l=a++x::b/\ER C N w a c/\KV x.1 e.key/\R C N w x.2 e.val/\ER C N w b B
 |[],[],B,e,h=>by unfold ER at h;exact h.elim
 |[],_::_,B,e,h=>by rw[dL]at h;unfold ER at h;exact h.elim
 |x::l,[],B,e,h=>by
  rw[fK]at h;unfold ER at h
  exact⟨[],x,l,rfl,by unfold ER;trivial,h.1.1,h.1.2,h.2⟩
 |x::l,f::c,B,e,h=>by
  rw[dL]at h;unfold ER at h;obtain⟨a,y,b,d,g,i,j,k⟩:=ER.mid h.2
  exact⟨x::a,y,b,by simp[d],by unfold ER;exact⟨h.1,g⟩,i,j,k⟩
theorem CM(j:aX P C w J){a e}(H:J.get a=some e){c g i f b}(d:C.loc a=some (c,0))(k:w.heap[c]? =some (.mapIter g i b f))
  {m₁ s₁ l₁ seen₁ m ver left cur}
  (x:bC C (O J) w C (O J) { w with heap:=w.heap.setIfInBounds c (.mapIter m₁ s₁ seen₁ l₁) }->OR P C { w with heap:=w.heap.setIfInBounds c (.mapIter m₁ s₁ seen₁ l₁) } (J.set a (.iter m ver left cur)) a (.iter m ver left cur)):
  aX P C { w with heap:=w.heap.setIfInBounds c (.mapIter m₁ s₁ seen₁ l₁) } (J.set a (.iter m ver left cur))/\bC C (O J) w C (O J) { w with heap:=w.heap.setIfInBounds c (.mapIter m₁ s₁ seen₁ l₁) }:=by
 have p:=P6 k (.mapIter m₁ s₁ seen₁ l₁)
 exact j.upd d p (by unfold csize;rw[p.here,k]) H _ rfl (λ_ _ _ h=>by cases h) x
theorem Ly{C:Type}{a:Array C}{i x}(h:a[i]? =some x):a.setIfInBounds i x=a:=by
 apply Array.ext_getElem?;intro j
 by_cases b:i=j
 ·subst b;have:=(iK.1 h).1;rw[Array.getElem?_setIfInBounds_self_of_lt this,h]
 ·rw[xv b]
theorem Akw{C:Type}(f:C->Nat){a B e}(h:((a++e::B).map f).Nodup):(a++e::B).filter (λx=> !(f x==f e))=a++B:=by
 rw[iG,rC,fG,nT]at h;obtain⟨_,⟨c,_⟩,d⟩:=h;rw[zj,List.filter_cons];simp only[beq_self_eq_true,Bool.not_true,fY,if_false];rw[z'.2,z'.2]
 ·intro x b;have:f x≠f e:=λg=>c (g▸zC b)
  simpa using this
 ·intro x b
  have:f x≠f e:=d (f x) (zC b) (f e) zS
  simpa using this
theorem SS(w){n}(h:0<n):∃i b,i<n/\(choose (.mapNext n)).run P w=.ok i { w with drawn:=b }:=by
 by_cases a:n<=1
 ·exact⟨0,w.drawn,h,by simp[choose,Sem.run,Question.forced,a]⟩
 ·exact⟨w.tape w.drawn (.mapNext n)%n,w.drawn+1,Nat.mod_lt _ h,by simp[choose,Sem.run,Question.forced,Question.cut,a]⟩
theorem Akx(hs:aX P C w J){ty a X}(hx:R C (O J) w (.it a) X){m ver left cur}(n:J.get a=some (.iter m ver left cur))(hv:EC J m ver=true):
    ∃y w',(Instr.next X false ty).run P w=.ok y w'/\bC C (O J) w C (O J) w'/\
      ((left=[]/\aX P C w' (J.set a (.iter m ver [] none))/\R C (O J) w' (.tup [.bool false]) y)\/
       (∃p∈Ht left,aX P C w' (J.set a (.iter m ver p.2 (some p.1)))/\R C (O J) w' (.tup [.bool true,T2 p.1.1,p.1.2]) y)):=by
  have i5:∀w,R C (O J) w (.tup [.bool false]) (.tuple #[.bool false]):=λw=>by
    unfold R;exact⟨_,rfl,by unfold RL;exact⟨by unfold R;rfl,by unfold RL;trivial⟩⟩
  unfold R at hx;obtain⟨c,rfl,_,bk⟩:=hx;cases m with
  |none=>
    obtain⟨c',b,d,o,S,l,rfl⟩:=hs.obj a _ n;have:=bk c' 0 S;subst this
    have N:(getObj c).run P w=.ok (.mapIter none b d o) w:=by simp only[getObj,Sem.run,l]
    obtain⟨s1,T⟩:=CM (m₁:=none) (s₁:=b) (l₁:=o) (seen₁:=d) (m:=none) (ver:=ver) (left:=[]) (cur:=none) hs n S l (λ_=>⟨c,b,d,o,S,(P6 l _).here,rfl⟩)
    have hw:({ w with heap:=w.heap.setIfInBounds c (.mapIter none b d o) }:World)=w:=by rw[Ly l]
    rw[hw]at s1 T
    exact⟨_,w,by simp[Instr.next,N],T,.inl ⟨rfl,s1,i5 w⟩⟩
  |some r=>
    obtain⟨hr,c',t,an,d,b,S,l,o3⟩:=hs.obj a _ n;have:=bk c' 0 S;subst this;unfold EC at hv;simp only at hv
    split at hv
    · rename_i kt es v H
      have ay:=bK hv;subst ay;obtain⟨E,l1,Q,cw,⟨L,hp,hL⟩,_⟩:=(o3 kt es v H).2 rfl;subst cw;obtain⟨bz,E',am,aj,ak,l3⟩:=hs.obj r _ H;rw[l1]at aj;cases aj;rw[Q]at ak;cases ak
      have N:(getObj c).run P w=.ok (.mapIter (some t) b d b) w:=by simp only[getObj,Sem.run,l]
      have ek:∀e∈E,e.born<b:=λe q=>l3.born e (by simpa using q)

      have bs:(!d.isEmpty&& !E.isEmpty&&E.all λx=>decide (x.born≥b))=false:=by
        rw[iB];intro h;simp only[bg]at h;obtain⟨⟨_,h2⟩,h3⟩:=h;cases hE:E[0]? with
        |none=>
          have:E.size=0:=by
            rw[Array.getElem?_eq_none_iff]at hE;omega
          simp at h2
          exact h2 (QM this)
        |some e=>
          have hm:e∈E:=Array.mem_of_getElem? hE;rw[Array.all_eq_true_iff_forall_mem]at h3;have h4:=h3 e hm;simp only[decide_eq_true_eq]at h4;have:=ek e hm;omega
      obtain⟨j,G⟩:=zE (E.filter (λe=> !d.contains e.born))
      have hF:j.toList=E.toList.filter λe=> !d.contains e.born:=by rw[<-G];simp
      have a7:∀e∈j,e∈E:=λe q=>by rw[<-G]at q;exact(Array.mem_filter.1 q).1
      have ag:(j.filter λe=>decide (e.born<b))=j:=by
        rw[Array.filter_eq_self];intro e q;simpa using ek e (a7 e q)
      have fu:(j.filter λe=>decide (e.born≥b))=#[]:=by
        rw[Array.filter_eq_empty_iff];intro e q;have:=ek e (a7 e q);simp;omega
      have au:∃y w',(Instr.next (.pointer (some ⟨c,0,none⟩)) false ty).run P w=.ok y w'/\
          ((j=#[]/\y=.tuple #[.bool false]/\w'=w)\/∃e s,e∈j.toList/\y=.tuple #[.bool true,e.key,e.val]/\w'={ w with drawn:=s,heap:=w.heap.setIfInBounds c (.mapIter (some t) b (d.push e.born) b) }):=by
        have cd:∀(s:Nat) (ao:Obj),(setObj c ao).run P { w with drawn:=s }=.ok () { w with drawn:=s,heap:=w.heap.setIfInBounds c ao }:=λs ao=>by
          simp only[setObj,Sem.run,l]
        by_cases W:j=#[]
        · refine⟨.tuple #[.bool false],w,?_,.inl ⟨W,rfl,rfl⟩⟩
          subst W;simp only[Instr.next,Sem.run_bind,N,Result.andThen_ok,Cw Q,bs,fY,if_false,G]
          simp[Question.forced]
        · simp only[Instr.next,Sem.run_bind,N,Result.andThen_ok,Cw Q,bs,fY,if_false,G,ag,fu]
          have pd:j.isEmpty=false:=by rw[iB];intro h;exact W (by simpa using h)
          have hK:((if j.isEmpty=true then #[none]else #[])++Array.map some (j++#[]))=j.map some:=by rw[pd];simp
          rw[hK]
          have ec:0<(j.map some).size:=by
            simp only[Array.size_map]
            rcases oL j.size with h1|h1
            · exact absurd (QM h1) W
            · exact h1
          obtain⟨i,s,hi,aq⟩:=SS (P:=P) w ec;rw[aq];simp only[Array.size_map]at hi
          have cr:(j.map some)[i]? =some (some j[i]):=by simp[hi]
          simp only[Result.andThen_ok,cr,Sem.run_bind,cd,Sem.run_pure]
          exact⟨_,_,rfl,.inr ⟨j[i],s,by simp,rfl,rfl⟩⟩
      obtain⟨y,w',bq,fh⟩:=au;refine⟨y,w',bq,?_⟩
      rcases fh with⟨W,rfl,rfl⟩|⟨e,s,q,rfl,rfl⟩
      · rw[<-hF,W]at hp
        have ap:L=[]:=by simpa using hp
        subst ap
        have ax:left=[]:=oD (by rw[hL.length];rfl)
        subst ax
        have a9:r≠a:=λK=>by rw[K,n]at H;cases H
        obtain⟨s1,T⟩:=CM (m₁:=some t) (s₁:=b) (l₁:=b) (seen₁:=d) (m:=some r) (ver:=v) (left:=[]) (cur:=none) hs n S l (λex=>by
          refine⟨by rw[Aq];exact hr,c,t,b,d,b,S,(P6 l _).here,λaa U al g=>?_⟩
          rw[aU,if_neg a9,H]at g;cases g
          refine⟨Y,λ_=>⟨E,l1,?_,rfl,⟨[],by rw[<-hF,W],by unfold ER;trivial⟩,λk v hk=>by cases hk⟩⟩
          rw[(P6 l _).other t (λK=>by rw[K,l]at Q;cases Q)];exact Q)
        have hw:({ w' with heap:=w'.heap.setIfInBounds c (.mapIter (some t) b d b) }:World)=w':=by rw[Ly l]
        rw[hw]at s1 T;exact⟨T,.inl ⟨rfl,s1,i5 w'⟩⟩
      · have ar:e∈L:=hp.symm.subset (by rw[<-hF];exact q)
        obtain⟨bx,B,ae⟩:=xm ar;have ac:=hL;rw[ae]at ac;obtain⟨la,x,lb,mc,ea,hk,ai,eb⟩:=ac.mid;obtain⟨F1,F2,a8⟩:=xm q
        have af:e∈E.toList:=by have:=a7 e (by simpa using q);simpa using this
        have a9:r≠a:=λK=>by rw[K,n]at H;cases H
        obtain⟨t1,t2⟩:=hs.same (w':={ w with drawn:=s }) Y zN ⟨rfl,rfl⟩
        obtain⟨s1,T⟩:=CM (m₁:=some t) (s₁:=b) (l₁:=b) (seen₁:=d.push e.born) (m:=some r) (ver:=v) (left:=la++lb) (cur:=some x) t1 n S l (λex=>by
          have u:=t2.trans ex
          refine⟨by rw[Aq];exact hr,c,t,b,d.push e.born,b,S,(P6 (w:={ w with drawn:=s }) l _).here,λaa U al g=>?_⟩
          rw[aU,if_neg a9,H]at g;cases g;refine⟨Y,λ_=>⟨E,l1,?_,rfl,⟨bx++B,?_,?_⟩,λk y aw=>?_⟩⟩
          · rw[(P6 (w:={ w with drawn:=s }) l _).other t (λK=>by rw[K,l]at Q;cases Q)];exact Q
          · have pf:(E.toList.filter λf=> !(d.push e.born).contains f.born)=F1++F2:=by
              have h1:(E.toList.filter λf=> !(d.push e.born).contains f.born)=j.toList.filter λf=> !(f.born==e.born):=by
                rw[hF,List.filter_filter]
                congr 1
                funext f
                by_cases K:f.born=e.born<;>simp[Array.contains_push,K]
              rw[h1,a8];refine Akw _ ?_;rw[<-a8,hF];exact(List.filter_sublist.map _).nodup l3.apart
            rw[pf];have ah:=hp;rw[<-hF,ae,a8]at ah;exact(List.perm_middle.symm.trans (ah.trans List.perm_middle)).cons_inv
          · rw[Aq];exact(ea.append eb).ext u
          · cases aw
            exact⟨e,af,by simp,hk,by rw[Aq];exact R.ext u _ _ ai⟩)
        refine⟨t2.trans T,.inr ⟨(x,la++lb),by rw[mc];exact Aei x lb la,s1,?_⟩⟩
        have u:=t2.trans T;unfold R;refine⟨_,rfl,?_⟩;unfold RL
        refine⟨by unfold R;rfl,?_⟩
        unfold RL;refine⟨xw hk (l3.typed e af),?_⟩;unfold RL
        exact⟨R.ext u _ _ ai,by unfold RL;trivial⟩
    · cases hv
end
end Go.AM

