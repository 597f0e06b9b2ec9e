/- A part of the proof; shortened by program. -/
import Derived.Laws.Tables
import Derived.Laws.Append
import Derived.MapKept
import Derived.Test.YtmkaboegdoadhaaGreatDoorP02
set_option maxRecDepth 100000
set_option maxHeartbeats 4000000
set_option linter.all false
namespace Go.AM
open Go
section
variable {P:Program}{C C':aO}{N N':Nat}{w w':World}{J J':F}
theorem Jh{c o a T b}(h:w.heap[c]? =some (.cells a T b)):w.cell? ⟨c,o,none⟩=a[o]? :=by
 unfold World.cell?;simp[h]
theorem Fl{c a T b}(h:w.heap[c]? =some (.cells a T b)):csize w c=a.size:=by
 unfold csize;simp[h]
theorem RC.of_cells{c o a T e l vs}(f:w.heap[c]? =some (.cells a T e))(h:RL C N w l vs)(u:∀x∈vs,x.oneCell=true)
  (b:∀(i:Nat) (v:Value),vs[i]? =some v->a[o+i]? =some v):RC C N w c l o:=by
 refine BA λi x g=>?_
 obtain⟨v,d,j⟩:=h.get i x g;exact⟨v,(Jh f).trans (b i v d),u v (bA d),j⟩
abbrev xl:=@RC.of_cells
theorem P2(j:aX P C w J){a T l c}(p:Pu w w' (.cells a T (0,0)))(h:RL C (O J) w l c)(u:∀x∈c,x.oneCell=true)
  (b:∀(i:Nat) (v:Value),c[i]? =some v->a[i]? =some v):
  aX P (C.add (O J) w.heap.size 0) w' (J.new (.cells l))/\bC C (O J) w (C.add (O J) w.heap.size 0) (O J+1) w':=by
 refine j.new p (.cells l) rfl λe=>?_
 refine⟨w.heap.size,0,a,T,by simp[aO.add],p.here,?_⟩
 rw[Ao]
 exact xl p.here (h.ext e) u λi v d=>by rw[dE];exact b i v d
theorem R.newPtr{c o N a}(e:a<N)(d:C.loc a=some (c,o)):R C N w (.pr a 0) (.pointer (some ⟨c,o,none⟩)):=by
 unfold R;refine⟨_,rfl,e,λf g b=>?_⟩
 rw[d]at b;cases b;simp
theorem R.newSlice{c o N b k T a y}(f:a<N)(d:C.loc a=some (c,o))(u:b<=k)(r:∀q,y=some q->k=q)(t:o+k*T<=csize w c):
  R C N w (.sr a 0 T b y) (.slice (some ⟨c,o,none⟩) b k):=by
 unfold R;refine⟨_,k,rfl,f,u,r,λg h e=>?_⟩
 rw[d]at e;cases e
 exact⟨λ_=>by simp,by omega⟩
theorem aO.add_loc(C:aO)(a c o):(C.add a c o).loc a=some (c,o):=by simp[aO.add]
abbrev oZ:=@aO.add_loc
theorem K3(w a):Pu w { w with heap:=w.heap.push a } a:=AN rfl ⟨rfl,rfl⟩
theorem At1(w a):Pu w { w with heap:=w.heap.push a,drawn:=w.drawn+1 } a:=AN rfl ⟨rfl,rfl⟩
theorem C5{t i U}(h:P.info? t=some i)(a:i.zero=some U)(w):(zeroValue t).run P w=.ok U w:=by
 unfold zeroValue;simp[Cq h,a]
theorem Agc(j:aX P C w J){t:TypeId}{c}(a:Ay P t=some c){U}(b:c.zero=some U){v}(h:uA U J=some (v,J')):Iv P C w J (Instr.alloc t true (.tuple #[])) v J':=by
 obtain⟨i,d,f,r,s,u,_,g,x⟩:=Ap a;rw[g]at b;obtain⟨e,n,o,q,_,_⟩:=Fq (C:=C) (w:=w) (N:=O J) b;unfold uA at h;cases h;have p:=K3 w (.cells e.cells t (0,0))
 obtain⟨l,m⟩:=P2 j p o q (λi v k=>by rwa[iO]at k)
 refine⟨_,_,_,_,?_,rfl,l,by rw[Ao];exact m,by rw[Ao];exact R.newPtr (eU _) (oZ ..)⟩
 unfold Instr.alloc
 simp[C5 f n,newVar,newRow]
theorem Zp(j:aX P C w J){t n x X}(W:R C (O J) w x X){v}(h:mK n x J=some (v,J')):Iv P C w J (Instr.box t X) v J':=by
 unfold mK at h
 split at h
 ·rename_i g a
  cases h;obtain⟨e,k,l,f⟩:=Hc a W;have p:=K3 w (.cells X.cells t (0,0))
  obtain⟨c,d⟩:=P2 j p e f (λi v b=>by rwa[iO]at b)
  refine⟨_,_,_,_,?_,rfl,c,by rw[Ao];exact d,by rw[Ao];exact R.newPtr (eU _) (oZ ..)⟩
  unfold Instr.box
  simp[newVar,newRow]
 ·cases h
theorem N7(U):∀n,(rep U n).length=n*U.length
 |0=>by simp[rep]
 |n+1=>by simp[rep,N7 U n,ya];omega
theorem Ama(U)(b:0<U.length):∀(n i:Nat) (x:I),(rep U n)[i]? =some x->U[i%U.length]? =some x
 |0,i,x,h=>by simp[rep]at h
 |n+1,i,x,h=>by
  simp only[rep]at h
  by_cases a:i<U.length
  ·rw[kU a]at h;rw[wG a];exact h
  ·rw[zw z]at h;have:=Ama U b n _ x h;rw[Nat.mod_eq_sub_mod z];exact this
theorem RL.rep{U}{J:Array Value}(h:RL C N w U J.toList)(n):RL C N w (rep U n) ((Array.range (n*J.size)).map (J[·%J.size]!)).toList:=by
 have g:=h.length
 have a:U.length=J.size:=by simpa using g
 refine IG (by rw[N7];simp[a]) λi x e=>?_
 have b:=(bQ.1 e).1;rw[N7]at b
 have j:0<U.length:=by
  rcases oL U.length with c|c
  ·rw[c]at b;omega
  ·exact c
 obtain⟨v,f,k⟩:=h.get _ _ (Ama U j n i x e);refine⟨v,?_,k⟩;rw[a]at f b
 have d:J[i%J.size]? =some v:=by simpa using f
 simp only[c_,eC,iO,Array.getElem?_range]
 simp[b,getElem!_def,d]
theorem Mj{J:Array Value}(h:∀x∈J.toList,x.oneCell=true)(n):∀x∈((Array.range (n*J.size)).map (J[·%J.size]!)).toList,x.oneCell=true:=by
 intro x b;simp only[c_,dO]at b;obtain⟨i,c,rfl⟩:=b
 have d:i<n*J.size:=by simpa using c
 have f:0<J.size:=by
  rcases oL J.size with a|a
  ·rw[a]at d;omega
  ·exact a
 have e:i%J.size<J.size:=Nat.mod_lt _ f;rw[getElem!_pos J _ e]
 exact h _ zS
end
section
variable {P:Program}{C C':aO}{N N':Nat}{w w':World}{J J':F}
theorem N8:∀{d:List Field},Q7 P d=true->∃a,d.mapM (λf=>(P.info? f.type).map λi=>(f.offset,i.size))=some a/\
  ∀(i:Nat) (f:Field),d[i]? =some f->∃b,P.info? f.type=some b/\a[i]? =some (f.offset,b.size)
 |[],_=>⟨[],by simp,λi f h=>by simp at h⟩
 |f::r,h=>by
  simp only[Q7]at h
  split at h
  ·rename_i b c
   obtain⟨n,j,k⟩:=N8 h
   refine⟨(f.offset,b.size)::n,by simp[h_,c,j],λi g H=>?_⟩
   cases i with
   |zero=>simp at H;subst H;exact⟨b,c,rfl⟩
   |succ i=>obtain⟨e,l,m⟩:=k i g (by simpa using H);exact⟨e,l,by simpa using m⟩
  ·cases h
theorem Sk{E n}{a:Act}(U:E.P=P)(H:Iw C N w E)(m:TR C N w n a.tmps){j k}
  (o:∀(i:Nat) (f:Field),j[i]? =some f->∃e,P.info? f.type=some e/\k i=some (f.offset,e.size)):
  ∀{b:List (Nat×Operand)} {c:List (Nat×Nat×I)},Js P E n j b=some c->Mi C N w k c (b.map λ(i,x)=>(i,a.eval x))
 |[],c,h=>by simp only[Js,bH]at h;subst h;simp only[yS];unfold Mi;trivial
 |(i,x)::r,c,h=>by
  simp only[Js]at h
  split at h
  ·rename_i f l u v
   split at h
   ·rename_i B g
    cases h;obtain⟨e,d,s,_,_,t,_⟩:=Ap g;obtain⟨q,p,y⟩:=o i f u;rw[s]at p;cases p;simp only[fG];unfold Mi
    exact⟨⟨by rw[y,t],Be H m x⟩,Sk U H m o v⟩
   ·cases h
  ·cases h
theorem M3{E n}{a:Act}(H:Iw C N w E)(m:TR C N w n a.tmps)(P):
  ∀(b:List (Nat×Operand)),Mi C N w (λi=>some (i*P,P)) (Is E n P b) (b.map λ(i,x)=>(i,a.eval x))
 |[]=>by simp only[Is,yS];unfold Mi;trivial
 |(i,x)::r=>by
  simp only[Is,fG];unfold Mi;exact⟨⟨rfl,Be H m x⟩,M3 H m P r⟩
theorem Uf{t:TypeId}{l}(k:Ay P t=some l){e}(g:l.desc=.struct e){U}(n:l.zero=some U)(L:Q7 P e.toList=true)
  {ps a place}
  (y:∀b,e.toList.mapM (λf=>(P.info? f.type).map λi=>(f.offset,i.size))=some b->place=(b.toArray[·]?))
  (u:Mi C N w place ps a.toList){v}(h:M2 U ps J=some (v,J')):J'=J/\Dz P C N w (Instr.build t a) v:=by
 obtain⟨i,d,p,q,r,X,_,s,g7⟩:=Ap k;rw[s]at n;obtain⟨T,K,Q,S,_,_⟩:=Fq (C:=C) (w:=w) (N:=N) n;obtain⟨G,m,_⟩:=N8 L
 have x:=q.trans (by rw[<-r,g])
 unfold M2 at h
 split at h
 ·rename_i W j
  cases h;obtain⟨c,o,B,E,_⟩:=N6 u Q S j
  refine⟨rfl,.agg c,?_,by unfold R;exact⟨_,rfl,B,E⟩⟩
  rw[y G m]at o;refine run_build w t a c ?_;unfold Program.built;simp only[p,x,K,m];exact o
 ·cases h
theorem Zc{t e:TypeId}{n l y}(j:Ay P t=some l)(g:l.desc=.array n e)(f:Ay P e=some y){U}(m:l.zero=some U)
  {k a}
  (B:Mi C N w (λi=>some (i*y.size,y.size)) k a.toList){v}(h:M2 U k J=some (v,J')):J'=J/\Dz P C N w (Instr.build t a) v:=by
 obtain⟨i,d,r,s,u,g4,_,x,g7⟩:=Ap j;obtain⟨X,_,p,_,_,q,_⟩:=Ap f;rw[x]at m;obtain⟨T,L,Q,S,_,_⟩:=Fq (C:=C) (w:=w) (N:=N) m
 have E:=s.trans (by rw[<-u,g])
 unfold M2 at h
 split at h
 ·rename_i W c
  cases h;obtain⟨b,o,G,K,_⟩:=N6 B Q S c
  refine⟨rfl,.agg b,?_,by unfold R;exact⟨_,rfl,G,K⟩⟩
  unfold Instr.build;simp only[Sem.run_bind,C5 r L,Result.andThen_ok,Aa E,A9 p];rw[q]at o;simp only[o,Sem.run_pure]
 ·cases h
theorem PF{e c b}(h:P.info? e=some c)(g:c.zero=some b)(s:b.cells.size=c.size)(n):
  ∃f,(∀{i:Type} (K:Array Value->Sem i),(if n*c.size=0 then do let a<-pure #[];K a else do let l<-zeroValue e;let a<-pure l.cells;K a).run P w=(K f).run P w)/\
   (Array.range (n*c.size)).map (f[·%f.size]!)=(Array.range (n*b.cells.size)).map (b.cells[·%b.cells.size]!):=by
 by_cases d:n*c.size=0
 ·refine⟨#[],λK=>by rw[if_pos d];simp,?_⟩
  rw[s,d];simp
 ·refine⟨b.cells,λK=>by rw[if_neg d];simp[C5 h g],by rw[s]⟩
theorem Ug(j:aX P C w J){t e:TypeId}{c W y}(u:Ay P t=some W)(hd:W.desc=.slice e)(s:Ay P e=some y){U}(L:y.zero=some U)(a7:U.length=y.size)
  (bn:c*y.size<=16777216){b k a}
  (hp:Mi C (O J) w (λi=>some (i*y.size,y.size)) k a.toList){v}(h:Id U y.size c b k J=some (v,J')):
  Iv P C w J (Instr.buildSlice t c a) v J'/\(b=false->J'=J):=by
 obtain⟨i,d,g1,g2,g3,g4,_,_,_⟩:=Ap u;obtain⟨ei,ed,G,e2,e3,l,_,e6,e7⟩:=Ap s;rw[e6]at L;obtain⟨X,q1,T,q3,_,_⟩:=Fq (C:=C) (w:=w) (N:=O J) L
 have hu:=g2.trans (by rw[<-g3,hd])
 have K:X.cells.size=ei.size:=by have:=T.length;simp at this;omega
 obtain⟨zc,r1,r2⟩:=PF (P:=P) (w:=w) G q1 K c;unfold Id at h
 split at h
 ·rename_i cs m
  obtain⟨f,Q,x,S,k4⟩:=N6 hp (T.rep c) (Mj q3 c) m
  have E:(Instr.buildSlice t c a).run P w=.ok (.slice (some ⟨w.heap.size,0,none⟩) c c) { w with heap:=w.heap.push (.cells f e) }:=by
   unfold Instr.buildSlice;simp only[Sem.run_bind,Result.andThen_ok,Aa hu,A9 G]
   rw[Sem.run_ite,if_neg (by rw[<-l];omega)]
   rw[r1];simp only[r2];rw[l]at Q;simp only[Q]
   simp[newRow]
  have p:=K3 w (.cells f e (0,0))
  have iz:f.size=c*y.size:=by rw[k4];simp[K,l]
  cases b with
  |true=>
   simp only[bH,cE]at h;obtain⟨rfl,rfl⟩:=h
   obtain⟨B,g⟩:=P2 j p x S (λi v o=>by rwa[iO]at o)
   refine⟨⟨_,_,_,_,E,rfl,B,by rw[Ao];exact g,?_⟩,λn=>by cases n⟩
   rw[Ao]
   refine R.newSlice (eU _) (oZ ..) Y (λq r=>by cases r;rfl) ?_
   rw[Fl p.here,iz];omega
  |false=>
   simp only[bH,cE]at h;obtain⟨rfl,rfl⟩:=h;obtain⟨B,g⟩:=j.push p;refine⟨⟨_,_,_,_,E,rfl,B,g,?_⟩,λ_=>rfl⟩
   have hl:=x.length;unfold R
   refine⟨some ⟨w.heap.size,0,none⟩,c,rfl,Y,λq r=>by cases r;rfl,by simp at hl;omega,λn=>(by cases n),λad ha=>?_⟩
   cases ha;refine⟨λ_=>rfl,λ_ ho=>?_,?_⟩
   ·have:=j.own_lt ho;simp at this
   ·exact xl p.here (x.ext g) S λi v o=>by simpa using o
 ·cases h
end
section
variable {P:Program}{C C':aO}{N N':Nat}{w w':World}{J J':F}
theorem F.cells_get{a b}(h:J.cells a=some b):J.get a=some (.cells b):=by
 unfold F.cells at h
 split at h
 ·rename_i c H;cases h;exact H
 ·cases h
abbrev uV:=@F.cells_get
theorem S1(j:aX P C w J){a b K n l m}(H:J.get a=some (.cells K))(U:Et K b l=some n)(d:RL C (O J) w l m)(u:∀x∈m,x.oneCell=true):
  ∃c o g,C.loc a=some (c,o)/\(storeCells ⟨c,o+b,none⟩ m).run P w=.ok () g/\aX P C g (J.set a (.cells n))/\bC C (O J) w C (O J) g:=by
 obtain⟨c,o,s,T,B,p,E⟩:=j.obj a _ H;obtain⟨s1,S,s3⟩:=N5 U;have L:=d.length
 have N:m≠[]->o+b+m.length<=s.size:=λy=>by
  have hv:K≠[]:=λW=>by
   apply y
   have:l.length=0:=by rw[W]at S;simp only[lP]at S;omega
   exact oD z
  have:=E.room hv;rw[Fl p]at this;omega
 have hw:∃g,(storeCells ⟨c,o+b,none⟩ m).run P w=.ok () g/\Wr w g c (.cells (Wg s (o+b) m) T (0,0)):=by
  by_cases q:m=[]
  ·subst q;exact⟨w,by simp[storeCells],rfl,p,λ_ _=>rfl,rfl,rfl⟩
  ·exact Lq m w c (o+b) 0 s T p u (N q)
 obtain⟨g,r1,t⟩:=hw;refine⟨c,o,g,B,r1,?_⟩
 refine j.upd B t (by rw[Fl t.here,Fl p,Nf]) H (.cells n) rfl (λ_ _ _ h=>by cases h) λe=>?_
 refine⟨c,o,_,T,B,t.here,?_⟩;rw[Aq];refine BA λi x k=>?_
 rw[s3 i]at k;rw[Jh t.here]
 by_cases q:m=[]
 ·subst q
  simp at L
  rw[if_neg (by simp[L])]at k
  obtain⟨v,f,r,G⟩:=E.get i x k;rw[Jh p]at f;exact⟨v,f,r,R.ext e _ _ G⟩
 ·have X:=N q;rw[Pw m s (o+b) X]
  by_cases Q:b<=i/\i<b+l.length
  ·rw[if_pos Q]at k;rw[if_pos z];obtain⟨v,f,r⟩:=d.get _ x k
   exact⟨v,by rw[<-f];congr 1;omega,u v (bA f),R.ext e _ _ r⟩
  ·rw[if_neg Q]at k;rw[if_neg z];obtain⟨v,f,r,G⟩:=E.get i x k;rw[Jh p]at f;exact⟨v,f,r,R.ext e _ _ G⟩
theorem YH(j:aX P C w J){t:TypeId}{p}(g:Ay P t=some p){x v X m}(W:R C (O J) w x X)(b:R C (O J) w v m){u}(h:Wc p.size x v J=some (u,J')):
  u=An/\∃e,(Instr.storeAt t X m).run P w=.ok () e/\aX P C e J'/\bC C (O J) w C (O J') e:=by
 obtain⟨i,d,r,T,U,s,_⟩:=Ap g;unfold Wc at h
 split at h
 ·rename_i a y l f
  split at h
  ·rename_i vs k
   split at h
   ·rename_i Q q
    cases h;obtain⟨B,E,q3,G⟩:=Hc f b;obtain⟨c,o,e,K,n,L,N⟩:=S1 j (uV k) q B G
    refine⟨rfl,e,?_,L,by rw[Aq];exact N⟩
    unfold R at W;obtain⟨S,rfl,_,f⟩:=W;rw[f c o K];unfold Instr.storeAt storeVar;simp only[Instr.sureAddr,Sem.run_bind,Sem.run_pure,Result.andThen_ok,A9 r,Sem.run_ite]
    rw[if_neg (by rw[E,s];simp)]
    first|exact n|(simp only[Sem.run_bind,Sem.run_pure,Result.andThen_ok];exact n)
   ·cases h
  ·cases h
 ·cases h
theorem Hd(U n):Builtin.zeroCells U n=(Array.range (n*U.size)).map (U[·%U.size]!):=rfl
theorem WW(j:aX P C w J){t e ty:TypeId}{v y}(q:Ay P t=some v)(hd:v.desc=.slice e)(p:Ay P e=some y){U}(B:y.zero=some U)(a8:U.length=y.size)
  {x X}(W:R C (O J) w x X){u}(h:yv U y.size x J=some (u,J')):
  u=An/\∃f,(Builtin.clear_ #[t] ty #[X]).run P w=.ok (.tuple #[]) f/\aX P C f J'/\bC C (O J) w C (O J') f:=by
 obtain⟨i,d,g1,S,T,g4,_,_,_⟩:=Ap q;obtain⟨ei,ed,L,e2,e3,e4,_,Q,e7⟩:=Ap p;rw[Q]at B;obtain⟨l,q1,E,q3,_,_⟩:=Fq (C:=C) (w:=w) (N:=O J) B
 have m:=S.trans (by rw[<-T,hd])
 have hZ:U.length=l.cells.size:=by have:=E.length;simpa using this
 unfold yv at h
 split at h
 ·rename_i a a9 sz b G
  split at h
  ·rename_i vs a7 r
   split at h
   ·rename_i aa K
    cases h;refine⟨rfl,?_⟩;obtain⟨c,o,f,r1,g,r3,r4⟩:=S1 (P:=P) j (uV r) K (E.rep b) (Mj q3 b)
    refine⟨f,?_,r3,by rw[Aq];exact r4⟩
    unfold R at W;obtain⟨s,k,rfl,_,hk,_,hl⟩:=W;unfold Builtin.clear_;cases b with
    |zero=>
     have:f=w:=by
      have:((Array.range (0*l.cells.size)).map (l.cells[·%l.cells.size]!)).toList=[]:=by simp
      rw[this]at g;simp[storeCells]at g;exact g.symm
     subst this
     simp[Aa m]
    |succ n=>
     rw[(hl c o r1).1 z];simp only[c_,Array.toList_range]at g
     simp[Aa m,C5 L q1,Hd,g]
   ·cases h
  ·cases h
 ·cases h;unfold R at W;obtain⟨rfl,_⟩:=W;refine⟨rfl,w,?_,j,dJ _ _ _⟩;unfold Builtin.clear_;simp[Aa m]
 ·cases h;unfold R at W;obtain⟨s,k,rfl,_⟩:=W;refine⟨rfl,w,?_,j,dJ _ _ _⟩;cases s<;>(unfold Builtin.clear_;simp[Aa m])
 ·cases h
theorem Rf{c b}(h:c*(b+1)<=az):c<=az/\c*b<=az:=by
 have a:c*1<=c*(b+1):=Nat.mul_le_mul_left _ z;have d:c*b<=c*(b+1):=Nat.mul_le_mul_left _ z
 constructor<;>omega
theorem N9{n}(h:n<=az):IntKind.i64.wrap (Int.ofNat n)=Int.ofNat n:=
 Pz .i64 _ (by simp only[M0];rw[sR];unfold az at h;omega)
theorem Wm(hs:aX P C w J){t e:TypeId}{T y}(x:Ay P t=some T)(hd:T.desc=.slice e)(u:Ay P e=some y){U}(Q:y.zero=some U)(a7:U.length=y.size)
  {l c L K}(G:R C (O J) w l L)(E:R C (O J) w c K){v}(h:Nz U y.size y.bytes l c J=some (v,J')):Iv P C w J (Instr.makeSlice t L K) v J':=by
 obtain⟨i,d,g1,g2,g3,g4,_,_,_⟩:=Ap x;obtain⟨j,ed,o,e2,e3,W,X,e6,e7⟩:=Ap u;rw[e6]at Q;obtain⟨g,q1,S,q3,_,_⟩:=Fq (C:=C) (w:=w) (N:=O J) Q
 have hu:=g2.trans (by rw[<-g3,hd])
 have B:g.cells.size=j.size:=by have:=S.length;simp at this;omega
 unfold Nz at h
 split at h
 ·rename_i n m
  cases k:(Nat.ble n m&&Nat.ble (m*(y.bytes+1)) az)
  ·simp[k]at h
  ·simp only[k,cond_true,bH,cE]at h;obtain⟨rfl,rfl⟩:=h;simp only[bg,sR]at k;obtain⟨a,s⟩:=k;obtain⟨b,f⟩:=Rf s;unfold R at G E;subst G E;obtain⟨zc,r1,r2⟩:=PF (P:=P) (w:=w) o q1 B m;have p:=K3 w (.cells ((Array.range (m*g.cells.size)).map (g.cells[·%g.cells.size]!)) e (0,0))
   obtain⟨s1,s2⟩:=P2 hs p (S.rep m) (Mj q3 m) (λi v hi=>by rwa[iO]at hi)
   refine⟨.slice (some ⟨w.heap.size,0,none⟩) n m,_,_,_,?_,rfl,s1,by rw[Ao];exact s2,?_⟩
   ·unfold Instr.makeSlice;simp only[Sem.run_bind,Result.andThen_ok,Aa hu,asInt,asIntOf,Sem.run_pure,Cq o,N9 b,N9 (bD a b)]
    have hm:¬((j.bytes:Int)*(m:Int)>2 ^ 48):=by
     rw[X]at f
     have h1:j.bytes*m<=az:=by rw[Nat.mul_comm];exact f
     have h2:=dQ.2 h1;rw[BC]at h2
     have h3:((az:Nat):Int)<2 ^ 48:=by decide
     generalize (j.bytes:Int)*(m:Int)=q at *
     generalize (2:Int) ^ 48=r at *
     omega
    rw[Sem.run_ite,if_neg]
    ·simp only[Sem.run_bind,run_askRoom,Result.andThen_ok,A9 o,xB,ep,r1];rw[r2]
     simp[newRow]
    ·simp only[ep,eO,decide_eq_true_eq,not_or]
     refine⟨⟨⟨by omega,hm⟩,by omega⟩,by omega⟩
   ·rw[Ao]
    refine R.newSlice (eU _) (oZ ..) a (λq hq=>by cases hq;rfl) ?_
    rw[Fl p.here]
    simp[B,W]
 ·cases h
end
section
variable {P:Program}{C C':aO}{N N':Nat}{w w':World}{J J':F}
theorem RL.take:∀(n:Nat) {l:List I} {a:List Value},RL C N w l a->RL C N w (l.take n) (a.take n)
 |0,_,_,_=>by simp only[List.take_zero];unfold RL;trivial
 |n+1,[],[],_=>by simp only[List.take_nil];unfold RL;trivial
 |n+1,x::r,v::s,h=>by
  unfold RL at h;simp only[List.take_succ_cons];unfold RL;exact⟨h.1,RL.take n h.2⟩
 |_+1,[],_::_,h=>by unfold RL at h;exact h.elim
 |_+1,_::_,[],h=>by unfold RL at h;exact h.elim
theorem Xj{t:TypeId}{c}(g:Ay P t=some c){d a}(j:RL C N w d a.toList)(T:∀x∈a.toList,x.oneCell=true){b v}(h:Ff c (d.drop b)=some v):
  Dz P C N w (part t a b) v:=by
 obtain⟨f,L,n,o,Q,p,_,_,q⟩:=Ap g;unfold Ff at h;unfold part Dz;simp only[Sem.run_bind,Fp o,Result.andThen_ok];rw[<-q];have k:=j.drop b;cases i:c.isAgg
 ·simp only[i]at h;simp only[fY,if_false]
  split at h
  ·rename_i u r s
   cases h
   have:(d.drop b)[0]? =some v:=by rw[s];rfl
   obtain⟨x,G,J⟩:=k.get 0 v this
   have:a[b]? =some x:=by simpa using G
   exact⟨x,by simp[this],J⟩
  ·cases h
 ·simp only[i]at h
  split at h
  ·rename_i l B
   cases h
   refine⟨.agg (a.extract b (b+f.size)),by simp[A9 n],?_⟩
   obtain⟨K,S⟩:=Hu B;unfold R;refine⟨_,rfl,?_,?_⟩
   ·have e:(a.extract b (b+f.size)).toList=(a.toList.drop b).take c.size:=by
     rw[p];simp[AH]
    rw[e,K];exact k.take _
   ·intro y m;refine T y ?_
    simp at m
    have E:y∈(a.toList.drop b).take f.size:=by simpa[AH]using m
    exact HB (kJ E)
  ·cases h
theorem Yo{t e:TypeId}{b p y}(l:Ay P t=some p)(g:p.desc=.array b e)(c:Ay P e=some y){x i X q}(W:R C N w x X)(L:R C N w i q){v}
  (h:Le y b x i J=some (v,J')):J'=J/\Dz P C N w (Instr.index t X q) v:=by
 obtain⟨_,d,_,B,E,_⟩:=Ap l;obtain⟨ei,_,r,_,_,s,_⟩:=Ap c
 have G:=B.trans (by rw[<-E,g])
 unfold Le at h
 split at h
 ·rename_i U k n
  cases f:Nat.blt n b
  ·simp[f]at h
  ·simp only[f,cond_true]at h
   split at h
   ·rename_i u m
    cases h;have j:n<b:=dB f;unfold R at W L;subst L;obtain⟨a,rfl,Q,S⟩:=W;obtain⟨T,o,K⟩:=Xj (P:=P) c Q S m;refine⟨rfl,T,?_,K⟩;unfold Instr.index;simp only[asIntOf,Sem.run_bind,Sem.run_pure,Result.andThen_ok,Aa G]
    rw[if_pos ⟨by simp,by simpa using j⟩]
    rw[s]at o
    simp[A9 r,o]
   ·cases h
 ·cases h
theorem Xp:∀(l:List Nat) (i:Nat),(Iq l)[i]? =(l[i]?).map λb=>.int .u8 (.ofNat b)
 |[],i=>by simp[Iq]
 |b::r,0=>by simp[Iq]
 |b::r,i+1=>by simp[Iq,Xp r i]
theorem P3(l):(Iq l).length=l.length:=by induction l with|nil=>rfl|cons b r a=>simp[Iq,a]
theorem RL.bytes(s):RL C N w (Iq (B2 s)) ((s.data.map λb=>Value.int .u8 b.toNat).toList):=by
 refine IG (by rw[P3];simp[B2]) λi x a=>?_
 rw[Xp]at a;unfold B2 at a;simp only[eC,Option.map_map,pR]at a;obtain⟨b,c,d⟩:=a
 refine⟨.int .u8 b.toNat,by simp only[c_,eC,c];rfl,?_⟩
 rw[<-d];unfold R;rfl
theorem Sm(s:ByteArray):∀x∈(s.data.map λb=>Value.int .u8 b.toNat).toList,x.oneCell=true:=by
 intro x a;simp only[c_,dO]at a;obtain⟨b,_,rfl⟩:=a;rfl
theorem Lw:∀(b:List I) (c o i:Nat) (a:Array Value),RC C N w c b (o+i)->
  ∃l,(∀k,(loadCellsFrom ⟨c,o,none⟩ i b.length a).run P { w with drawn:=k }=.ok (a++l.toArray) { w with drawn:=k })/\RL C N w b l/\∀x∈l,x.oneCell=true
 |[],c,o,i,a,_=>⟨[],by simp[loadCellsFrom],by unfold RL;trivial,by simp⟩
 |x::r,c,o,i,a,h=>by
  unfold RC at h;obtain⟨⟨v,e,f,g⟩,j⟩:=h;obtain⟨l,m,n,p⟩:=Lw r c o (i+1) (a.push v) j
  refine⟨v::l,λk=>?_,by unfold RL;exact⟨g,n⟩,by simpa[f]using p⟩
  have d:World.cell? { w with drawn:=k } ⟨c,o+i,none⟩=some v:=e;simp only[cZ,loadCellsFrom,Sem.run_bind,run_load,Hb,d,Result.andThen_ok,m]
  simp
theorem P4{b c o}(h:RC C N w c b o):
  ∃a,(∀k,(loadCells ⟨c,o,none⟩ b.length).run P { w with drawn:=k }=.ok a { w with drawn:=k })/\RL C N w b a.toList/\∀x∈a.toList,x.oneCell=true:=by
 obtain⟨l,d,e,f⟩:=Lw (P:=P) b c o 0 #[] h
 exact⟨l.toArray,by simpa[loadCells]using d,by simpa using e,by simpa using f⟩
theorem Ji(hs:aX P C w J){x X}(W:R C (O J) w x X){N n m}(d:lenA x=some m)(hn:n<=m){q}(h:F9 J N x n=some q):
  (∀S,(Builtin.lenOf X).run P S=.ok m S)/\∃a,(∀k,(Builtin.firstCells N n X).run P { w with drawn:=k }=.ok a { w with drawn:=k })/\RL C (O J) w q a.toList/\(∀y∈a.toList,y.oneCell=true)/\q.length=n*N:=by
 unfold F9 at h
 split at h
 ·rename_i b E Q B p
  simp only[lenA,bH]at d;subst d
  split at h
  ·rename_i vs v
   unfold R at W;obtain⟨j,k,rfl,_,hk,_,U⟩:=W;refine⟨λ_=>rfl,?_⟩
   have f:=(Hu h).2
   rcases oL n with i|i
   ·subst i;rw[lH]at h f⊢
    simp[Dr]at h;subst h
    refine⟨#[],λ_=>by unfold Builtin.firstCells;rw[lH];rfl,by unfold RL;trivial,by simp,rfl⟩
   ·obtain⟨c,o,r,T,k1,k2,k3⟩:=hs.obj b _ (uV v);have e:=(U c o k1).1 z;obtain⟨a,G,K,L⟩:=P4 (P:=P) ((k3.drop E).take _ h);refine⟨a,?_,K,L,f⟩;unfold Builtin.firstCells;rw[e,<-f];exact G
  ·cases h
 ·rename_i r Q B p
  simp only[lenA,bH]at d;subst d;unfold R at W;obtain⟨g,k,rfl,hk,_,a7,kx,bs⟩:=W;refine⟨λ_=>rfl,?_⟩
  have f:=(Hu h).2
  rcases oL n with i|i
  ·subst i;rw[lH]at h f⊢
   simp[Dr]at h;subst h
   refine⟨#[],λ_=>by cases g<;>(unfold Builtin.firstCells;rw[lH];rfl),by unfold RL;trivial,by simp,rfl⟩
  ·obtain _|j:=g
   ·have:=kx rfl;omega
   obtain⟨u,bf,t⟩:=bs j rfl;have e:=u z;obtain⟨b,o,sp⟩:=j;simp only at e;subst e;obtain⟨a,G,K,L⟩:=P4 (P:=P) (t.take _ h);refine⟨a,?_,K,L,f⟩;unfold Builtin.firstCells;rw[<-f];exact G
 ·simp only[lenA,bH]at d;subst d
  split at h
  ·cases h;unfold R at W;obtain⟨rfl,_⟩:=W
   exact⟨λ_=>rfl,#[],λ_=>rfl,by unfold RL;trivial,by simp,by simp⟩
  ·cases h
 ·rename_i l
  simp only[lenA,bH]at d;subst d;unfold R at W;obtain⟨s,rfl,rfl⟩:=W
  split at h
  ·refine⟨λ_=>by unfold Builtin.lenOf;rw[Fg];rfl,?_⟩
   obtain⟨t1,t2⟩:=Hu h
   have e:((s.extract 0 n).data.map λb=>Value.int .u8 b.toNat).toList=((s.data.map λb=>Value.int .u8 b.toNat).toList).take n:=by
    simp[ByteArray.data_extract,List.map_take]
   refine⟨_,λ_=>rfl,by rw[e,t1];exact(RL.bytes s).take n,Sm _,by omega⟩
  ·cases h
 ·cases h
theorem Bae:∀{j:List I} {l:List Nat} {d:List Value},z9 j=some l->RL C N w j d->∃f:List UInt8,d=f.map (λb=>Value.int .u8 b.toNat)/\f.map UInt8.toNat=l
 |[],l,d,h,a=>by
  simp only[z9,bH]at h;subst h;cases d with
  |nil=>exact⟨[],rfl,rfl⟩
  |cons v s=>unfold RL at a;exact a.elim
 |x::r,l,d,h,a=>by
  unfold z9 at h
  split at h
  ·rename_i c;cases c
  ·rename_i n q c
   cases c
   split at h
   ·rename_i p i
    cases g:Nat.blt n 256
    ·simp[g]at h
    ·simp only[g,cond_true,bH]at h;subst h;have e:n<256:=dB g;cases d with
     |nil=>unfold RL at a;exact a.elim
     |cons v s=>
      unfold RL at a;obtain⟨f,m,o⟩:=Bae i a.2;have k:=a.1;unfold R at k;refine⟨UInt8.ofNat n::f,?_,?_⟩
      ·rw[k,m];simp[wG e]
      ·simp[o,wG e]
   ·cases h
  ·cases h
end
section
variable {P:Program}{C C':aO}{N N':Nat}{w w':World}{J J':F}
theorem Aar{s d p k}(j:P.underlying s=some p)(g:P.underlying d=some (.int k)){x X}(W:R C N w x X){v}(h:Pp k x J=some (v,J')):
  J'=J/\Dz P C N w (convert s d X) v:=by
 unfold Pp at h
 split at h
 ·cases h;unfold R at W;subst W
  refine⟨rfl,_,?_,by rw[Nh];unfold R;rfl⟩
  unfold convert;simp only[Sem.run_bind,Aa j,Aa g,Result.andThen_ok,Conv.intToInt,Sem.run_pure]
 ·cases h
theorem WI{s d p k}(j:P.underlying s=some p)(g:P.underlying d=some (.float k)){x X}(W:R C N w x X){v}(h:CR k x J=some (v,J')):
  J'=J/\Dz P C N w (convert s d X) v:=by
 unfold CR at h;cases h
theorem XR{s d p}(j:P.underlying s=some p)(g:P.underlying d=some .string){x X}(W:R C N w x X){v}(h:T4 x J=some (v,J')):
  J'=J/\Dz P C N w (convert s d X) v:=by
 unfold T4 at h
 split at h
 ·cases h;refine⟨rfl,X,?_,W⟩;unfold R at W;obtain⟨b,rfl,_⟩:=W;unfold convert;simp only[Sem.run_bind,Aa j,Aa g,Result.andThen_ok,Sem.run_pure]
 ·cases h
theorem Bdj{X:Value}{n:Nat}(h:lenA (.nil X)=some n):X=.slice none 0 0/\n=0:=by
 unfold lenA at h
 split at h
 ·rename_i a;cases a
 ·rename_i a;cases a
 ·rename_i a;cases a;cases h;exact⟨rfl,rfl⟩
 ·rename_i a;cases a
 ·cases h
theorem Baz(f:Value->ByteArray->Sem (ForInStep ByteArray))(N:∀(b:UInt8) (a:ByteArray),f (.int .u8 b.toNat) a=pure (ForInStep.yield (a.push b))):∀(c:List UInt8) (a:ByteArray),
  (forIn (c.map λb=>Value.int .u8 b.toNat) a f:Sem ByteArray).run P w=.ok ⟨a.data++c.toArray⟩ w
 |[],a=>by simp
 |b::r,a=>by
  simp only[fG,List.forIn_cons,N,Sem.run_bind,Sem.run_pure,Result.andThen_ok];rw[Baz f N r]
  congr 1
  congr 1
  simp[ByteArray.push]
theorem S2(j:aX P C w J){s d e}(U:P.underlying s=some (.slice e))(g:P.underlying d=some .string)(p:P.underlying e=some (.int .u8)){x X}(W:R C (O J) w x X){v}
  (h:Ny x J=some (v,J')):J'=J/\Dz P C (O J) w (convert s d X) v:=by
 unfold Ny at h;cases h
theorem P5(w a b e):a<=grownCap w a b e:=by
 unfold grownCap Question.cut;simp
theorem S3(j:aX P C w J){s d e}(U:P.underlying s=some .string)(g:P.underlying d=some (.slice e))(y:P.underlying e=some (.int .u8)){x X}(W:R C (O J) w x X){v}
  (h:Kx x J=some (v,J')):J'=J/\Iv P C w J (convert s d X) v J':=by
 unfold Kx at h
 split at h
 ·rename_i l
  unfold R at W;obtain⟨b,rfl,o⟩:=W
  have m:v=.sv (Iq l) 1 l.length none/\J'=J:=by
   split at h
   ·cases h;exact⟨rfl,rfl⟩
   ·cases h;exact⟨rfl,rfl⟩
  obtain⟨rfl,rfl⟩:=m;refine⟨rfl,?_⟩
  have f:l.length=b.size:=by rw[<-o,Fg]
  let c:Array Value:=(b.data.map λb=>Value.int .u8 b.toNat)++Array.replicate (grownCap w b.size 0 e-b.size) (.int .u8 0)
  let a:World:=({ w with heap:=w.heap.push (.cells c e (0,0)),drawn:=w.drawn+1 }:World).freeze ⟨w.heap.size,c.size,none⟩ 1
  have t:(convert s d (.string b)).run P w=.ok (.slice (some ⟨w.heap.size,0,none⟩) b.size (grownCap w b.size 0 e)) a:=by
   unfold convert;simp only[Sem.run_bind,Aa U,Aa g,Result.andThen_ok,Aa y];unfold Conv.stringToBytes
   simp[-World.alloc_eq,-World.drew_eq,Question.forced,newRow,markStringish,World.shape?,grownCap,a,c]
  have G:∃n,Pu w a (.cells c e n):=by
   refine⟨(c.size,c.size+1),by simp[a,World.freeze],?_,λx W=>?_,by simp[a,World.freeze]⟩
   ·simp[a,World.freeze,Array.getElem_modify]
   ·simp only[a,World.freeze]
    rw[if_neg zD]
    simp only[xF];rw[if_neg z];rw[Array.getElem?_push_lt W];exact(IW W).symm
  obtain⟨n,p⟩:=G;obtain⟨L,N⟩:=j.push p;refine⟨_,_,a,C,t,rfl,L,N,?_⟩;unfold R
  refine⟨_,_,by rw[f],by rw[f];exact P5 _ _ _ _,λq K=>(by cases K),by rw[P3,lT],λB=>(by cases B),λQ u=>?_⟩
  cases u;refine⟨λ_=>rfl,λ_ E=>?_,?_⟩
  ·have:=j.own_lt E;simp at this
  ·refine xl p.here (vs:=(b.data.map λb=>Value.int .u8 b.toNat).toList) (by rw[<-o];exact RL.bytes b) (Sm b) λi v r=>?_
   have k:=(bQ.1 r).1;rw[dE]
   rw[CB (by simpa using k)]
   rwa[iO]at r
 ·cases h
end
section
variable {P:Program}{C C':aO}{N N':Nat}{w w':World}{J J':F}
def zV(P:Program)(w:World)(e:TypeId)(b:TypeInfo)(d:Value)(c:TypeId)(x:Value)(n:Nat)(new:Array Value):Prop:=
 (∃a,P.underlying c=some a/\(∀k,a≠.int k)/\(∀k,(Builtin.lenOf x).run P { w with drawn:=k }=.ok n { w with drawn:=k })/\∀k,(Builtin.firstCells b.size n x).run P { w with drawn:=k }=.ok new { w with drawn:=k })\/
 (∃k,P.underlying c=some (.int k)/\x=.int .i64 (.ofNat n)/\n*(b.bytes+1)<=az/\new=Builtin.zeroCells d.cells n)
theorem Xq{d:TypeDesc}(h:∀k,d≠.int k):(match d with|.int _=>true|_=>false)=false:=by
 cases d<;>first|rfl|exact absurd rfl (h _)
theorem Lx{t K ty e c r}(m:P.underlying t=some (.slice e))(p:P.info? e=some c)(J:c.zero=some r)(h:r.cells.size=c.size){u S l n x new}
  (H:zV P w e c r K x n new)(f:S+n<=l){w'}
  (o:∀a,u=some a->(storeCells (a.add (S*c.size)) new.toList).run P w=.ok () w')(i:u=none->w'=w):
  (Builtin.append_ #[t,K] ty #[.slice u S l,x]).run P w=.ok (.slice u (S+n) l) w':=by
 rcases H with⟨R,d,v,y,L⟩|⟨k,d,rfl,y,rfl⟩
 ·have E:=y w.drawn;have C:=L w.drawn;have G:=Xq v;cases u with
  |none=>
   rw[i rfl]
   simp[Builtin.append_,Aa m,Aa d,G,A9 p,E,f,C]
  |some a=>
   have:=o a rfl
   simp[Builtin.append_,Aa m,Aa d,G,A9 p,E,f,C,this]
 ·obtain⟨N,Q⟩:=Rf y;have j:=N9 N
  have s:¬(281474976710656<(n:Int)*(c.bytes:Int)):=by
   have v:=dQ.2 Q;rw[BC]at v
   have T:((az:Nat):Int)<=281474976710656:=by decide
   generalize (n:Int)*(c.bytes:Int)=q at *
   omega
  have b:¬((n:Int)<0):=by omega
  simp only[ep]at j
  by_cases g:n*c.size=0
  ·have B:Builtin.zeroCells r.cells n=#[]:=by rw[Hd,h,g];simp
   rw[B]at o;cases u with
   |none=>
    rw[i rfl]
    simp[Builtin.append_,Aa m,Aa d,A9 p,Cq p,asInt,asIntOf,j,b,s,f,g]
   |some a=>
    have:=o a rfl
    simp[Builtin.append_,Aa m,Aa d,A9 p,Cq p,asInt,asIntOf,j,b,s,f,g,this]
  ·cases u with
   |none=>
    rw[i rfl]
    simp[Builtin.append_,Aa m,Aa d,A9 p,Cq p,asInt,asIntOf,j,b,s,f,g,C5 p J]
   |some a=>
    have:=o a rfl
    simp[Builtin.append_,Aa m,Aa d,A9 p,Cq p,asInt,asIntOf,j,b,s,f,g,C5 p J,this]
theorem Yp{t N ty e b j}(m:P.underlying t=some (.slice e))(p:P.info? e=some b)(G:b.zero=some j)(h:j.cells.size=b.size){u S l n x i new}
  (H:zV P w e b j N x n new)(r:l<S+n)(Q:(S+n)*(b.bytes+1)<=az)
  (a:∀k,(Builtin.firstCells b.size S (.slice u S l)).run P { w with drawn:=k }=.ok i { w with drawn:=k }):
  ∃g,(Builtin.append_ #[t,N] ty #[.slice u S l,x]).run P w=.ok (.slice (some ⟨w.heap.size,0,none⟩) (S+n) (grownCap w (S+n) l e))
   { w with heap:=w.heap.push (.cells (i++new++g) e),drawn:=w.drawn+1 }/\g.size=(grownCap w (S+n) l e-(S+n))*b.size:=by
 refine⟨Builtin.zeroCells j.cells (grownCap w (S+n) l e-(S+n)),?_,by rw[Hd,h];simp⟩
 obtain⟨l1,l2⟩:=Rf Q
 have C:¬(S+n<=l):=by omega
 have d:¬(9223372036854775807<((S:Int)+(n:Int))):=by unfold az at l1;omega
 have cj:Builtin.nextslicecap (S+n) l*b.bytes<=281474976710656:=growslice_fits r (by unfold az at l2;omega)
 have c:¬(281474976710656<Builtin.nextslicecap (S+n) l*b.bytes):=by omega
 have L:∀k,(Builtin.firstCells b.size S (.slice u S l)).run P { w with drawn:=k }=.ok i { w with drawn:=k }:=a
 rcases H with⟨d2,s,y,B,R⟩|⟨k,s,rfl,B,rfl⟩
 ·have X:=B w.drawn;have W:=R (w.drawn+1);have f:=L (w.drawn+1);have hm:=Xq y
  simp[-World.drew_eq,Builtin.append_,Aa m,Aa s,hm,A9 p,Cq p,X,C,d,c,Question.forced,W,f,newRow,grownCap,C5 p G]
  rfl
 ·obtain⟨T,U⟩:=Rf B;have E:=N9 T
  have K:¬(281474976710656<(n:Int)*(b.bytes:Int)):=by
   have y:=dQ.2 U;rw[BC]at y
   have h7:((az:Nat):Int)<=281474976710656:=by decide
   generalize (n:Int)*(b.bytes:Int)=q at *
   omega
  have o:¬((n:Int)<0):=by omega
  have f:=L (w.drawn+1);simp only[ep]at E
  by_cases v:n*b.size=0
  ·have J:Builtin.zeroCells j.cells n=#[]:=by rw[Hd,h,v];simp
   rw[J]
   simp[-World.drew_eq,Builtin.append_,Aa m,Aa s,A9 p,Cq p,asInt,asIntOf,E,o,K,C,d,c,Question.forced,f,newRow,grownCap,C5 p G,v]
   rfl
  ·simp[-World.drew_eq,Builtin.append_,Aa m,Aa s,A9 p,Cq p,asInt,asIntOf,E,o,K,C,d,c,Question.forced,f,newRow,grownCap,C5 p G,v]
   rfl
end
section
variable {P:Program}{C C':aO}{N N':Nat}{w w':World}{J J':F}
theorem Oa(hs:aX P C w J){t Q ty e g j T b}(ht:P.underlying t=some (.slice e))(X:P.info? e=some g)(q:T=g.size)(s:b=g.bytes)(hz:g.zero=some j)(W:j.cells.size=g.size)
  {u S l n y old new d c}(H:zV P w e g j Q y n new)
  (a:∀k,(Builtin.firstCells g.size S (.slice u S l)).run P { w with drawn:=k }=.ok old { w with drawn:=k })
  (N:RL C (O J) w d old.toList)(m:∀x∈old.toList,x.oneCell=true)(o:d.length=S*T)
  (L:RL C (O J) w c new.toList)(f:∀x∈new.toList,x.oneCell=true)(E:c.length=n*T)
  (r:l<S+n){v}(h:Ja T b n c d S J=some (v,J')):
  Iv P C w J (Builtin.append_ #[t,Q] ty #[.slice u S l,y]) v J':=by
 unfold Ja at h;cases K:Nat.ble ((S+n)*(b+1)) az
 ·grind
 ·simp only[K,cond_true,Ak,bH,cE]at h;obtain⟨rfl,rfl⟩:=h
  have U:(S+n)*(g.bytes+1)<=az:=by rw[<-s];exact dB K
  obtain⟨i,r1,r2⟩:=Yp (ty:=ty) ht X hz W H r U a;have p:=At1 w (.cells (old++new++i) e (0,0));obtain⟨s1,s2⟩:=P2 hs p (N.append L) (λx hx=>(dW.1 hx).elim (m x) (f x)) Z
  refine⟨_,_,_,_,r1,rfl,s1,Z,?_⟩;rw[Ao];refine R.newSlice (eU _) (oZ ..) (P5 _ _ _ _) Z ?_;rw[Fl p.here];have B:=N.length;have G:=L.length;have h3:=P5 w (S+n) l e;simp only[kE]at B G;simp only[Array.size_append,r2];rw[<-B,<-G,o,E,<-q,dE,<-wI,<-wI]
  grind
theorem RL.nil_iff{a}:RL C N w [] a->a=[]:=by
 cases a with
 |nil=>intro;rfl
 |cons v r=>intro h;unfold RL at h;exact h.elim
abbrev zo:=@RL.nil_iff
theorem Ado{d c:List I}{a b}(h:Dr b (d.drop a)=some c):∀(i:Nat) (x:I),c[i]? =some x->d[a+i]? =some x:=by
 intro i x e;rw[(Hu h).1,tJ]at e
 grind
theorem Sn(j:aX P C w J){t t2 ty e W am sz E}(ht:P.underlying t=some (.slice e))(he:P.info? e=some W)(s:sz=W.size)(X:E=W.bytes)(hz:W.zero=some am)(hZ:am.cells.size=W.size)
  {d al y n new S}(g:R C (O J) w d al)(H:zV P w e W am t2 y n new)
  (hn:RL C (O J) w S new.toList)(f:∀x∈new.toList,x.oneCell=true)(a8:S.length=n*sz){v}(h:B6 J sz E d n S=some (v,J')):
  Iv P C w J (Builtin.append_ #[t,t2] ty #[al,y]) v J':=by
 cases n with
 |zero=>
  have fu:new.toList=[]:=zo (C:=C) (N:=O J) (w:=w) Z
  have aw:∀a9 p k,al=.slice a9 p k->p<=k->Iv P C w J (Builtin.append_ #[t,t2] ty #[al,y]) d J:=by
   rintro a9 p k rfl hk
   refine⟨_,_,w,C,Lx (ty:=ty) (w':=w) ht he hz hZ H z (λa _=>by rw[fu];simp[storeCells]) zF,rfl,j,dJ _ _ _,g⟩
  simp only[B6]at h
  split at h
  ·cases h;unfold R at g;grind
  ·cases h;have B:=g;unfold R at B;grind
  ·cases h;have B:=g;unfold R at B;grind
  ·cases h
 |succ n'=>
  simp only[B6]at h
  split at h
  ·unfold R at g;obtain⟨rfl,_⟩:=g
   exact Oa (old:=#[]) j ht he s X hz hZ H (λk=>rfl) (by unfold RL;trivial) zS zS hn f a8 z h
  ·rename_i U L p q
   cases hb:(Nat.beq L sz&& !Nat.ble (p+(n'+1)) q)
   ·grind
   ·simp only[hb,cond_true]at h;simp only[bg,eQ]at hb;have iz:=bK hb.1
    have hq:¬(p+(n'+1)<=q):=λae=>by have:=dS ae;grind
    have B:=g;unfold R at B;obtain⟨ad,k,rfl,hk,fw,ax,_⟩:=B;have ah:=fw q rfl
    have ef:F9 J W.size (.sv U L p (some q)) p=some U:=by
     have:Dr (p*W.size) U=some U:=by
      have ay:∀(l:List I),Dr l.length l=some l:=by
       intro l;induction l with
       |nil=>rfl
       |cons x r ih=>simp[Dr,ih]
      grind
     exact this
    obtain⟨_,old,o1,o2,o3,o4⟩:=Ji (P:=P) j g (m:=p) rfl Y ef;exact Oa j ht he s X hz hZ H o1 o2 o3 Z hn f a8 z h
  ·rename_i a K L p an
   cases hb:Nat.beq L sz
   ·grind
   ·simp only[hb,cond_true]at h;have iz:=bK hb
    split at h
    ·cases h
    ·rename_i vs ak
     split at h
     ·cases h
     ·rename_i G aj
      have ac:=uV ak;have B:=g;unfold R at B;obtain⟨ad,k,rfl,ag,hk,fw,bk⟩:=B
      have ef:F9 J W.size (.sr a K L p an) p=some G:=by
       simp only[F9,ak,<-s];grind
      obtain⟨_,old,o1,o2,o3,o4⟩:=Ji (P:=P) j g (m:=p) rfl Y ef;rw[<-s]at o4;obtain⟨c,o,U,T,l1,l2,l3⟩:=j.obj a _ ac;obtain⟨af,e9⟩:=bk c o l1
      split at h
      ·rename_i q
       have ah:=fw q rfl;subst ah
       split at h
       ·rename_i Q
        have Q:=dB Q
        split at h
        ·rename_i bx cd
         simp only[Ak,bH,cE]at h;obtain⟨rfl,rfl⟩:=h;obtain⟨c',o',w',r1,r2,r3,r4⟩:=S1 j ac cd hn f;rw[l1]at r1;cases r1;have e:=af z;refine⟨_,_,w',C,Lx (ty:=ty) ht he hz hZ H Q (λb aa=>?_) Z,rfl,r3,Z,?_⟩
         ·cases aa;rw[e,Hb,<-s];grind
         ·rw[Aq];unfold R;refine⟨ad,k,rfl,ag,Q,Z,λc' o' a7=>?_⟩
          rw[l1]at a7;cases a7
          exact⟨λ_=>e,by rw[<-iz,r4.bsz a ag c o l1];grind⟩
        grind
       ·rename_i Q
        have hq:¬(p+(n'+1)<=k):=λae=>by have:=dS ae;grind
        exact Oa j ht he s X hz hZ H o1 o2 o3 o4 hn f a8 z h
      ·by_cases Q:p+(n'+1)<=k
       ·
        unfold Ja at h;cases ao:Nat.ble ((p+(n'+1))*(E+1)) az
        ·grind
        ·simp only[ao,cond_true,Ak,bH,cE]at h;obtain⟨rfl,rfl⟩:=h;have e:=af z;have kz:=hn.length;simp only[kE]at kz;have ap:csize w c=U.size:=Fl l2;rw[ap]at e9;have ar:(p+(n'+1))*sz<=k*sz:=wH _ Q;rw[wI]at ar;have eg:o+(K+p*sz)+0+new.toList.length<=U.size:=Z;obtain⟨w',r1,r2⟩:=Lq (P:=P) new.toList w c (o+(K+p*sz)) 0 U T l2 f eg;rw[oE]at r2 eg
         have au:csize w' c=U.size:=by rw[Fl r2.here,Nf]
         obtain⟨s1,s2⟩:=j.replace l1 r2 ac (.cells (G++S)) rfl (o':=o+K) (λex=>by
          refine⟨c,o+K,_,T,by simp[aO.add],r2.here,?_⟩
          rw[Ao,B3];refine BA λi x hi=>?_
          rw[Jh r2.here,Pw _ _ _ eg]
          by_cases aq:i<G.length
          ·rw[kU aq]at hi;rw[if_neg z];obtain⟨u,q1,q2,q3⟩:=l3.get _ x (Ado aj i x hi);rw[Jh l2]at q1;exact⟨u,Z,q2,R.ext ex _ _ q3⟩
          ·rw[zw z]at hi;have bv:=(bQ.1 hi).1;rw[if_pos Z];obtain⟨u,q1,q2⟩:=hn.get _ x hi;exact⟨u,Z,f u (bA q1),R.ext ex _ _ q2⟩)
         have o9:O ((J.kill a).new (.cells (G++S)))=O J+1:=Z;refine⟨_,_,w',_,Lx (ty:=ty) ht he hz hZ H Q (λb aa=>?_) Z,rfl,s1,Z,?_⟩
         ·cases aa;rw[e,Hb,<-s,Nat.add_assoc];exact r1
         ·rw[o9,B3];unfold R
          refine⟨ad,k,rfl,eU _,Q,λq hq=>(by cases hq),λc' o' a7=>?_⟩
          simp only[aO.add,if_true]at a7
          grind
       ·obtain⟨k1,k2⟩:=j.kill a;have ai:O (J.kill a)=O J:=B3 J a
        obtain⟨yy,xx,w',C2,g1,g2,g3,g4,g5⟩:=Oa (J:=J.kill a) (J':=J') k1 ht he s X hz hZ H o1 (by rw[ai];exact o2.ext k2) o3 o4 (by rw[ai];exact hn.ext k2) f a8 z h
        exact⟨yy,xx,w',C2,g1,g2,g3,k2.trans Z,g5⟩
  ·cases h
theorem PV{e:TypeId}{y}(c:Ay P e=some y){U}(d:y.zero=some U)(j:U.length=y.size):
  ∃a b,P.info? e=some a/\y.size=a.size/\y.bytes=a.bytes/\a.zero=some b/\b.cells.size=a.size/\(∀x∈b.cells.toList,x.oneCell=true)/\∀(C:aO) (N:Nat) (w:World),RL C N w U b.cells.toList:=by
 obtain⟨a,t,f,q,r,g,h,i,s⟩:=Ap c;rw[i]at d;obtain⟨b,k,m,o,_,_⟩:=Fq (C:=⟨λ_=>none,λ_=>0,λ_=>False,λ_=>none⟩) (w:=default) (N:=0) d
 refine⟨a,b,f,g,h,k,?_,o,λC N w=>?_⟩
 ·have:=m.length;grind
 ·obtain⟨p,l,n,_⟩:=Fq (C:=C) (w:=w) (N:=N) d
  grind
theorem So(j:aX P C w J){t o ty e b y}(m:P.underlying t=some (.slice e))(f:Ay P e=some y){U}(W:y.zero=some U)(i:U.length=y.size)
  (r:P.underlying o=some b)(c:∀k,b≠.int k){d s l S}(g:R C (O J) w d l)(Q:R C (O J) w s S){v}(h:T7 y.size y.bytes d s J=some (v,J')):
  Iv P C w J (Builtin.append_ #[t,o] ty #[l,S]) v J':=by
 obtain⟨ei,a7,p,q,u,x,B,e6,e7⟩:=PV f W i;unfold T7 at h
 split at h
 ·rename_i n T
  split at h
  ·rename_i X N
   obtain⟨E,a,f2,G,K,L⟩:=Ji (P:=P) j Q T Y N;exact Sn j m p q u x B g (.inl ⟨b,r,c,λk=>E _,Z⟩) G K L h
  grind
 grind
theorem Aau(j:aX P C w J){t p l e k y}(m:P.underlying t=some (.slice e))(b:Ay P e=some y){U}(K:y.zero=some U)(a:U.length=y.size)
  (r:P.underlying p=some (.int k)){d s c S}(g:R C (O J) w d c)(i:R C (O J) w s S){v}(h:T8 U y.size y.bytes d s J=some (v,J')):
  Iv P C w J (Builtin.append_ #[t,p] l #[c,S]) v J':=by
 obtain⟨N,L,q,u,f,x,B,E,G⟩:=PV b K a;unfold T8 at h
 split at h
 ·rename_i n
  cases o:Nat.ble (n*(y.bytes+1)) az
  ·grind
  ·simp only[o,cond_true]at h;unfold R at i;subst i
   refine Sn j m q u f x B g (.inr ⟨k,r,rfl,by rw[<-f];exact dB o,rfl⟩) ?_ ?_ ?_ h
   ·rw[Hd];exact(G C _ w).rep n
   ·rw[Hd];exact Mj E n
   ·rw[N7,a]
 grind
theorem Ah3(j:aX P C w J){t t2 ty e y}(m:P.underlying t=some (.slice e))(x:Ay P e=some y){d s K S}(g:R C (O J) w d K)(hS:R C (O J) w s S){v}
  (h:yY y.size d s J=some (v,J')):Iv P C w J (Builtin.copy_ #[t,t2] ty #[K,S]) v J':=by
 obtain ⟨ei,ed,p,_,_,e4,_⟩ := Ap x;unfold yY at h
 split at h
 ·rename_i X n i u
  split at h
  ·rename_i cs q
   obtain ⟨f1,a,f2,L,f4,f5⟩ := Ji (P := P) j hS u (Nat.min_le_left n X) q;have l := f1 w;have f := f2 w.drawn;rw [e4] at f
   split at h
   ·rename_i b a8 sz E U
    simp only [lenA,bH] at i; subst i
    split at h
    ·rename_i vs a7 B
     split at h
     ·rename_i a9 W
      simp only [Ak,bH,cE] at h;obtain ⟨rfl,rfl⟩ := h;obtain ⟨c,o,Q,r1,G,r3,r4⟩ := S1 j (uV B) W L f4;unfold R at g;obtain ⟨ad,k,rfl,_,hk,_,T⟩ := g
      refine ⟨_,_,Q,C,?_,rfl,r3,Z,by unfold R; rfl⟩
      rcases oL k with N | N
      ·have r : E = 0 := by omega
       subst r
       have : a.toList = [] := by
        have := L.length; rw [f5] at this; simp at this; grind
       rw [this] at G
       have hw : Q = w := by simpa [storeCells] using G.symm
       subst hw;rw [show min n 0 = 0 from Nat.min_zero n] at f
       simp [Builtin.copy_,Aa m,l,A9 p,f,this,storeCells,goInt]
      ·rw [(T c o r1).1 N]
       simp [Builtin.copy_,Aa m,l,A9 p,f,G,goInt]
     grind
    grind
   ·cases h;simp only [lenA,bH] at i; subst i;unfold R at g; obtain ⟨rfl,_⟩ := g
    refine ⟨_,_,w,C,?_,rfl,j,dJ _ _ _,by unfold R; rfl⟩
    rw [show min n 0 = 0 from Nat.min_zero n] at f
    simp [Builtin.copy_,Aa m,l,A9 p,f,goInt]
   grind
  grind
 grind
end
section
variable {P:Program}{C C':aO}{N N':Nat}{w w':World}{J J':F}
theorem GL{d v}(h:KS d v):∃k,KV k v:=by
 unfold KS at h
 split at h
 ·obtain⟨n,rfl⟩:=h;exact⟨.int _ n,by unfold KV;rfl⟩
 ·obtain⟨s,rfl⟩:=h;exact⟨.str (B2 s),by unfold KV;exact⟨s,rfl,rfl⟩⟩
 ·obtain⟨b,rfl⟩:=h;exact⟨.bool b,by unfold KV;rfl⟩
 ·exact h.elim
theorem Amc:∀{g:List Field} {e:List Value},KFs P g e->∃c,dM c e
 |[],[],_=>⟨[],by unfold dM;trivial⟩
 |f::g,v::e,h=>by
  unfold KFs at h;obtain⟨⟨i,d,_,_,_,_,a,_⟩,j⟩:=h;obtain⟨k,a⟩:=GL a;obtain⟨c,b⟩:=Amc j
  exact⟨k::c,by unfold dM;exact⟨a,b⟩⟩
 |[],_::_,h=>by unfold KFs at h;exact h.elim
 |_::_,[],h=>by unfold KFs at h;exact h.elim
theorem KL{s:TypeId}{v}(h:KT P s v):∃k,KV k v:=by
 rcases h with⟨d,_,h⟩|⟨m,a,_,rfl,h,_⟩|⟨_,_,a,d,_,_,rfl,_,_,_,_,_,_,h⟩
 ·exact GL h
 ·obtain⟨b,c⟩:=Amc h
  exact⟨.agg b,by unfold KV;exact⟨a,rfl,c⟩⟩
 ·have f:∀l:List Value,(∀x∈l,KS d x)->∃b,dM b l:=by
   intro l
   induction l with
   |nil=>intro _;exact⟨[],by unfold dM;trivial⟩
   |cons x l j=>
    intro g
    obtain⟨k,c⟩:=GL (g x zS)
    obtain⟨b,e⟩:=j λy i=>g y (by simp[i])
    exact⟨k::b,by unfold dM;exact⟨c,e⟩⟩
  obtain⟨b,c⟩:=f a.toList h
  exact⟨.agg b,by unfold KV;exact⟨a,rfl,c⟩⟩
theorem RU{d v}(h:KS d v):v.oneCell=true:=by
 unfold KS at h
 split at h
 ·obtain⟨n,rfl⟩:=h;rfl
 ·obtain⟨s,rfl⟩:=h;rfl
 ·obtain⟨b,rfl⟩:=h;rfl
 ·exact h.elim
theorem Xr:∀{c:List Field} {b:List Value},KFs P c b->∀x∈b,x.oneCell=true
 |[],[],_,x,a=>by simp at a
 |f::c,v::b,h,x,a=>by
  unfold KFs at h
  rcases bN.1 a with rfl|a
  ·obtain⟨⟨i,d,_,_,_,_,e,_⟩,_⟩:=h;exact RU e
  ·exact Xr h.2 x a
 |[],_::_,h,_,_=>by unfold KFs at h;exact h.elim
 |_::_,[],h,_,_=>by unfold KFs at h;exact h.elim
theorem Aqq:∀{c:List aQ} {d:List Value},dM c d->
  RL C N w (c.map λ|.bool b=>.bool b|.int k n=>.int k n|.str l=>.str l|.agg _=>.any) d
 |[],[],_=>by simp only[yS];unfold RL;trivial
 |k::c,v::d,h=>by
  unfold dM at h;simp only[fG];unfold RL;refine⟨?_,Aqq h.2⟩;have a:=h.1;cases k<;>unfold KV at a<;>unfold R
  ·exact a
  ·exact a
  ·exact a
  ·trivial
 |[],_::_,h=>by unfold dM at h;exact h.elim
 |_::_,[],h=>by unfold dM at h;exact h.elim
theorem xw{s:TypeId}{k v}(h:KV k v)(t:KT P s v):R C N w (T2 k) v:=by
 cases k with
 |bool b=>unfold KV at h;unfold T2 R;exact h
 |int j n=>unfold KV at h;unfold T2 R;exact h
 |str l=>unfold KV at h;unfold T2 R;exact h
 |agg f=>
  unfold KV at h;obtain⟨a,rfl,h⟩:=h;unfold T2 R;refine⟨a,rfl,Aqq h,?_⟩
  rcases t with⟨d,_,t⟩|⟨g,b,_,e,t,_⟩|⟨_,_,b,_,_,_,e,_,_,_,_,_,_,t⟩
  ·unfold KS at t
   split at t
   ·obtain⟨_,t⟩:=t;cases t
   ·obtain⟨_,t⟩:=t;cases t
   ·obtain⟨_,t⟩:=t;cases t
   ·exact t.elim
  ·cases e;exact Xr t
  ·cases e;exact λx c=>RU (t x c)
theorem Za{d v U}(h:KS d v)(c:KS d U):∃b,Instr.sameNow d v U=some b/\(b=true↔v=U):=by
 unfold KS at h c
 split at h
 ·obtain⟨n,rfl⟩:=h;obtain⟨a,rfl⟩:=c
  exact⟨n==a,by simp[Instr.sameNow],by simp⟩
 ·obtain⟨n,rfl⟩:=h;obtain⟨a,rfl⟩:=c
  exact⟨n==a,by simp[Instr.sameNow],by rw[Go.MapKept.bytes_beq];simp⟩
 ·obtain⟨n,rfl⟩:=h;obtain⟨a,rfl⟩:=c
  exact⟨n==a,by simp[Instr.sameNow],by simp⟩
 ·exact h.elim
def tK(v:Value)(a:List MapEntry)(i:Nat):Option (Nat×Value)->Prop
 |some (j,x)=>∃e,i<=j/\a[j-i]? =some e/\e.key=v/\e.val=x
 |none=>∀e∈a,e.key≠v
theorem tK.cons{v e b i r}(h:tK v b (i+1) r)(d:e.key≠v):tK v (e::b) i r:=by
 cases r with
 |none=>
  intro f a
  rcases bN.1 a with rfl|a
  ·exact d
  ·exact h f a
 |some p=>
  obtain⟨f,k,c,g,j⟩:=h
  refine⟨f,by omega,?_,g,j⟩
  rw[show p.1-i=(p.1-(i+1))+1 by omega];exact c
theorem Uh{d v}(h:KS d v):∀{a:List MapEntry},(∀e∈a,KS d e.key)->∀i,∃r,Instr.findNow d v a i=some r/\tK v a i r
 |[],_,i=>⟨none,rfl,λe c=>by simp at c⟩
 |e::a,c,i=>by
  obtain⟨b,g,j⟩:=Za h (c e zS)
  cases b with
  |true=>exact⟨some (i,e.val),by simp only[Instr.findNow,g],e,Y,by simp,(j.1 rfl).symm,rfl⟩
  |false=>
   obtain⟨r,m,n⟩:=Uh h (λf k=>c f (ch _ k)) (i+1)
   exact⟨r,by simp only[Instr.findNow,g,m],n.cons λl=>by have:=j.2 l.symm;cases this⟩
theorem O9{s:TypeId}{v}(h:KT P s v):∀{b:List MapEntry},(∀e∈b,KT P s e.key)->∀i,∃r,(Instr.findAsking s v b i).run P w=.ok r w/\tK v b i r
 |[],_,i=>⟨none,rfl,λe a=>by simp at a⟩
 |e::b,a,i=>by
  obtain⟨k,p⟩:=KL h
  obtain⟨l,d⟩:=KL (a e zS)
  obtain⟨g,m⟩:=AI (w:=w) p d h (a e zS)
  have j:(Op.equal s v e.key).run P w=.ok (aQ.eq k l) w:=m 9998;cases c:aQ.eq k l with
  |true=>
   refine⟨some (i,e.val),by simp[Instr.findAsking,j,c],e,Y,by simp,(g.1 c).symm,rfl⟩
  |false=>
   obtain⟨r,q,t⟩:=O9 h (λf n=>a f (ch _ n)) (i+1)
   exact⟨r,by simp[Instr.findAsking,j,c,q],t.cons λo=>by have:=g.2 o.symm;rw[c]at this;cases this⟩
theorem Ob{s:TypeId}{v}(h:KT P s v){es}(p:∀e∈es,KT P s e.key):∃r,(Instr.findKey s v es).run P w=.ok r w/\tK v es 0 r:=by
 obtain⟨r,k,l⟩:=O9 (w:=w) h p 0
 rcases h with⟨d,f,h⟩|⟨j,a,f,rfl,h⟩|⟨n,e,a,d,_,f,rfl,h⟩
 ·have i:∀e∈es,KS d e.key:=λe g=>by
   rcases p e g with⟨t,c,m⟩|⟨j,b,c,_,_⟩|⟨_,_,_,_,_,c,_⟩
   ·rw[f]at c;cases c;exact m
   ·rw[f]at c;cases c;unfold KS at h;exact h.elim
   ·rw[f]at c;cases c;unfold KS at h;exact h.elim
  obtain⟨r,o,q⟩:=Uh h i 0
  exact⟨r,by simp[Instr.findKey,Aa f,o],q⟩
 ·cases es with
  |nil=>exact⟨none,by simp[Instr.findKey,Aa f,Instr.findNow],λe g=>by simp at g⟩
  |cons e es=>
   have:Instr.findNow (.struct j) (.agg a) (e::es) 0=none:=by simp[Instr.findNow,Instr.sameNow]
   exact⟨r,by simp[Instr.findKey,Aa f,this,k],l⟩
 ·cases es with
  |nil=>exact⟨none,by simp[Instr.findKey,Aa f,Instr.findNow],λe g=>by simp at g⟩
  |cons x es=>
   have:Instr.findNow (.array n e) (.agg a) (x::es) 0=none:=by simp[Instr.findNow,Instr.sameNow]
   exact⟨r,by simp[Instr.findKey,Aa f,this,k],l⟩
end
end Go.AM

