/- A part of the proof; shortened by program. -/
import Derived.KernelRfl
import Derived.Test.YtmkaboegdoadhaaGreatDoorChecked
import Derived.Test.YtmkaboegdoadhaaGreatDoorP06
set_option maxRecDepth 100000
set_option maxHeartbeats 4000000
set_option linter.all false
namespace Go.AM
open Go
section
variable {E:aZ}{ops:List Oper}{Rr:bP}{T:Nat->Tr I}{V:Nat->I}
theorem Up{o:Oper}{n:Tr I}{J q:F}{v:I}(h:nR E ops Rr o n J=some (v,q)):Bn ops o n=some true/\bB E o.op Rr n J=some (v,q):=by
 unfold nR at h
 split at h
 ·rename_i H;exact⟨H,h⟩
 ·cases h
def Oe(E:aZ)(G:List Oper)(a:bP)(T:Nat->Tr I)(f:Nat->I)(P:Nd->Prop)(c:Nd)(next:List Nat):Prop:=∀e∈next,∃o v d b,G[e]? =some o/\oR E G a o (T e) c.J v d/\P b/\
 (∀x,x∈b.D↔x∈c.D\/x=e)/\Conv E (λi=>if i=e then v else iI c.aC f i) d (iI b.aC f) b.J
theorem Oe.mono{P b:Nd->Prop}{c:Nd}{next:List Nat}(h:Oe E ops Rr T V P c next)(a:∀c,P c->b c):Oe E ops Rr T V b c next:=λe l=>by
 obtain⟨o,v,d,f,g,i,j,k⟩:=h e l;exact⟨o,v,d,f,g,i,a _ j,k⟩
theorem PO{e:Nat}{J q:F}{k:List Nat}(h:Ps E ops Rr T V e J=some q){P:Nd->Prop}(a:P ⟨e::k,q,[]⟩):Oe E ops Rr T V P ⟨k,J,[]⟩ [e]:=by
 unfold Ps at h
 split at h
 ·rename_i o j
  split at h
  ·rename_i v U l
   cases b:I.beq (V e) v with
   |false=>rw[b]at h;cases h
   |true=>
    rw[b]at h;cases h;have:=I.beq_eq _ _ b;obtain⟨f,g⟩:=Up l;intro x d;rw[cI]at d;subst d
    refine⟨o,v,q,_,j,.inl ⟨f,g⟩,a,λy=>by simp[or_comm],xS λi=>?_⟩
    by_cases c:i=x
    ·rw[if_pos c,<-this,c];rfl
    ·rw[if_neg c]
  ·cases h
 ·cases h
theorem VQ{i j:Nat}{J J':F}{f:List Nat}{l:NL}(h:N2 E ops Rr T V i j f J=some (l,J')){P:Nd->Prop}(hp:P ⟨j::i::f,J',[]⟩)(hq:∀x∈l,P x.1):
  (⟨f,J,[]⟩:Nd)∈l.map (·.1)/\(∀x∈l,Oe E ops Rr T V P x.1 x.2)/\∀x∈l,(∀k∈x.1.D,k∈f\/k=i\/k=j)/\(x.1.aC=[]\/∃p v,x.1.aC=[(p,v)]/\p∈x.1.D):=by
 unfold N2 at h
 split at h
 ·rename_i oi oj t u
  split at h
  ·rename_i v1 ag v3 ah C G
   obtain⟨gi,C⟩:=Up C;obtain⟨gj,G⟩:=Up G
   split at h
   ·rename_i ti xi yi tj xj yj K w
    rw[K]at C;rw[w]at G;obtain⟨s1,l1,R,A,rfl,rfl,k1⟩:=Qb C;obtain⟨s2,l2,S,B,rfl,rfl,k2⟩:=Qb G;simp only at h;rw[a5,if_pos rfl,a5,if_pos rfl]at h;simp only at h;cases s:(!Nat.beq i j&&I.beq (V i) (.sr (O J+2) 0 s1 l1 R)&&I.beq (V j) (.sr (O J+3) 0 s2 l2 S))with
    |false=>rw[s]at h;cases h
    |true=>
     rw[s]at h;cases h;simp only[bg,eQ]at s;obtain⟨⟨b0,o⟩,r⟩:=s
     have af:i≠j:=λhh=>by rw[hh,cb]at b0;cases b0
     have o:=I.beq_eq _ _ o;have r:=I.beq_eq _ _ r
     have L:∀(A B:List I) x,((J.new (.cells A)).new (.cells B)).get x=if x=O J+1 then some (.cells B)else if x=O J then some (.cells A)else J.get x:=λA B x=>by rw[a5,a5,Ao]
     have a8:∀x,((((((J.new (.cells A)).new (.cells B)).kill (O J)).kill (O J+1)).new (.cells A)).new (.cells B)).get x=if x=O J+3 then some (.cells B)else if x=O J+2 then some (.cells A)else if x=O J\/x=O J+1 then none else J.get x:=λx=>by
      rw[a5,a5,dF,dF,L];simp only[Ao,B3]
      by_cases m:x=O J+3
      ·rw[if_pos z,if_pos m]
      ·rw[if_neg z,if_neg m]
       by_cases n:x=O J+2
       ·rw[if_pos z,if_pos n]
       ·rw[if_neg z,if_neg n]
        by_cases q3:x=O J+1
        ·rw[if_pos q3,if_pos (.inr q3)]
        ·rw[if_neg q3,if_neg q3]
         by_cases q4:x=O J
         ·rw[if_pos q4,if_pos (.inl q4)]
         ·rw[if_neg q4,if_neg q4,if_neg (by omega:¬(x=O J\/x=O J+1))]
     have a9:O ((((((J.new (.cells A)).new (.cells B)).kill (O J)).kill (O J+1)).new (.cells A)).new (.cells B))=O J+4:=by simp only[Ao,B3]
     refine⟨by simp,λx g=>?_,λx g=>?_⟩
     ·simp only[bN,mW,or_false]at g
      rcases g with rfl|rfl|rfl
      ·intro e c;simp only[bN,mW,or_false]at c
       rcases c with rfl|rfl
       ·exact⟨oi,_,_,⟨e::f,J.new (.cells A),[(e,.sr (O J) 0 s1 l1 R)]⟩,t,.inl ⟨gi,by rw[K];exact C⟩,hq (⟨e::f,J.new (.cells A),[(e,.sr (O J) 0 s1 l1 R)]⟩,[j]) zS,λy=>by simp[or_comm],xS λ_=>rfl⟩
       ·exact⟨oj,_,_,⟨e::f,J.new (.cells B),[(e,.sr (O J) 0 s2 l2 S)]⟩,u,.inl ⟨gj,by rw[w];exact G⟩,hq (⟨e::f,J.new (.cells B),[(e,.sr (O J) 0 s2 l2 S)]⟩,[i]) zS,λy=>by simp[or_comm],xS λ_=>rfl⟩
      ·intro e c;rw[cI]at c;subst c
       refine⟨oj,_,_,_,u,.inl ⟨gj,by rw[w];exact k2 _⟩,hp,λy=>by simp[or_comm],Conv.rename (J:=J) (A:=A) (B:=B) (a:=O J) (b:=O J+1) (.inl ⟨rfl,rfl⟩) (by simp only[Ao]) a9 (by rw[L,if_neg z,if_pos rfl]) (by rw[L,if_pos rfl]) (λx=>?_) λx=>?_⟩
       ·rw[a8]
        by_cases q:x=O J\/x=O J+1
        ·rw[if_pos q,if_pos q]
        ·rw[if_neg q,if_neg q,show((J.new (.cells A)).new (.cells B)).get x=J.get x from by rw[L,if_neg z,if_neg z]]
       ·show(if x=e then _ else iI [(i,_)] V x)=V x\/_
        by_cases m:x=e
        ·rw[if_pos m];refine .inr (.inr ⟨some (s2,l2,S),by rw[Ao]<;>rfl,?_⟩);rw[m];exact r
        ·rw[if_neg m]
         by_cases n:x=i
         ·refine .inr (.inl ⟨some (s1,l1,R),?_,?_⟩)
          ·show(if x=i then _ else _)=_;rw[if_pos n]<;>rfl
          ·rw[n];exact o
         ·left;show(if x=i then _ else _)=_;rw[if_neg n]
      ·intro e c;rw[cI]at c;subst c
       refine⟨oi,_,_,_,t,.inl ⟨gi,by rw[K];exact k1 _⟩,hp,λy=>by simp[or_left_comm,or_comm],Conv.rename (J:=J) (A:=A) (B:=B) (a:=O J+1) (b:=O J) (.inr ⟨rfl,rfl⟩) (by simp only[Ao]) a9 (by rw[L,if_pos rfl]) (by rw[L,if_neg z,if_pos rfl]) (λx=>?_) λx=>?_⟩
       ·rw[a8]
        by_cases q:x=O J\/x=O J+1
        ·rw[if_pos q,if_pos q]
        ·rw[if_neg q,if_neg q,show((J.new (.cells B)).new (.cells A)).get x=J.get x from by rw[L,if_neg z,if_neg z]]
       ·show(if x=e then _ else iI [(j,_)] V x)=V x\/_
        by_cases m:x=e
        ·rw[if_pos m];refine .inr (.inl ⟨some (s1,l1,R),by rw[Ao]<;>rfl,?_⟩);rw[m];exact o
        ·rw[if_neg m]
         by_cases n:x=j
         ·refine .inr (.inr ⟨some (s2,l2,S),?_,?_⟩)
          ·show(if x=j then _ else _)=_;rw[if_pos n]<;>rfl
          ·rw[n];exact r
         ·left;show(if x=j then _ else _)=_;rw[if_neg n]
     ·simp only[bN,mW,or_false]at g
      rcases g with rfl|rfl|rfl
      ·exact⟨λk d=>.inl d,.inl rfl⟩
      ·exact⟨λk d=>by rcases bN.1 d with h|h;exact .inr (.inl h);exact .inl h,.inr ⟨i,_,rfl,by simp⟩⟩
      ·exact⟨λk d=>by rcases bN.1 d with h|h;exact .inr (.inr h);exact .inl h,.inr ⟨j,_,rfl,by simp⟩⟩
   ·rename_i ti xi yi tj xj yj K w
    rw[K]at C;rw[w]at G
    split at h
    ·rename_i a oa b ob ha aa
     cases s:(!Nat.beq i j&& !Nat.beq a b&&I.beq (V i) An&&I.beq (V j) An)with
     |false=>rw[s]at h;cases h
     |true=>
      rw[s]at h;simp only[cond_true]at h;simp only[bg,eQ]at s;obtain⟨⟨⟨b0,b3⟩,o⟩,r⟩:=s
      have N:a≠b:=λhh=>by rw[hh,cb]at b3;cases b3
      have o:=I.beq_eq _ _ o;have r:=I.beq_eq _ _ r
      split at h
      ·rename_i v2 ac W
       cases h;obtain⟨_,W⟩:=Up W;rw[w]at W;obtain⟨rfl,vs,X,p1,rfl,p2⟩:=QP ha C;obtain⟨rfl,us,Q,r1,rfl,r2⟩:=QP aa G
       have a7:=r2 (J.set a (.cells X)) (by rw[aU,if_neg (mq N)];exact r1)
       rw[a7]at W;cases W
       have ae:∀(k:Nat) (d:V k=An),Conv E (λx=>if x=k then An else iI [] V x) ((J.set a (.cells X)).set b (.cells Q)) (iI [] V) ((J.set a (.cells X)).set b (.cells Q)):=λk d=>xS λx=>by
        by_cases q:x=k
        ·rw[if_pos q,q];exact d.symm
        ·rw[if_neg q]
       have iu:∀(k:Nat) (d:V k=An) (U:F),Conv E (λx=>if x=k then An else iI [] V x) U (iI [] V) U:=λk d U=>xS λx=>by
        by_cases q:x=k
        ·rw[if_pos q,q];exact d.symm
        ·rw[if_neg q]
       refine⟨by simp,λx g=>?_,λx g=>?_⟩
       ·simp only[bN,mW,or_false]at g
        rcases g with rfl|rfl|rfl
        ·intro e c;simp only[bN,mW,or_false]at c
         rcases c with rfl|rfl
         ·exact⟨oi,_,_,⟨e::f,J.set a (.cells X),[]⟩,t,.inl ⟨gi,by rw[K];exact C⟩,hq (⟨e::f,J.set a (.cells X),[]⟩,[j]) zS,λy=>by simp[or_comm],iu _ o _⟩
         ·exact⟨oj,_,_,⟨e::f,J.set b (.cells Q),[]⟩,u,.inl ⟨gj,by rw[w];exact G⟩,hq (⟨e::f,J.set b (.cells Q),[]⟩,[i]) zS,λy=>by simp[or_comm],iu _ r _⟩
        ·intro e c;rw[cI]at c;subst c
         exact⟨oj,_,_,_,u,.inl ⟨gj,by rw[w];exact a7⟩,hp,λy=>by simp[or_comm],iu _ r _⟩
        ·intro e c;rw[cI]at c;subst c
         refine⟨oi,An,_,_,t,.inl ⟨gi,by rw[K];exact p2 (J.set b (.cells Q)) (by rw[aU,if_neg N];exact p1)⟩,hp,λy=>by simp[or_left_comm,or_comm],?_⟩
         rw[<-F.set_comm N];exact iu _ o _
       ·simp only[bN,mW,or_false]at g
        rcases g with rfl|rfl|rfl
        ·exact⟨λk d=>.inl d,.inl rfl⟩
        ·exact⟨λk d=>by rcases bN.1 d with h|h;exact .inr (.inl h);exact .inl h,.inl rfl⟩
        ·exact⟨λk d=>by rcases bN.1 d with h|h;exact .inr (.inr h);exact .inl h,.inl rfl⟩
      ·cases h
    ·cases h
   ·cases h
  ·cases h
 ·cases h
end
section
variable {E:aZ}{ops:List Oper}{Rr:bP}{T:Nat->Tr I}{V:Nat->I}{b:List Nat}
structure M7 (E:aZ)(ops:List Oper)(Rr:bP)(T:Nat->Tr I)(V:Nat->I)(es D:List Nat)(J:F)(Y:NL)(nf:Nd):Prop where
 hd:(⟨D,J,[]⟩:Nd)∈Y.map (·.1)++[nf]
 ok:∀x∈Y,Oe E ops Rr T V (·∈Y.map (·.1)++[nf]) x.1 x.2
 sub:∀c∈Y.map (·.1)++[nf],(∀k∈c.D,k∈D\/k∈es)/\(c.aC=[]\/∃p v,c.aC=[(p,v)]/\p∈c.D)
 fin:nf.aC=[]
theorem Uq:∀(p g:List Nat) (J:F) (k:NL) (i:Nd),Ne E ops Rr T V b p g J=some (k,i)->M7 E ops Rr T V p g J k i
 |[],g,J,k,i,h=>by
  simp only[Ne,bH,cE]at h;obtain⟨rfl,rfl⟩:=h
  exact⟨by simp,λx d=>(by cases d),Z,rfl⟩
 |[e],g,J,k,i,h=>by
  simp only[Ne]at h
  split at h
  ·rename_i n a
   simp only[bH,cE]at h;obtain⟨rfl,rfl⟩:=h
   refine⟨by simp,λx d=>?_,λc a=>?_,rfl⟩
   ·rw[cI]at d;subst d
    exact PO a zS
   grind
  grind
 |e::j::r,g,J,k,i,h=>by
  rw[Ne]at h
  split at h
  ·split at h
   ·rename_i n a
    split at h
    ·rename_i m f o
     simp only[bH,cE]at h;obtain⟨rfl,rfl⟩:=h;have w:=Uq (j::r) (e::g) n m f o
     refine⟨by simp,λx d=>?_,λc a=>?_,w.fin⟩
     ·rcases bN.1 d with rfl|d
      ·exact PO a (by simp only[fG,dL];exact ch _ w.hd)
      ·exact(w.ok x d).mono Z
     ·simp only[fG,dL]at a
      rcases bN.1 a with rfl|a
      ·grind
      ·obtain⟨q,s⟩:=w.sub c a
       grind
    grind
   grind
  ·split at h
   ·rename_i l n t
    split at h
    ·rename_i m f o
     simp only[bH,cE]at h;obtain⟨rfl,rfl⟩:=h;have w:=Uq r (j::e::g) n m f o
     obtain⟨u,v,y⟩:=VQ (P:=(·∈(l++m).map (·.1)++[f])) t (by rw[iG,iC];exact OI _ w.hd) Z
     refine⟨Z,λx d=>?_,λc a=>?_,w.fin⟩
     ·rcases dW.1 d with d|d
      ·grind
      ·exact(w.ok x d).mono Z
     ·rw[iG,iC]at a
      rcases dW.1 a with a|a
      ·obtain⟨x,d,rfl⟩:=dO.1 a
       grind
      ·obtain⟨q,s⟩:=w.sub c a
       grind
    grind
   grind
end
theorem Wu{d:Nat}:∀{b:List Oper} {e:List I} {c:Tr I} {a:List (Tr I)},Adi d b e c=some a->a.getD 0 .e=c/\
  ∀k o,b[k]? =some o->Ka o.dst (a.getD k .e) d (e.getD k .any)=some (a.getD (k+1) .e)
 |[],[],c,a,h=>by simp only[Adi,bH]at h;grind
 |o::r,v::n,c,a,h=>by
  simp only[Adi]at h
  split at h
  ·rename_i g m
   split at h
   ·rename_i l f
    cases h;obtain⟨i,j⟩:=Wu f
    grind
   grind
  grind
 |[],_::_,_,_,h=>by simp[Adi]at h
 |_::_,[],_,_,h=>by simp[Adi]at h
section
variable {E:aZ}{ops:Array Oper}{Rr:bP}
theorem Og{k:Nat}{o:Oper}(e:ops[k]? =some o):B5 (Bc E o.op)=true↔k∈A8 E ops.toList 0:=by
 have a:ops.toList[k]? =some o:=Z;obtain⟨b,c⟩:=Ie (E:=E) ops.toList 0
 constructor
 ·grind
 ·intro h;obtain⟨m,d⟩:=fA.1 h
  grind
theorem Aj7(hm:E.P.follows .mixedOrders=true)(hR:Bk E Rr){s:St}{B:List I}{q:List (Tr I)}{u:NL}{l:Nd}{C:aO}{w:World}{a:Act}(st:cV E C w s a)(a7:Adi s.nt ops.toList B s.tm=some q)(N:Eu ops (Region.before ops).toList=true/\Fo ops=true)
  (W:M7 E ops.toList Rr (λk=>q.getD k .e) (λk=>B.getD k .any) (A8 E ops.toList 0) [] s.sto u l)
  (ia:(u++[(l,[])]).all (Hm E ops.toList Rr (λk=>q.getD k .e) (λk=>B.getD k .any) (Region.before ops).toList (A8 E ops.toList 0))=true)(pp:(u.all λx=>(A8 E ops.toList 0).any λe=> !x.1.D.contains e)=true){id:Nat}{ro:Option Nat}{n:Nat}:
  (Code.region id ops true).wpIn (Cy ro) n E.P (sW E C (O s.sto) w [(.normal,⟨q.getD ops.size .e,s.nt,s.df,l.J⟩)]) a w:=by
 obtain⟨t0,tk⟩:=Wu a7
 have bs:∀c∈u.map (·.1)++[l],∃O,(c,O)∈u++[(l,[])]/\Oe E ops.toList Rr (λk=>q.getD k .e) (λk=>B.getD k .any) (·∈u.map (·.1)++[l]) c O:=λc b=>by
  rcases dW.1 b with b|b
  ·obtain⟨x,hx,rfl⟩:=dO.1 b;exact⟨x.2,rQ _ hx,W.ok x hx⟩
  ·rw[cI]at b;subst b
   exact⟨[],by simp,λe y=>by cases y⟩
 have dw:∀c O,(c,O)∈u++[(l,[])]->Hm E ops.toList Rr (λk=>q.getD k .e) (λk=>B.getD k .any) (Region.before ops).toList (A8 E ops.toList 0) (c,O)=true:=λc O b=>b_.1 ia _ b
 have bl:ops.toList.length=ops.size:=by simp
 have fo:∀c∈u.map (·.1)++[l],∀k,k<ops.size->k∉c.D->Sz (Region.before ops).toList (A8 E ops.toList 0) c.D k=true->
   zu (Region.before ops).toList c.aC k=true/\(k∈A8 E ops.toList 0\/Lp E ops.toList Rr (λk=>q.getD k .e) (λk=>B.getD k .any) c.J k=true):=λc b k j J g=>by
  obtain⟨O,f,_⟩:=bs c b;have P:=dw c O f;unfold Hm at P
  grind
 refine Xy (s':=⟨q.getD ops.size .e,s.nt,s.df,l.J⟩) (es:=A8 E ops.toList 0) (V:=λk=>B.getD k .any) (T:=λk=>q.getD k .e) (nds:=u.map (·.1)++[l]) hm hR st ⟨N.1,N.2,λk o G=>Og G,λk j t=>?_,λk o G d hd=>?_,λc b k j=>?_,λc b k j=>?_,λc b k j J g i hi=>?_,λc b k o G y g=>?_,λc b k o G y J g=>?_⟩ W.hd (λc b J=>?_) rfl rfl rfl (λe y=>?_)
 ·exact Ni (n:=ops.size) (T:=λk=>q.getD k .e) (V:=λk=>B.getD k .any) t0 (λk j=>⟨ops[k],by simp[j],tk k _ (by simp[j])⟩) k j t
 ·have:=tk k o Z;rw[hd]at this;simp only[Ka]at this;cases hb:Nat.blt d s.nt
  ·grind
  ·exact dB hb
 ·rcases(W.sub c b).1 k j with h|h
  ·cases h
  ·exact h
 ·rcases(W.sub c b).2 with h|⟨p,v,h,hp⟩
  ·rw[h];rfl
  ·rw[h];show(if k=p then _ else _)=_;grind
 ·have f:=(fo c b k j J g).1
  rcases(W.sub c b).2 with h|⟨p,v,h,hp⟩
  ·rw[h];rfl
  ·rw[h]at f⊢
   show(if i=p then _ else _)=_
   rw[if_neg];intro K;subst K;unfold zu at f;simp only[Gc]at f
   grind
 ·have j:=(iK.1 G).1
  have J:k∉c.D:=λK=>by
   rcases(W.sub c b).1 k K with h|h
   ·cases h
   ·exact y h
  rcases(fo c b k j J g).2 with f|f
  ·grind
  ·have L:B5 (Bc E o.op)=false:=by
    cases K:B5 (Bc E o.op)with
    |false=>rfl
    |true=>exact absurd ((Og G).1 K) y
   unfold Lp at f
   rw[show ops.toList[k]? =some o by simpa using G]at f
   simp only at f
   split at f
   ·rename_i H
    split at f
    ·rename_i v U hv
     have:=I.beq_eq _ _ f;subst this;refine .inl ⟨H,?_⟩
     have a8:U=c.J:=by
      cases r:Bc E o.op with
      |eff=>rw[r]at L;cases L
      |pure=>exact(RQ hR r _ _ _ _ hv).1
      |read=>rw[Iy r]at hv;exact S6 r hv
     grind
    ·cases f
   ·rename_i H
    exact .inr ⟨H,I.beq_eq _ _ f,rfl⟩
   ·cases f
 ·obtain⟨O,f,P⟩:=bs c b;have Q:=dw c O f;unfold Hm at Q;simp only[bg]at Q;have R:=b_.1 Q.1 k y;have S:c.D.contains k=false:=Z;rw[S,g]at R;simp only[Bool.not_true,Bool.false_or]at R;obtain⟨o',v,J',c',q1,q2,q3,q4,q5⟩:=P k (List.contains_iff_mem.1 R)
  grind
 ·rcases dW.1 b with b|b
  ·grind
  ·rw[cI]at b;subst b
   exact⟨λk=>by rw[W.fin];rfl,rfl⟩
 ·obtain⟨m,X⟩:=fA.1 y;obtain⟨k',o',q1,q2,_⟩:=(Ie (E:=E) ops.toList 0).2 m e X
  grind
theorem Ss(K:E.P.follows .mixedOrders=true)(m:Bk E Rr){s j:St}{l:List I}{C:aO}{w:World}{a:Act}(J:cV E C w s a)(h:Rd E ops Rr s l=some j){v:Nat}{b:Option Nat}{n:Nat}:
  (Code.region v ops true).wpIn (Cy b) n E.P (sW E C (O s.sto) w [(.normal,j)]) a w:=by
 unfold Rd at h
 split at h
 ·cases h
 ·rename_i r f
  obtain⟨t,u⟩:=Wu f
  split at h
  ·cases h
  ·rename_i d
   simp only[bg]at d
   split at h
   ·cases h
   ·rename_i i p g
    have W:=Uq _ _ _ _ _ g;cases c:((i++[(p,[])]).all (Hm E ops.toList Rr (λk=>r.getD k .e) (λk=>l.getD k .any) (Region.before ops).toList (A8 E ops.toList 0))&&i.all λx=>(A8 E ops.toList 0).any λe=> !x.1.D.contains e)with
    |false=>rw[c]at h;cases h
    |true=>
     rw[c]at h;cases h;simp only[bg]at c;obtain⟨o,q⟩:=c;exact Aj7 K m J f d W o q
end
abbrev Ad:=List (Nat×I)
def Ad.at:Ad->Nat->Option I
 |[],_=>none
 |(j,v)::r,i=>cond (Nat.beq j i) (some v) (Ad.at r i)
def Has(n:Tr I)(f:Ad):Prop:=∀i v,Ad.at f i=some v->n.get i=some v
def nB:I->Option I
 |.any=>none
 |.bool b=>some (.bool b)
 |.int k n=>some (.int k n)
 |.str l=>some (.str l)
 |.nil v=>some (.nil v)
 |.agg l=>some (.agg l)
 |.fn f a b=>some (.fn f a b)
 |.tup l=>some (.tup l)
 |_=>none
theorem Awx{v u}(h:nB v=some u):v=u:=by cases v<;>simp_all [nB]
section
variable {E:aZ}{ρ:Ad}{tm:Tr I}{J J' J'':F}{Rr:bP}{lf nt:Nat}{df:List (Nat×List I)}
def Ah(E:aZ)(b:Ad):Operand->Option I
 |.tmp t=>Ad.at b t
 |.const v=>nB (ls v)
 |.global g=>match E.gl g with|some a=>some (.pv a)|none=>none
 |.func f=>some (.fn (.func f) [] [])
def Kc(E:aZ)(f:Ad):List Operand->Option (List I)
 |[]=>some []
 |x::r=>match Ah E f x,Kc E f r with
  |some v,some l=>some (v::l)
  |_,_=>none
def Iz(E:aZ)(f:Ad):Option Operand->Option (Option I)
 |none=>some none
 |some x=>match Ah E f x with|some v=>some (some v)|none=>none
theorem Has.opd(h:Has tm ρ){x v}(W:Ah E ρ x=some v):opd E tm x=v:=by
 cases x with
 |tmp t=>simp only[Ah]at W;simp only[Go.AM.opd,h t v W]
 |const c=>exact Awx W
 |global g=>
  simp only[Ah]at W;simp only[Go.AM.opd]
  split at W
  ·grind
  ·cases W
 |func f=>simp only[Ah,bH]at W;exact W
theorem Has.opds(h:Has tm ρ):∀{l:List Operand} {b:List I},Kc E ρ l=some b->opds E tm l=b
 |[],b,a=>by simp only[Kc,bH]at a;subst a;rfl
 |x::r,b,a=>by
  simp only[Kc]at a
  split at a
  ·rename_i v l d c
   cases a;simp only[Go.AM.opds,h.opd d,Has.opds h c]
  grind
theorem Has.opdO(h:Has tm ρ){x v}(W:Iz E ρ x=some v):opdO E tm x=v:=by
 cases x with
 |none=>simp only[Iz,bH]at W;subst W;rfl
 |some x=>
  simp only[Iz]at W
  split at W
  ·rename_i u a;cases W;simp only[Go.AM.opdO,h.opd a]
  ·cases W
theorem Has.put(h:Has tm ρ)(d v):Has (tm.put (d+1) d (some v)) ((d,v)::ρ):=by
 intro i u b;rw[jL];simp only[Ad.at]at b;cases a:Nat.beq d i with
 |true=>rw[a]at b;have:=bK a;subst this;rw[if_pos rfl];exact b
 |false=>
  rw[a]at b
  rw[if_neg (λc=>by subst c;rw[cb]at a;cases a)]
  exact h i u b
def As(E:aZ)(a:bP)(w:Op)(f:Ad)(J:F)(v:I)(q:F):Prop:=∀b,Has b f->bB E w a b J=some (v,q)
variable {x y c a b:Operand}{v u u' z:I}{l l':List I}{t:Nat}{n:Nat}
theorem Ag(W:Ah E ρ x=some v):As E Rr (.move x) ρ J v J:=λa h=>by simp only[bB,Aw,pS,h.opd W]
theorem Gd(W:Ah E ρ x=some v):As E Rr (.assign x) ρ J v J:=λa h=>by simp only[bB,Aw,pS,h.opd W]
theorem A3{e}(P:Ah E ρ c=some (.bool e))(Q:e=true)(W:Ah E ρ a=some v):As E Rr (.pick c a b) ρ J v J:=λd h=>by
 subst Q;simp only[bB,Aw,sJ,h.opd P,h.opd W]
theorem Au{e}(P:Ah E ρ c=some (.bool e))(Q:e=false)(W:Ah E ρ b=some v):As E Rr (.pick c a b) ρ J v J:=λd h=>by
 subst Q;simp only[bB,Aw,sJ,h.opd P,h.opd W]
theorem Ge{X a}(W:Ah E ρ x=some (.pr X a)):As E Rr (.nilCheck x) ρ J (.pr X a) J:=λb h=>by simp only[bB,Aw,Jf,h.opd W]
theorem Eq(W:Ah E ρ x=some (.pv l)):As E Rr (.nilCheck x) ρ J (.pv l) J:=λa h=>by simp only[bB,Aw,Jf,h.opd W]
def zI(P:Program)(t:Nat):Option (List I):=match Ay P t with|some a=>a.zero|none=>none
def gN(P:Program)(t:Nat):Option (Nat×Bool):=match Ay P t with|some a=>some (a.size,a.isAgg)|none=>none
def cW(P:Program)(t:Nat):Bool:=match Ay P t with|some _=>true|none=>false
def sA(P:Program)(t i:Nat):Option (Nat×Nat×Bool):=match Ay P t with
 |some c=>match c.desc with
  |.struct b=>match b.toList[i]? with
   |some f=>match Ay P f.type with
    |some a=>some (f.offset,a.size,a.isAgg)
    |none=>none
   |none=>none
  |_=>none
 |none=>none
def fM(P:Program)(t:Nat):Option (Nat×Nat×Option (List I)):=match Ay P t with
 |some b=>match b.desc with
  |.slice e=>match Ay P e with
   |some a=>some (a.size,a.bytes,a.zero)
   |none=>none
  |_=>none
 |none=>none
def iP(P:Program)(t:Nat):Option (Nat×Nat×Bool):=match Ay P t with
 |some b=>match b.desc with
  |.array n e=>match Ay P e with
   |some a=>some (n,a.size,a.isAgg)
   |none=>none
  |_=>none
 |none=>none
def bdF(P:Program):List Field->Option (List (Nat×Nat))
 |[]=>some []
 |f::r=>match Ay P f.type,bdF P r with
  |some a,some l=>some ((f.offset,a.size)::l)
  |_,_=>none
def yQ(P:Program)(t:Nat):Option (List I×List (Nat×Nat)):=match Ay P t with
 |some b=>match b.zero,b.desc with
  |some c,.struct a=>match Q7 P a.toList,bdF P a.toList with
   |true,some l=>some (c,l)
   |_,_=>none
  |_,_=>none
 |none=>none
def cq(P:Program)(t:Nat):Option (Nat×I×Nat×Bool):=match Ay P t with
 |some d=>match d.desc with
  |.map c b=>match Ay P b with
   |some a=>match Lh a with
    |some e=>some (c,e,a.size,a.isAgg)
    |none=>none
   |none=>none
  |_=>none
 |none=>none
def Fs(P:Program)(t:Nat):Bool:=match Ay P t with|some a=>(match a.desc with|.string=>true|_=>false)|none=>false
def Zv(P:Program)(t:Nat):Bool:=match Ay P t with|some a=>(match a.desc with|.bool=>true|_=>false)|none=>false
def Mk(P:Program)(t:Nat):Bool:=match Ay P t with|some a=>(match a.desc with|.slice _=>true|_=>false)|none=>false
def Cz(T:Nat)(e:Bool)(l:List I):Option I:=
 match e with
 |true=>match Dr T l with|some a=>some (.agg a)|none=>none
 |false=>match l with|v::_=>some v|[]=>none
def Em(J:F):I->Option (List I)
 |.pr a b=>match J.cells a with|some d=>some (d.drop b)|none=>none
 |.pv c=>some c
 |_=>none
theorem Rj{P T e}(h:gN P t=some (T,e)):∃a,Ay P t=some a/\a.size=T/\a.isAgg=e:=by
 unfold gN at h
 grind
theorem Ml(v l):Ff v l=Cz v.size v.isAgg l:=by
 unfold Ff Cz
 grind
theorem Ac{T e cs}(L:gN E.P t=some (T,e))(W:Ah E ρ x=some u)(P:Em J u=some cs)(b:Cz T e cs=some v):
  As E Rr (.load t x) ρ J v J:=λk h=>by
 obtain⟨j,d,f,g⟩:=Rj L;subst f g;simp only[bB,Aw,d,h.opd W];cases u<;>simp only[Em]at P<;>try (cases P)
 ·rename_i a i
  split at P
  ·rename_i l c
   cases P;simp only[Na,c,Ml,b]
  grind
 ·simp only[Na,Ml,b]
theorem By{T e ad off vs vs' cs}(L:gN E.P t=some (T,e))(W:Ah E ρ x=some (.pr ad off))(B:Ah E ρ y=some v)
  (P:v.cellsN T=some cs)(b:J.cells ad=some vs)(j:Et vs off cs=some vs'):As E Rr (.store t x y) ρ J An (J.set ad (.cells vs')):=λg h=>by
 obtain⟨f,a,c,d⟩:=Rj L;subst c d;simp only[bB,Aw,a,h.opd W,h.opd B,Wc,P,b,j]
theorem Bu{U}(L:zI E.P t=some U):As E Rr (.alloc t) ρ J (.pr (O J) 0) (J.new (.cells U)):=λc h=>by
 unfold zI at L
 split at L
 ·rename_i b a
  simp only[bB,Aw,a,L,uA]
 grind
theorem zi{T e cs}(L:gN E.P t=some (T,e))(W:Ah E ρ x=some v)(P:v.cellsN T=some cs):
  As E Rr (.box t x) ρ J (.pr (O J) 0) (J.new (.cells cs)):=λf h=>by
 obtain⟨d,a,b,c⟩:=Rj L;subst b c;simp only[bB,Aw,a,h.opd W,mK,P]
def lK:I->Nat->Option I
 |.pr a b,n=>some (.pr a (b+n))
 |.pv c,n=>some (.pv (c.drop n))
 |_,_=>none
theorem LR(x n):Po x n=lK x n:=by cases x<;>simp only[Po,lK,Ak]
theorem Ae{i b T e}(L:sA E.P t i=some (b,T+1,e))(W:Ah E ρ x=some u)(a:lK u b=some v):
  As E Rr (.fieldAddr t x i) ρ J v J:=λq h=>by
 unfold sA at L
 split at L
 ·rename_i p g
  split at L
  ·rename_i m c
   split at L
   ·rename_i f j
    split at L
    ·rename_i o d
     simp only[bH,cE]at L;obtain⟨k,l,n⟩:=L;subst k;simp only[bB,Aw,g,c,j,d,l,h.opd W,xV,LR,a]
    grind
   grind
  grind
 grind
theorem uP{i a T:Nat}{e:Bool}{cs:List I}(L:sA E.P t i=some (a,T,e))(W:Ah E ρ x=some (.agg cs))(b:Cz T e (cs.drop a)=some v):
  As E Rr (.field t x i) ρ J v J:=λq h=>by
 unfold sA at L
 split at L
 ·rename_i p g
  split at L
  ·rename_i n c
   split at L
   ·rename_i f j
    split at L
    ·rename_i o d
     simp only[bH,cE]at L;obtain⟨k,l,m⟩:=L;subst k l m;simp only[bB,Aw,g,c,j,d,h.opd W,vJ,Ml,b]
    grind
   grind
  grind
 grind
theorem Qc{T a p}(h:fM E.P t=some (T,a,p)):∃c e b,Ay E.P t=some c/\c.desc=.slice e/\Ay E.P e=some b/\b.size=T/\b.bytes=a/\b.zero=p:=by
 unfold fM at h
 grind
theorem R5{u n}(h:lenA u=some n)(j:pz u=true):(∃a c d b,u=.sr a c d n b)\/(∃e d b,u=.sv e d n b)\/(u=.nil (.slice none 0 0)/\n=0):=by
 unfold lenA at h
 split at h
 ·grind
 ·grind
 ·grind
 ·simp[pz]at j
 grind
def xb:I->Nat->I
 |.sr a b d _ _,n=>.pr a (b+n)
 |.sv c _ _ _,n=>.pv (c.drop n)
 |_,_=>.any
theorem MO{T b m p k}(L:fM E.P t=some (T,b,p))(W:Ah E ρ x=some u)(B:Ah E ρ y=some (.int k (.ofNat n)))
  (d:lenA u=some m)(j:pz u=true)(S:n<m):As E Rr (.indexAddr t x y) ρ J (xb u (n*T)) J:=λN h=>by
 obtain⟨K,e,G,i,l,o,q,w,C⟩:=Qc L;subst q;simp only[bB,Aw,i,l,o,h.opd W,h.opd B]
 have g:∀m,n<m->Nat.blt n m=true:=λm r=>by simpa using r
 rcases R5 d j with⟨a,s,f,c,rfl⟩|⟨v,f,c,rfl⟩|⟨rfl,rfl⟩
 ·simp only[Gt,g _ S,cond_true,Ak,xb]
 ·simp only[Gt,g _ S,cond_true,xb]
 ·omega
theorem Bp{T m b k}(L:iP E.P t=some (m,T,b))(W:Ah E ρ x=some u)(B:Ah E ρ y=some (.int k (.ofNat n)))
  (S:n<m)(a:lK u (n*T)=some v):As E Rr (.indexAddr t x y) ρ J v J:=λr h=>by
 unfold iP at L
 split at L
 ·rename_i q d
  split at L
  ·rename_i l e g
   split at L
   ·rename_i p c
    simp only[bH,cE]at L;obtain⟨i,j,o⟩:=L;subst i j
    have f:Nat.blt n l=true:=by simpa using S
    simp only[bB,Aw,d,g,c,h.opd W,h.opd B,E6,f,cond_true,LR,a]
   grind
  grind
 grind
theorem Ω{s k w}(L:Fs E.P t=true)(W:Ah E ρ x=some (.str s))(B:Ah E ρ y=some (.int k (.ofNat n)))(S:s[n]? =some w):
  As E Rr (.index t x y) ρ J (.int .u8 (.ofNat w)) J:=λd h=>by
 unfold Fs at L
 split at L
 ·rename_i c a
  split at L
  ·rename_i b
   simp only[bB,Aw,a,b,h.opd W,h.opd B,Lc,S]
  grind
 grind
theorem Nl{P}(h:cW P t=true):∃a,Ay P t=some a:=by
 unfold cW at h
 grind
theorem Qd(k):Ed k k=true:=by cases k<;>rfl
theorem L0{k w p q}{l:Nat}(L:cW E.P t=true)(W:Ah E ρ x=some (.int k p))(B:Ah E ρ y=some (.int k q))(b:Ic w k p q=some v):
  As E Rr (.binOp w t x y l) ρ J v J:=λd h=>by
 obtain⟨c,a⟩:=Nl L;simp only[bB,Aw,h.opd W,h.opd B,Wb,a,Qd,cond_true,b,Sx]
theorem CE{w p q}{l:Nat}(L:cW E.P t=true)(W:Ah E ρ x=some (.str p))(B:Ah E ρ y=some (.str q))(b:T3 w p q=some v):
  As E Rr (.binOp w t x y l) ρ J v J:=λd h=>by
 obtain⟨c,a⟩:=Nl L;simp only[bB,Aw,h.opd W,h.opd B,Wb,a,b,Sx]
theorem At5{k p q}:Ic .lss k p q=some (.bool (decide (p<q))):=by
 simp only[Ic,Ec];congr 2;grind
theorem ZA{k p q}:Ic .leq k p q=some (.bool (decide (p<=q))):=by simp only[Ic,Ec]
theorem UB{k p q}:Ic .gtr k p q=some (.bool (decide (q<p))):=by
 simp only[Ic,Ec];congr 2;grind
theorem Ξ{k p q}:Ic .geq k p q=some (.bool (decide (q<=p))):=by simp only[Ic,Ec]
theorem TF{k p q}:Ic .eql k p q=some (.bool (decide (p=q))):=by simp only[Ic,Jg];congr 2
theorem ZN{k p q}:Ic .neq k p q=some (.bool (!decide (p=q))):=by simp only[Ic,Jg];congr 2
theorem Aub{p q}(h:p+q<9223372036854775808):Ic .add .i64 (.ofNat p) (.ofNat q)=some (.int .i64 (.ofNat (p+q))):=by
 have:Nat.ble (p+q) 9223372036854775807=true:=dS z;simp only[Ic,IV,Me,Ak,M0,this,cond_true]
theorem LM{p q}:T3 .eql p q=some (.bool (decide (p=q))):=by
 simp only[T3];congr 2;by_cases h:p=q
 ·rw[(Gu p q).2 h];simp[h]
 ·cases a:Fm p q
  ·simp[h]
  ·exact absurd ((Gu p q).1 a) h
theorem WV{p q}:T3 .neq p q=some (.bool (!decide (p=q))):=by
 have:=@LM p q;simp only[T3,bH,I.bool.injEq]at this⊢
 grind
theorem Qe{k p q}{l:Nat}(L:cW E.P t=true)(W:Ah E ρ x=some (.int k p))(B:Ah E ρ y=some (.int k q)):As E Rr (.binOp .lss t x y l) ρ J (.bool (decide (p<q))) J:=L0 L W B At5
theorem Hn{k p q}{l:Nat}(L:cW E.P t=true)(W:Ah E ρ x=some (.int k p))(B:Ah E ρ y=some (.int k q)):As E Rr (.binOp .leq t x y l) ρ J (.bool (decide (p<=q))) J:=L0 L W B ZA
theorem Wv{k p q}{l:Nat}(L:cW E.P t=true)(W:Ah E ρ x=some (.int k p))(B:Ah E ρ y=some (.int k q)):As E Rr (.binOp .gtr t x y l) ρ J (.bool (decide (q<p))) J:=L0 L W B UB
theorem IH{k p q}{l:Nat}(L:cW E.P t=true)(W:Ah E ρ x=some (.int k p))(B:Ah E ρ y=some (.int k q)):As E Rr (.binOp .geq t x y l) ρ J (.bool (decide (q<=p))) J:=L0 L W B Ξ
theorem H4{k p q}{l:Nat}(L:cW E.P t=true)(W:Ah E ρ x=some (.int k p))(B:Ah E ρ y=some (.int k q)):As E Rr (.binOp .eql t x y l) ρ J (.bool (decide (p=q))) J:=L0 L W B TF
theorem GA{k p q}{l:Nat}(L:cW E.P t=true)(W:Ah E ρ x=some (.int k p))(B:Ah E ρ y=some (.int k q)):As E Rr (.binOp .neq t x y l) ρ J (.bool (!decide (p=q))) J:=L0 L W B ZN
theorem D3{p q}{l:Nat}(L:cW E.P t=true)(W:Ah E ρ x=some (.int .i64 (.ofNat p)))(B:Ah E ρ y=some (.int .i64 (.ofNat q)))(Q:p+q<9223372036854775808):
  As E Rr (.binOp .add t x y l) ρ J (.int .i64 (.ofNat (p+q))) J:=L0 L W B (Aub Q)
theorem φ{p q}{ty:Nat}(L:cW E.P t=true)(W:Ah E ρ x=some (.str p))(B:Ah E ρ y=some (.str q)):As E Rr (.binOp .eql t x y ty) ρ J (.bool (decide (p=q))) J:=CE L W B LM
theorem V8{p q}{ty:Nat}(L:cW E.P t=true)(W:Ah E ρ x=some (.str p))(B:Ah E ρ y=some (.str q)):As E Rr (.binOp .neq t x y ty) ρ J (.bool (!decide (p=q))) J:=CE L W B WV
theorem Dc{e}(W:Ah E ρ x=some (.bool e)):As E Rr (.unOp .not t x) ρ J (.bool (!e)) J:=λa h=>by
 simp only[bB,Aw,h.opd W,yJ,Sx]
theorem S7{a i}(W:Ah E ρ x=some (.tup a))(b:a[i]? =some v):As E Rr (.extract x i) ρ J v J:=λc h=>by
 simp only[bB,Aw,h.opd W,Nc,b]
theorem SU{f p q}(a:Kc E ρ p.toList=some l)(o:Kc E ρ q.toList=some l'):As E Rr (.makeFunc f p q) ρ J (.fn f l l') J:=λb h=>by
 simp only[bB,Aw,h.opds a,h.opds o,yW]
theorem QW{f a}{b:Array Nat}{k:Nat}{e first y t}(N:Ah E ρ f=some (.fn (.func k) first y))(c:Kc E ρ a.toList=some e)
  (d:first++e++y=t)(w:Rr (.fn k) t J=some (v,J')):As E Rr (.call ⟨.value f,a,b⟩) ρ J v J':=λg h=>by
 subst d;simp only[bB,h.opd N,h.opds c,Rb,w]
theorem mI{s T e}(h:cq E.P t=some (s,z,T,e)):∃c b a,Ay E.P t=some c/\c.desc=.map s b/\Ay E.P b=some a/\Lh a=some z/\a.size=T/\a.isAgg=e:=by
 unfold cq at h
 grind
def Xz(J:F)(s:Nat)(b:List (aQ×I)):I->Prop
 |.mp r=>∃a,J.get r=some (.map s b a)
 |.nil (.map none)=>b=[]
 |_=>False
theorem X3{s a u}(h:Xz J s a u):(∃r b,u=.mp r/\J.get r=some (.map s a b))\/(u=.nil (.map none)/\a=[]):=by
 unfold Xz at h
 grind
theorem OH{s T e b a}(L:cq E.P t=some (s,z,T,e))(W:Ah E ρ x=some u)(K:Xz J s a u)
  (B:Ah E ρ y=some u')(X:D4 E.P s u'=some b):As E Rr (.lookup t x y false) ρ J ((D5 b a).getD z) J:=λp h=>by
 obtain⟨o,k,n,d,f,g,i,l,m⟩:=mI L;simp only[bB,Aw,d,f,g,i,h.opd W,h.opd B,X,Ky]
 rcases X3 K with⟨r,j,rfl,c⟩|⟨rfl,rfl⟩
 ·simp only[c,cb];cases D5 b a<;>rfl
 ·simp[D5,nh]
theorem RW{s T e b a}(L:cq E.P t=some (s,z,T,e))(W:Ah E ρ x=some u)(K:Xz J s a u)
  (B:Ah E ρ y=some u')(X:D4 E.P s u'=some b):As E Rr (.lookup t x y true) ρ J (.tup [(D5 b a).getD z,.bool (D5 b a).isSome]) J:=λp h=>by
 obtain⟨o,k,n,d,f,g,i,l,m⟩:=mI L;simp only[bB,Aw,d,f,g,i,h.opd W,h.opd B,X,Ky]
 rcases X3 K with⟨r,j,rfl,c⟩|⟨rfl,rfl⟩
 ·simp only[c,cb];cases D5 b a<;>rfl
 ·simp[D5,nh]
def tC(k:aQ)(v:I)(a:List (aQ×I)):List (aQ×I):=match D5 k a with|some _=>Ph k v a|none=>Nx k v a
theorem RH{s T c r e b d w}(L:cq E.P t=some (s,z,T,e))(W:Ah E ρ x=some (.mp r))(K:J.get r=some (.map s d c))
  (B:Ah E ρ y=some u')(X:D4 E.P s u'=some b)(i:Ah E ρ w=some v)(N:∀a:TI,a.size=T->a.isAgg=e->Je a v=true):
  As E Rr (.mapUpdate t x y w) ρ J An (J.set r (.map s (tC b v d) (c+1))):=λp h=>by
 obtain⟨o,m,a,f,g,j,n,k,l⟩:=mI L;simp only[bB,Aw,f,g,j,h.opd W,h.opd B,h.opd i,X,N1,K,cb,N a k l,dR,Ak,tC]
 grind
theorem Gx{s T e}(L:cq E.P t=some (s,z,T,e)):As E Rr (.makeMap t none) ρ J (.mp (O J)) (J.new (.map s [] 0)):=λl h=>by
 obtain⟨k,c,j,a,b,d,f,g,i⟩:=mI L;simp only[bB,Aw,a,b,T5]
theorem Bf{v}(L:Mk E.P v=true)(W:Ah E ρ x=some u)(d:lenA u=some n)(j:pz u=true):As E Rr (.call ⟨.builtin .len,#[x],#[v]⟩) ρ J (.int .i64 (.ofNat n)) J:=λm h=>by
 unfold Mk at L
 split at L
 ·rename_i l c
  split at L
  ·rename_i e g
   simp only[bB,Aw,c,Ee,g,h.opd W,opds,nK]
   rcases R5 d j with⟨a,i,f,b,rfl⟩|⟨k,f,b,rfl⟩|⟨rfl,rfl⟩<;>rfl
  grind
 grind
theorem Aou{v s}(L:Fs E.P v=true)(W:Ah E ρ x=some (.str s)):As E Rr (.call ⟨.builtin .len,#[x],#[v]⟩) ρ J (.int .i64 (.ofNat s.length)) J:=λd h=>by
 unfold Fs at L
 split at L
 ·rename_i c a
  split at L
  ·rename_i b
   simp only[bB,Aw,a,Ee,b,h.opd W,opds,Zt,Ak]
  grind
 grind
end
section
open Go Go.Proofs
def DA:List I:=[.str [],.bool false,.int .i64 0,.int .i64 0,.str [36,99],.bool false,.int .i64 1,.int .i64 200,.str [36,118],.bool false,.int .i64 1,.int .i64 200,.str [36,102],.bool true,.int .i64 2,.int .i64 2,
 .str [36,101],.bool true,.int .i64 1,.int .i64 200,.str [36,100],.bool false,.int .i64 1,.int .i64 200,.str [36,97],.bool true,.int .i64 1,.int .i64 200,.str [36,112],.bool true,.int .i64 1,.int .i64 200,
 .str [36,123],.bool false,.int .i64 0,.int .i64 0,.str [36,125],.bool false,.int .i64 0,.int .i64 0]
def vH(g:Nat):Option (List I):=match Nat.beq g 0 with|true=>some DA|false=>none
noncomputable def M:aZ:={ P:=Tryz.prog,gl:=vH,sum:=λ_=>none,dsum:=λ_=>none,byref:=λ_=>false }
theorem Di:Tryz.prog.follows .mixedOrders=true:=by kernel_rfl
def NC(a:Func):Bool:= !(a.name== "runtime.NumGoroutine")
theorem TA:Tryz.prog.funcs.toList.all NC=true:=by kernel_rfl
theorem Ke(f:Nat)(a)(h:Tryz.prog.funcs[f]? =some a):(a.name== "runtime.NumGoroutine")=false:=by
 have b:a∈Tryz.prog.funcs.toList:=Z;have:=b_.1 TA a b
 simpa[NC]using this
end
section
variable {E:aZ}{C C':aO}{N N':Nat}{w w':World}{Rr:bP}
theorem Ig:∀(l:List I) (i:Nat) (t:Tr I) (j:Nat),(Kz l i t).get j=if i<=j/\j<i+l.length then l[j-i]? else t.get j
 |[],i,t,j=>by simp only[Kz];rw[if_neg zS]
 |x::r,i,t,j=>by
  simp only[Kz];rw[Ig r (i+1),jL];simp only[cZ]
  by_cases a:i+1<=j/\j<i+1+r.length
  ·rw[if_pos a,if_pos z,show j-i=(j-(i+1))+1 by omega];rfl
  ·rw[if_neg a]
   by_cases b:j=i
   ·subst b;rw[if_pos rfl,if_pos z];simp
   ·rw[if_neg b,if_neg z]
theorem γ{P J}(j:aX P C w J){n c}(m:TR C (O J) w n c){r v}(h:uO P n J r=some v):
  ∃x,((match r with
   |.tmp t=>pure (c.getD t undef)
   |.cell a t=>do loadVar t (<-asAddr (c.getD a undef)):Sem Value)).run P w=.ok x w/\R C (O J) w v x:=by
 cases r with
 |tmp t=>exact⟨_,rfl,m t v h⟩
 |cell a t=>
  simp only[uO]at h
  split at h
  ·rename_i p e
   split at h
   ·rename_i b g k
    split at h
    ·rename_i s f
     have d:=m a _ k
     have l:Na p (.pr b g) J=some (v,J):=by simp[Na,f,h]
     obtain⟨_,x,i,o⟩:=P1 j e d l;unfold R at d;obtain⟨q,d,_⟩:=d;refine⟨x,?_,o⟩
     show((do loadVar t (<-asAddr (c.getD a undef)):Sem Value)).run P w=_
     rw[d]at i⊢
     simpa[Instr.loadAt,Instr.sureAddr,asAddr]using i
    ·cases h
   ·cases h
  ·cases h
theorem Abh{P J}(j:aX P C w J){n b}(m:TR C (O J) w n b){f:ResultVar->Sem Value}
  (N:∀r,f r=match r with
   |.tmp t=>pure (b.getD t undef)
   |.cell a t=>do loadVar t (<-asAddr (b.getD a undef))):∀{g:List ResultVar} {c:List I},Ahw P n J g=some c->∃d,(g.mapM f).run P w=.ok d w/\RL C (O J) w c d
 |[],c,h=>by simp only[Ahw,bH]at h;subst h;exact⟨[],by simp,by unfold RL;trivial⟩
 |r::g,c,h=>by
  simp only[Ahw]at h
  split at h
  ·rename_i v l s q
   cases h;obtain⟨x,i,k⟩:=γ j m s;obtain⟨d,o,p⟩:=Abh j m N q
   refine⟨x::d,?_,by unfold RL;exact⟨k,p⟩⟩
   have e:(f r).run P w=.ok x w:=by rw[N r];exact i
   simp[h_,e,o]
  ·cases h
theorem Hx{P J}(j:aX P C w J){n fn c}(m:TR C (O J) w n c){d}(h:Ahw P n J fn.results.toList=some d):
  ∃x,(results fn c).run P w=.ok x w/\R C (O J) w (pW d) x:=by
 obtain⟨f,k,i⟩:∃f:ResultVar->Sem Value,(∀r,f r=match r with
   |.tmp t=>pure (c.getD t undef)
   |.cell a t=>do loadVar t (<-asAddr (c.getD a undef)))/\results fn c=(do let d<-fn.results.mapM f;pure (if h:d.size=1 then d[0]else .tuple d)):=
  ⟨_,λr=>by cases r<;>rfl,rfl⟩
 obtain⟨e,g,b⟩:=Abh j m k h
 have l:(results fn c).run P w=.ok (if h:e.toArray.size=1 then e.toArray[0]else .tuple e.toArray) w:=by
  rw[i];simp only[Array.mapM_eq_mapM_toList,Sem.run_bind,Sem.run_map];rw[g]
  simp
 refine⟨_,l,?_⟩
 match d,e,b with
 |[],[],_=>unfold pW R;exact⟨#[],rfl,by unfold RL;trivial⟩
 |[v],[x],b=>unfold RL at b;exact b.1
 |v::p::r,x::o::s,b=>
  have:¬(x::o::s).toArray.size=1:=by simp
  rw[dif_neg this];simp only[pW];unfold R;exact⟨_,rfl,b⟩
 |[],_::_,b=>unfold RL at b;exact b.elim
 |[_],[],b=>unfold RL at b;exact b.elim
 |[_],_::_::_,b=>unfold RL at b;have:=b.2;unfold RL at this;exact this.elim
 |_::_::_,[],b=>unfold RL at b;exact b.elim
 |_::_::_,[_],b=>unfold RL at b;have:=b.2;unfold RL at this;exact this.elim
theorem Ur{C w J a c}{fn:Func}(j:aX E.P C w J)(H:Iw C (O J) w E)(d:RL C (O J) w a c.toList)(q:a.length<=fn.ntmps):
  cV E C w ⟨Kz a 0 .e,fn.ntmps,[],J⟩ { tmps:=c++Array.replicate (fn.ntmps-c.size) undef,defers:=[] }:=by
 have e:=d.length;simp only[kE]at e
 refine⟨j,H,λi y b=>?_,by simp;omega,by unfold DR;trivial⟩
 simp only at b;rw[Ig]at b
 split at b
 ·rename_i h
  rw[mO]at b;obtain⟨x,f,g⟩:=d.get i y b
  have:(c++Array.replicate (fn.ntmps-c.size) undef).getD i undef=x:=by
   rw[jY,CB z,<-iO,f];rfl
  rw[this];exact g
 ·simp[Tr.get]at b
end
def Oh:Obj->Bool
 |.cells .. =>false
 |_=>true
structure Jb (w w':World)(l:Nat):Prop where
 size:w'.heap.size=w.heap.size
 other:∀b,b≠l->w'.heap[b]? =w.heap[b]?
 was:∃o,w.heap[l]? =some o/\Oh o=true
 is:∃o,w'.heap[l]? =some o/\Oh o=true
 os:w'.os=w.os/\w'.output=w.output
theorem Jb.put{w l o o'}(h:w.heap[l]? =some o)(u:Oh o=true)(r:Oh o'=true):Jb w (w.putObj l o') l:=
 ⟨World.putObj_size,λb a=>World.putObj_heap_other a,⟨o,h,u⟩,⟨o',World.putObj_heap_same (iK.1 h).1,r⟩,rfl,rfl⟩
abbrev KW:=@Jb.put
section
variable {C:aO}{N:Nat}{w w':World}{l:Nat}
theorem Jb.cell(t:Jb w w' l){a v}(h:w.cell? a=some v):w'.cell? a=some v:=by
 by_cases b:a.block=l
 ·obtain⟨o,c,d⟩:=t.was;unfold World.cell? at h;rw[b,c]at h;cases o<;>simp[Oh]at d<;>simp at h
 ·unfold World.cell? at *;rw[t.other _ b];exact h
theorem Jb.csize(t:Jb w w' l)(c):csize w' c=csize w c:=by
 unfold AM.csize
 by_cases a:c=l
 ·subst a;obtain⟨o,b,d⟩:=t.was;obtain⟨g,e,f⟩:=t.is;rw[b,e];cases o<;>simp[Oh]at d<;>cases g<;>simp[Oh]at f<;>rfl
 ·rw[t.other _ a]
mutual
theorem R.turn (t:Jb w w' l):∀(x:I) (v:Value),R C N w x v->R C N w' x v
 |.pr _ _,v,hr=>by unfold R at *;exact hr
 |.sr a off sz len cap,v,hr=>by
  unfold R at *;obtain⟨ad,k,h1,h2,h3,h4,h5⟩:=hr
  exact⟨ad,k,h1,h2,h3,h4,λc o hc=>by rw[t.csize];exact h5 c o hc⟩
 |.mp _,v,hr=>by unfold R at *;exact hr
 |.it _,v,hr=>by unfold R at *;exact hr
 |.stp _,v,hr=>by unfold R at *;exact hr
 |.yl _,v,hr=>by unfold R at *;exact hr
 |.flt _ _,v,hr=>by unfold R at *;exact hr
 |.pv cs,v,hr=>by
  unfold R at *;obtain⟨c,o,h1,h2,h3⟩:=hr;exact⟨c,o,h1,h2,RC.turn t cs c o h3⟩
 |.sv cs sz len cap,v,hr=>by
  unfold R at *;obtain⟨ado,q,h1,h2,h3,h4,h0,hh⟩:=hr;refine⟨ado,q,h1,h2,h3,h4,h0,λad ha=>?_⟩
  obtain⟨h5,h6,h7⟩:=hh ad ha;exact⟨h5,h6,RC.turn t cs ad.block ad.off h7⟩
 |.fn f p q,v,hr=>by
  unfold R at *;obtain⟨a,c,h1,h2,h3⟩:=hr;exact⟨a,c,h1,RL.turn t p _ h2,RL.turn t q _ h3⟩
 |.ifc ty x,v,hr=>by
  unfold R at *;obtain⟨y,h1,h2⟩:=hr;exact⟨y,h1,R.turn t x y h2⟩
 |.agg cs,v,hr=>by
  unfold R at *;obtain⟨a,h1,h2,h3⟩:=hr;exact⟨a,h1,RL.turn t cs _ h2,h3⟩
 |.tup vs,v,hr=>by
  unfold R at *;obtain⟨a,h1,h2⟩:=hr;exact⟨a,h1,RL.turn t vs _ h2⟩
 |.any,v,hr=>by unfold R;trivial
 |.bool x,v,hr=>by unfold R at *;exact hr
 |.int k' n,v,hr=>by unfold R at *;exact hr
 |.str l,v,hr=>by unfold R at *;exact hr
 |.nil y,v,hr=>by unfold R at *;exact hr
theorem RC.turn (t:Jb w w' l):∀(cs:List I) (c o:Nat),RC C N w c cs o->RC C N w' c cs o
 |[],c,o,_=>by unfold RC;trivial
 |x::r,c,o,hr=>by
  unfold RC at *;obtain⟨⟨v,h1,h2,h3⟩,h4⟩:=hr;exact⟨⟨v,t.cell h1,h2,R.turn t x v h3⟩,RC.turn t r c (o+1) h4⟩
theorem RL.turn (t:Jb w w' l):∀(l:List I) (vs:List Value),RL C N w l vs->RL C N w' l vs
 |[],[],_=>by unfold RL;trivial
 |x::r,v::s,hr=>by
  unfold RL at *;exact⟨R.turn t x v hr.1,RL.turn t r s hr.2⟩
 |[],_::_,hr=>by unfold RL at hr;exact hr.elim
 |_::_,[],hr=>by unfold RL at hr;exact hr.elim
end
theorem ER.turn(t:Jb w w' l):∀{l:List (aQ×I)} {L:List MapEntry},ER C N w l L->ER C N w' l L
 |[],[],_=>by unfold ER;trivial
 |x::r,f::s,h=>by unfold ER at *;exact⟨⟨h.1.1,R.turn t _ _ h.1.2⟩,ER.turn t h.2⟩
 |[],_::_,h=>by unfold ER at h;exact h.elim
 |_::_,[],h=>by unfold ER at h;exact h.elim
theorem OR.turn{P J a K}(h:OR P C w J a K)(t:Jb w w' l)(hl:¬C.own l):OR P C w' J a K:=by
 have s:∀{a c o},C.loc a=some (c,o)->w'.heap[c]? =w.heap[c]? :=λ{a c o} hc=>t.other c (λe=>hl (.inr ⟨a,o,e▸hc⟩))
 cases K with
 |cells vs=>
  obtain⟨c,o,X,T,i,p,d⟩:=h;exact⟨c,o,X,T,i,(s i).trans p,RC.turn t _ _ _ d⟩
 |map G es B=>
  obtain⟨c,E,b,i,p,d⟩:=h;obtain⟨L,u,v⟩:=d.perm;exact⟨c,E,b,i,(s i).trans p,d.typed,⟨L,u,ER.turn t v⟩,d.keys,d.born,d.apart⟩
 |iter m B left a7=>
  cases m with
  |none=>
   obtain⟨c,g,n,j,i,p,d⟩:=h;exact⟨c,g,n,j,i,(s i).trans p,d⟩
  |some m=>
   obtain⟨Q,c,N,g,n,j,i,p,d⟩:=h;refine⟨Q,c,N,g,n,j,i,(s i).trans p,λG q W H=>?_⟩
   obtain⟨u,v⟩:=d G q W H;refine⟨u,λS=>?_⟩
   obtain⟨E,y,U,q3,⟨L,q4,q5⟩,q6⟩:=v S;exact⟨E,y,(s y).trans U,q3,⟨L,q4,ER.turn t q5⟩,λk x hk=>let⟨f,f1,f2,f3,f4⟩:=q6 k x hk;⟨f,f1,f2,f3,R.turn t _ _ f4⟩⟩
 |stamp m B k=>
  obtain⟨Q,d⟩:=h;refine⟨Q,λG q W H=>?_⟩
  obtain⟨u,v⟩:=d G q W H;refine⟨u,λS=>?_⟩
  obtain⟨N,E,b,y,U,f⟩:=v S;exact⟨N,E,b,y,(s y).trans U,f⟩
 |loop st=>
  obtain⟨c,r,i,p,d⟩:=h;exact⟨c,r,i,p,(s i).trans d⟩
theorem aX.turn{P J}(h:aX P C w J)(t:Jb w w' l)(d:¬C.own l):aX P C w' J:=
 ⟨λa e H=>(h.obj a e H).turn t d,h.bound,h.dom,h.inj,λa c o g=>by rw[t.size];exact h.lt a c o g,λb f=>by rw[t.size];exact h.rlt b f,h.rdis⟩
theorem Bm(J):O J.bump=O J+1:=by cases J;simp only[F.bump,Ak,O]
theorem Fh(J:F)(a):J.bump.get a=J.get a:=by cases J;simp only[F.bump,Ak,F.get]
theorem aX.bump{P J}(h:aX P C w J)(n):
  aX P (C.addStm (O J) n) w J.bump/\bC C (O J) w (C.addStm (O J) n) (O J+1) w:=by
 have f:∀{a},a<O J->¬a=O J:=λh=>by omega
 have e:bC C (O J) w (C.addStm (O J) n) (O J+1) w:=⟨by omega,Y,λb _ i=>⟨i,rfl⟩,λ_ _ _ h=>h,
  λa g=>by simp[aO.addStm,f g],λ_ _=>rfl,λ_ _ _ _ _=>rfl,⟨rfl,λ_ _=>rfl⟩,rfl,rfl⟩
 refine⟨⟨λa X H=>?_,λa X H=>?_,λa q j=>?_,h.inj,h.lt,h.rlt,h.rdis⟩,e⟩
 ·rw[Fh]at H
  refine(h.obj a X H).ext (by rw[Bm];exact e) (h.bound a X H) rfl (λ_ _ _=>rfl) λx m k d l c=>?_
  rw[Fh]at c;exact⟨k,d,l,c,Y,λ_=>⟨rfl,λ_ _ _=>rfl⟩⟩
 ·rw[Bm];rw[Fh]at H;have:=h.bound a X H;omega
 ·rw[Fh];exact h.dom a q j
end
attribute [grind=] Bm Fh
section
variable {E:aZ}{C C' C₁ C₂:aO}{N N' N₁ N₂:Nat}{w w' w₁ w₂ w₃ w₄:World}{l:Nat}
theorem bC.turnNew(e:bC C N w C₁ N₁ w₁)(t:Jb w₁ w₂ l)(d:¬C₁.own l)(n:w.heap.size<=l):bC C N w C₁ N₁ w₂ where
 next:=e.next
 size:=by rw[t.size];exact e.size
 keep b f i:=by
  obtain⟨j,k⟩:=e.keep b f i
  exact⟨j,by rw[t.other b z,k]⟩
 loc:=e.loc
 stm:=e.stm
 lr:=e.lr
 bsz a g c o h:=by rw[t.csize];exact e.bsz a g c o h
 res:=⟨e.res.1,λb f=>by rw[t.other b (λm=>d (.inl (by rw[e.res.1];grind))),e.res.2 b f]⟩
 os:=⟨t.os.1.trans e.os.1,t.os.2.trans e.os.2⟩
end
def aO.setLoop(C:aO)(a:Nat)(n:Int)(r:Loop):aO:={ C with stm:=λb=>if b=a then n else C.stm b,lr:=λb=>if b=a then some r else C.lr b }
section
variable {P:Program}{C:aO}{w w':World}{J:F}
theorem aX.setLoop(h:aX P C w J)(n r):aX P (C.setLoop (O J) n r) w J/\bC C (O J) w (C.setLoop (O J) n r) (O J) w:=by
 have c:∀{a},a<O J->¬a=O J:=Z;have e:bC C (O J) w (C.setLoop (O J) n r) (O J) w:=⟨Y,Y,λb _ i=>⟨i,rfl⟩,λ_ _ _ h=>h,
  λa f=>by simp[aO.setLoop,c f],λa f=>by simp[aO.setLoop,c f],λ_ _ _ _ _=>rfl,⟨rfl,λ_ _=>rfl⟩,rfl,rfl⟩
 exact⟨⟨λa X H=>(h.obj a X H).ext e (h.bound a X H) rfl (λ_ _ _=>rfl) λx _ j d k g=>⟨j,d,k,g,Y,λ_=>⟨rfl,λ_ _ _=>rfl⟩⟩,
  h.bound,h.dom,h.inj,h.lt,h.rlt,h.rdis⟩,e⟩
theorem aX.newLoop(h:aX P C w J){r}(e:C9 r .ready=r)(p:Pu w w' (.loop r)):
  aX P ((C.setLoop (O J) (w.heap.size:Int) r).add (O J) w.heap.size 0) w' (J.new (.loop .ready))/\
  bC C (O J) w ((C.setLoop (O J) (w.heap.size:Int) r).add (O J) w.heap.size 0) (O J+1) w':=by
 obtain⟨c,a⟩:=h.setLoop (w.heap.size:Int) r
 obtain⟨d,b⟩:=c.new p (.loop .ready) rfl λ_=>⟨w.heap.size,r,by simp[aO.add],by simp[aO.add,aO.setLoop],by rw[e];exact p.here⟩
 exact⟨d,a.trans b⟩
theorem aX.turnLoop(h:aX P C w J){a i}(H:J.get a=some (.loop i))(E):
  ∃c r,C.loc a=some (c,0)/\C.lr a=some r/\w.heap[c]? =some (.loop (C9 r i))/\
   aX P C (w.putObj c (.loop (C9 r E))) (J.set a (.loop E))/\bC C (O J) w C (O J) (w.putObj c (.loop (C9 r E))):=by
 obtain⟨c,r,f,j,g⟩:=h.obj a _ H;have d:=(iK.1 g).1;have p:Wr w (w.putObj c (.loop (C9 r E))) c (.loop (C9 r E)):=⟨World.putObj_size,World.putObj_heap_same d,λb k=>World.putObj_heap_other k,rfl,rfl⟩
 have e:csize (w.putObj c (.loop (C9 r E))) c=csize w c:=by unfold csize;rw[p.here,g]
 obtain⟨l,m⟩:=h.upd f p e H (.loop E) rfl Z λ_=>⟨c,r,f,j,p.here⟩
 grind
end
section
variable {E:aZ}{Rr:bP}
theorem RR{C N w x a}(h:RL C N w [x] a.toList):∃v,a=#[v]/\R C N w x v:=by
 obtain⟨l⟩:=a
 match l,h with
 |[],h=>unfold RL at h;exact h.elim
 |[v],h=>unfold RL at h;exact⟨v,rfl,h.1⟩
 |_::_::_,h=>unfold RL at h;have:=h.2;unfold RL at this;exact this.elim
def Gl(b B:Nat)(C:aO)(N:Nat)(w:World):Prop:=b<N/\(C.stm b).toNat=B/\B<=w.heap.size
theorem Gl.ext{b B C N w a J c}(h:Gl b B C N w)(e:bC C N w a J c):Gl b B a J c:=
 ⟨cC h.1 e.next,by rw[e.stm b h.1];exact h.2.1,bD h.2.2 e.size⟩
theorem MB.of_DR{C N w}:∀{r:List (Nat×List I)} {f:List Deferred},DR C N w r f->MB C N r w.heap.size
 |[],_,_=>λx c=>by cases c
 |y::r,[],h=>by unfold DR at h;grind
 |y::r,d::f,h=>by
  unfold DR at h;intro x c g a b e
  rcases bN.1 c with rfl|c
  ·grind
  ·exact MB.of_DR h.2 x c g a b e
end
end Go.AM

