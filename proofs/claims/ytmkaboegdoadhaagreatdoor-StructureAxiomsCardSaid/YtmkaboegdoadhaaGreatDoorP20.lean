/- A part of the proof; shortened by program. -/
import Derived.Test.YtmkaboegdoadhaaGreatDoorP19
set_option maxRecDepth 100000
set_option maxHeartbeats 4000000
set_option linter.all false
namespace Go.AM
open Go
def rW(i:List Nat)(a:List Wy):Nat:=a.foldl (λt w=>min (t+Gp i w) cS) 0
structure CI (F:List cN)(c:Cs)(E:List Nat):Prop where
 l1:c.1.length=F.length
 l2:c.2.length=F.length
 nd:E.Nodup
 le:∀n,c.1.getD n 0<=2
 mem:∀n,n∈E↔c.1.getD n 0=2
 ord:∀(i n:Nat),E[i]? =some n->∃x,F[n]? =some x/\c.2.getD n 0=rW c.2 x.ways/\∀w∈x.ways,∀k∈w.kids,∃j,j<i/\E[j]? =some k
structure ki (F:List cN)(c:Cs)(E:List Nat)(c':Cs)(E':List Nat):Prop where
 ci:CI F c' E'
 pre:∃X,E'=E++X
 st:∀m,c.1.getD m 0≠0->c'.1.getD m 0=c.1.getD m 0
 tr:∀m∈E,c'.2.getD m 0=c.2.getD m 0
 fr:c'.1.count 0<=c.1.count 0
theorem ki.refl{o c E}(h:CI o c E):ki o c E c E:=⟨h,⟨[],by simp⟩,λ_ _=>rfl,λ_ _=>rfl,Y⟩
theorem ki.mem{o c l E a}(h:ki o c E l a){m}(K:m∈E):m∈a:=by obtain⟨X,rfl⟩:=h.pre;grind
theorem ki.trans{o c l e E a d}(h:ki o c E l a)(g:ki o l a e d):ki o c E e d:=by
 obtain⟨X,i⟩:=h.pre;obtain⟨f,j⟩:=g.pre
 exact⟨g.ci,⟨X++f,Z⟩,λm b=>(g.st m (by rw[h.st m b];exact b)).trans (h.st m b),λm b=>(g.tr m (h.mem b)).trans (h.tr m b),bD g.fr h.fr⟩
def II(o:List cN)(s:Nat->Cs->Option Cs):Prop:=∀n c E b,CI o c E->n<o.length->s n c=some b->∃a,ki o c E b a/\n∈a
theorem Oz{C J:Type}{f g}:∀{l:List C} {b:J},(∀b,∀x∈l,f b x=g b x)->l.foldl f b=l.foldl g b
 |[],_,_=>rfl
 |x::l,b,h=>by
  rw[iU,iU,h b x (cX ..)];exact Oz λb y a=>h b y (ch _ a)
theorem Yb{tr c w}(h:∀k∈w.kids,c.getD k 0=tr.getD k 0):Gp c w=Gp tr w:=Oz Z
theorem QG{a c i}(h:∀w∈i,∀k∈w.kids,c.getD k 0=a.getD k 0):rW c i=rW a i:=Oz λb w d=>by rw[Yb (h w d)]
theorem Anj{o s}(w:II o s):∀(l:List Nat) (p:Nat) (c:Cs) (E:List Nat) (b:Nat) (a:Cs),CI o c E->(∀k∈l,k<o.length)->Ad3 s l p c=some (b,a)->
  ∃g,ki o c E a g/\(∀k∈l,k∈g)/\b=l.foldl (λn k=>min (n*a.2.getD k 0) cS) p
 |[],p,c,E,b,a,f,_,h=>by cases h;exact⟨E,.refl f,λk B=>(by cases B),rfl⟩
 |k::r,p,c,E,b,a,f,m,h=>by
  unfold Ad3 at h
  split at h
  ·cases h
  ·rename_i i y
   obtain⟨t,j,q⟩:=w k c E i f (m k (cX ..)) y;obtain⟨u,e,C,v⟩:=Anj w r _ i t b a j.ci (λx d=>m x (ch _ d)) h
   refine⟨u,j.trans e,λx d=>?_,?_⟩
   ·rcases bN.1 d with rfl|d
    ·exact e.mem q
    grind
   ·rw[v,iU,e.tr k q]
theorem Ank{o s}(q:II o s):∀(l:List Wy) (t:Nat) (c:Cs) (E:List Nat) (b:Nat) (a:Cs),CI o c E->(∀w∈l,∀k∈w.kids,k<o.length)->Acj s l t c=some (b,a)->
  ∃j,ki o c E a j/\(∀w∈l,∀k∈w.kids,k∈j)/\b=l.foldl (λt w=>min (t+Gp a.2 w) cS) t
 |[],t,c,E,b,a,g,_,h=>by cases h;exact⟨E,.refl g,λw G=>(by cases G),rfl⟩
 |w::r,t,c,E,b,a,g,n,h=>by
  unfold Acj at h
  split at h
  ·cases h
  ·rename_i p e C
   obtain⟨v,m,u,B⟩:=Anj q w.kids 1 c E p e g (n w (cX ..)) C;obtain⟨y,f,K,J⟩:=Ank q r _ e v b a m.ci (λx d=>n x (ch _ d)) h
   refine⟨y,m.trans f,λx d=>?_,?_⟩
   ·rcases bN.1 d with rfl|d
    ·exact λk i=>f.mem (u k i)
    grind
   ·have:p=Gp a.2 w:=by rw[B,Yb (tr:=e.2) λk i=>f.tr k (u k i)];rfl
    grind
theorem I5{l:List Nat}{n m v}(S:n<l.length):(l.set n v).getD m 0=if m=n then v else l.getD m 0:=Z
theorem Xb{l:List Nat}{n v}(b:v≠0)(S:n<l.length):(l.set n v).count 0+(if l.getD n 0=0 then 1 else 0)=l.count 0:=Z
theorem CI.lt{o c E}(h:CI o c E):∀n∈E,n<o.length:=λn b=>by
 obtain⟨i,a⟩:=fA.1 b;obtain⟨x,d,_⟩:=h.ord i n a
 grind
theorem CI.len{o c E}(h:CI o c E):E.length<=o.length:=Vl _ _ h.nd h.lt
theorem Z5{g o}(T:jC g o.length o):∀f,II o (La o f)
 |0=>λn c E c' r R h=>by cases h
 |f+1=>λn c E c' r R h=>by
  unfold La at h
  split at h
  ·cases h
  ·rename_i h1
   split at h
   ·rename_i L
    cases h;exact⟨E,.refl r,(r.mem n).2 L⟩
   ·rename_i L
    split at h
    ·cases h
    ·rename_i x W
     split at h
     ·cases h
     ·rename_i t d s
      cases h;have S:n∉E:=λp=>L ((r.mem n).1 p)
      have J:n<c.1.length:=by rw[r.l1];exact R
      have N:CI o (c.1.set n 1,c.2) E:=by
       refine⟨by rw[jO];exact r.l1,r.l2,r.nd,λm=>?_,λm=>?_,r.ord⟩
       ·show(c.1.set n 1).getD m 0<=2
        rw[I5 J];split
        ·omega
        ·exact r.le m
       ·rw[r.mem]
        grind
      have B:∀w∈x.ways,∀k∈w.kids,k<o.length:=λw s=>(T x (fA.2 ⟨_,W⟩) w s).kid
      obtain⟨G,q,m1,e1⟩:=Ank (Z5 T f) x.ways 0 _ E t d N B s
      have a8:d.1.getD n 0=1:=by
       have:=q.st n Z
       grind
      have qd:n∉G:=λp=>by have:=(q.ci.mem n).1 p;grind
      have u:n<d.1.length:=Z
      have K:n<d.2.length:=by rw[q.ci.l2];exact R
      have C:∀m∈G,(d.2.set n t).getD m 0=d.2.getD m 0:=Z;obtain⟨X,hX⟩:=q.pre
      refine⟨G++[n],⟨⟨by show(d.1.set n 2).length=_;rw[jO];exact q.ci.l1,by show(d.2.set n t).length=_;rw[jO];exact q.ci.l2,?_,λm=>?_,λm=>?_,λi m p=>?_⟩,⟨X++[n],Z⟩,λm p=>?_,λm p=>?_,?_⟩,by simp⟩
      ·exact rC.2 ⟨q.ci.nd,by simp,λa ha b hb e=>qd Z⟩
      ·show(d.1.set n 2).getD m 0<=2
       rw[I5 u];split
       ·omega
       ·exact q.ci.le m
      ·show _↔(d.1.set n 2).getD m 0=2
       rw[I5 u,dW,cI,q.ci.mem]
       grind
      ·rw[List.getElem?_append]at p
       split at p
       ·rename_i hi
        obtain⟨y,hy,q1,q2⟩:=q.ci.ord i m p;have Q:m∈G:=fA.2 ⟨_,p⟩;refine⟨y,hy,?_,λw s k B=>?_⟩
        ·show(d.2.set n t).getD m 0=rW (d.2.set n t) y.ways
         rw[C m Q,q1];refine(QG λw s k B=>C k ?_).symm
         grind
        ·obtain⟨j,U,a7⟩:=q2 w s k B;exact⟨j,U,Z⟩
       ·rename_i hi
        have P:i-G.length=0:=Z;rw[P]at p;cases p;refine⟨x,W,?_,λw s k B=>?_⟩
        ·show(d.2.set n t).getD n 0=rW (d.2.set n t) x.ways
         rw[I5 K,if_pos rfl];exact e1.trans (QG λw s k B=>C k (m1 w s k B)).symm
        ·obtain⟨j,U⟩:=fA.1 (m1 w s k B)
         grind
      ·show(d.1.set n 2).getD m 0=_
       rw[I5 u]
       by_cases e:m=n
       ·exfalso
        rw[e]at p;have:=r.le n;omega
       ·rw[if_neg e,q.st m Z]
        grind
      ·show(d.2.set n t).getD m 0=_
       rw[I5 K,if_neg (λe:m=n=>S Z)]
       exact q.tr m p
      ·show(d.1.set n 2).count 0<=_
       have a1:=Xb (l:=d.1) (n:=n) (v:=2) zD u
       have a2:=Xb (l:=c.1) (n:=n) (v:=1) zD J
       have a3:d.1.count 0<=(c.1.set n 1).count 0:=q.fr;omega
theorem Afm{i:List Nat}:∀(l:List Nat),l.foldl (λn k=>min (n*i.getD k 0) cS) 0=0
 |[]=>rfl
 |k::l=>by rw[iU,lH,Nat.zero_min];exact Afm l
theorem Xc{i:List Nat}:∀(l:List Nat) (b:Nat),l.foldl (λn k=>min (n*i.getD k 0) cS) b≠0->∀k∈l,i.getD k 0≠0
 |[],_,_,k,a=>by cases a
 |x::l,b,h,k,a=>by
  rw[iU]at h
  rcases bN.1 a with rfl|a
  ·intro e;rw[e,Nat.mul_zero,Nat.zero_min]at h;exact h (Afm l)
  ·exact Xc l _ h k a
theorem Ajm{i}:∀(l:List Wy) (t:Nat),l.foldl (λt w=>min (t+Gp i w) cS) t≠0->t≠0\/∃w∈l,Gp i w≠0
 |[],_,h=>.inl h
 |x::l,t,h=>by
  rcases Ajm l _ h with h|⟨w,a,h⟩
  ·grind
  grind
theorem CI.first{o c E}(h:CI o c E){i n:Nat}(L:E[i]? =some n)(S:c.2.getD n 0≠0):
  ∃x w,o[n]? =some x/\(x.ways.find? λw=>decide (Gp c.2 w≠0))=some w/\w∈x.ways/\Gp c.2 w≠0/\∀k∈w.kids,(∃j,j<i/\E[j]? =some k)/\c.2.getD k 0≠0:=by
 obtain⟨x,p,f,g⟩:=h.ord i n L;rw[f]at S
 rcases Ajm _ _ S with q|⟨w,m,l⟩
 ·grind
 ·cases b:x.ways.find? λw=>decide (Gp c.2 w≠0)with
  |none=>have:=List.find?_eq_none.1 b w m;simp[l]at this
  |some v=>
   have e:=List.mem_of_find?_eq_some b;have a:Gp c.2 v≠0:=Z;exact⟨x,v,p,b,e,a,λk d=>⟨g v e k d,Xc _ _ a k d⟩⟩
theorem Tx{g o c E}(h:CI o c E):∀(i n f a:Nat),E[i]? =some n->c.2.getD n 0≠0->i<f->i<a->Yy g o c.2 f n=Yy g o c.2 a n:=by
 intro i
 induction i using Nat.strongRecOn with
 |_ i t=>
  intro n f a m r u v;obtain⟨x,w,s,l,B,y,q⟩:=h.first m r
  obtain⟨f,rfl⟩:∃k,f=k+1:=⟨f-1,by omega⟩
  obtain⟨a,rfl⟩:∃k,a=k+1:=⟨a-1,by omega⟩
  simp only[Yy,s,l]
  congr 1
  refine List.map_congr_left λk d=>?_
  obtain⟨⟨j,p,b⟩,e⟩:=q k d;exact t j p k f a b e z z
def fT(g:Gr)(o:List cN)(c:Cs)(n:Nat):Ax:=Yy g o c.2 (o.length+1) n
theorem vc{g o c E}(h:CI o c E){i n:Nat}{x w}(L:E[i]? =some n)(S:c.2.getD n 0≠0)(W:o[n]? =some x)(N:(x.ways.find? λw=>decide (Gp c.2 w≠0))=some w):
  fT g o c n=.node (Md g w.rule) (w.kids.map (fT g o c)):=by
 obtain⟨v,u,b,a,t,s,p⟩:=h.first L S;rw[W]at b;cases b;rw[N]at a;cases a;have r:=h.len;have m:=(bQ.1 L).1
 have e:fT g o c n=.node (Md g w.rule) (w.kids.map (Yy g o c.2 o.length)):=by
  unfold fT;simp only[Yy,W,N]
 rw[e]
 congr 1
 refine List.map_congr_left λk f=>?_
 obtain⟨⟨j,q,d⟩,l⟩:=p k f;exact Tx h j k _ _ d l z z
theorem ci0{o}:CI o (List.replicate o.length 0,List.replicate o.length 0) []:=by
 have h:∀n,(List.replicate o.length 0).getD n 0=0:=Z
 refine⟨by simp,by simp,kQ,λn=>?_,λn=>?_,Z⟩
 ·grind
 grind
section
open Go Go.Proofs
def el(n m:Int):Nat->Int->Int
 |0,c=>c
 |k+1,c=>if decide (m<c*n)=true then m+1 else el n m k (c*n)
theorem A1o{n m:Int}:∀{k:Nat} {c:Int},el n m k c<=m->el n m k c=c*n ^ k
 |0,c,_=>by simp[el]
 |k+1,c,h=>by
  unfold el at h⊢
  split at h
  ·omega
  ·rename_i a
   rw[if_neg a,A1o h,Int.pow_succ,Int.mul_assoc,Int.mul_comm n]
def jf(g:List Rl):List Rl:=g.filter λr=> !r.var
end
section
open Go Go.Proofs
theorem GY(p:Int->Bool)(l:List Int)(k:Nat)(y:List I)(J:F)(Q:l.length<4611686018427387904)(X:∀a∈l,Al M k ([D a]++y) J λv c=>v=.bool (p a)/\c=J):
  Cv 163 [aD eI 1 l,.fn (.func k) [] y] J (D (A5 p l 0)):=by
 refine Aj Tryz.func163 rfl rfl λm r=>?_
 refine cG ?_;refine Bz l.length (λi=>[(0,aD eI 1 l),(1,.fn (.func k) [] y),(7,D (.ofNat l.length)),(8,D (.ofNat i))]) (λi c=>c=J/\A5 p l 0=A5 p (l.drop i) i) SL ⟨rfl,rfl⟩ ?_
 rintro i c o ⟨rfl,e⟩;refine G5 ?_;refine Ab rfl ?_ ?_<;>intro h
 ·have b:i<l.length:=by simpa using h
  obtain⟨a,g⟩:∃a,l[i]? =some a:=⟨_,fF b⟩
  have j:l.drop i=a::l.drop (i+1):=by
   obtain⟨n,rfl⟩:=bQ.1 g;exact iF n
  iterate 15 refine G ?_
  refine Az rfl rfl rfl rfl (X a (bA g)) ?_;rintro _ _ ⟨rfl,rfl⟩;refine G ?_;refine Ab rfl (λd=>?_) (λd=>?_)
  ·refine G6 ?_;refine⟨_,rfl,D (.ofNat i),_,a_ m Y zN,Y,.same rfl,?_,rfl⟩
   rw[e,j];simp only[A5,d,cond_true]
  ·refine G2 ?_;refine A (D3 (p:=i) (q:=1) aV rfl rfl z) ?_;refine G2 ?_;refine⟨b,SL,rfl,?_⟩;rw[e,j];simp only[A5,d,cond_false]
 ·have f:l.length<=i:=by simpa using h
  refine G6 ?_;refine⟨_,rfl,D (-1),_,a_ m Y zN,Y,.same rfl,?_,rfl⟩
  rw[e,cv f];rfl
theorem GQ(p:Int->Bool)(l:List Int)(k:Nat)(y:List I)(J:F)(Q:l.length<4611686018427387904)(X:∀a∈l,Al M k ([D a]++y) J λv b=>v=.bool (p a)/\b=J):
  Cv 127 [aD eI 1 l,.fn (.func k) [] y] J (.bool (l.any p)):=by
 refine Aj Tryz.func127 rfl rfl λc _=>?_
 refine G8 ?_;refine Az rfl rfl rfl rfl (GY p l k y J Q X) ?_;rintro _ _ ⟨rfl,rfl⟩;refine G4 ?_;refine B4 c rfl ?_;exact congrArg I.bool (Gf l)
end
section
open Go Go.Proofs
end
section
open Go Go.Proofs
end
section
open Go Go.Proofs
theorem qA{E f J a}{t l:Nat}{x y p q}(L:cW E.P t=true)(W:Ah E f x=some (.int .i64 p))(B:Ah E f y=some (.int .i64 q))(u: -9223372036854775808<=p*q)(r:p*q<9223372036854775808):
  As E a (.binOp .mul t x y l) f J (D (p*q)) J:=L0 L W B (by simp only[Ic,ET u r];rfl)
end
section
open Go Go.Proofs
theorem Qy(r):(eR r).length=4:=rfl
end
section
open Go Go.Proofs
section
variable {E:aZ}{ρ:Ad}{J:F}{Rr:bP}{t t':Nat}{x:Operand}{v z:I}
end
end
section
open Go Go.Proofs
end
section
open Go Go.Proofs
mutual
def hT:Ax->Nat
 |.node _ ks=>1+hL ks
def hL:List Ax->Nat
 |[]=>0
 |t::r=>max (hT t) (hL r)
end
mutual
theorem PM:∀(t:Ax) (lv:Nat),eZ t lv+1=lv+hT t
 |.node _ ks,lv=>by unfold eZ hT;have:=NO ks (lv+1) lv Y;omega
theorem NO:∀(l:List Ax) (lv d:Nat),lv<=d+1->iW l lv d+1=max (d+1) (lv+hL l)
 |[],lv,d,h=>by unfold iW hL;omega
 |t::r,lv,d,h=>by
  unfold iW hL;have h1:=PM t lv;rw[NO r lv (max d (eZ t lv)) z];omega
end
end
section
open Go Go.Proofs
theorem CZ{d}:(aM d).1=zG\/Eb (aM d).1=0:=by
 unfold aM
 split
 ·exact .inl rfl
 ·split
  ·exact .inl rfl
  ·split
   ·exact .inl rfl
   ·split
    ·exact .inl rfl
    ·rename_i a;exact .inr (by simpa using a)
theorem Yc(d):gU (aM d).1:=by
 rcases CZ (d:=d)with h|h
 ·rw[h]
  exact⟨⟨λr a=>(by cases a),λr a=>(by cases a)⟩,kQ,λr a=>(by cases a),by simp[zG],λr a=>(by cases a)⟩
 ·exact O' h
end
section
open Go Go.Proofs
def fL:Ax->aH
 |.node l _=>l
end
section
open Go Go.Proofs
end
section
open Go Go.Proofs
end
section
open Go Go.Proofs
end
section
open Go Go.Proofs
theorem KH{d}:Eb (aM d).1=0:=by
 rcases CZ (d:=d)with h|h
 ·rw[h];decide
 ·exact h
theorem NI(d):sY (aM d).1:=by
 have a:=Yc d;have c:=a.len
 refine⟨?_,by omega,λr b=>by have:=a.prt r b;omega⟩
 have h:=KH (d:=d);unfold Eb at h
 grind
end
section
open Go Go.Proofs
structure oS where
 code:aH
 kind:Int
structure Sy where
 label:aH
 binds:Int
 vals:List Int
structure cA where
 size:Int
 sorts:List oS
 syms:List Sy
structure cT where
 var:aH
 obj:Int
 vals:List Int
def R9:cT:=⟨[],0,[]⟩
def kd(o:SM Int)(s:aH):Int:=(o.get s).getD 0
def bR(n k:Int):Int:=if k=3 then 2 else n
theorem rN{n k:Int}(h:1<=n):1<=bR n k:=by unfold bR;split<;>omega
theorem y0{n k:Int}(h:n<=3):bR n k<=3:=by unfold bR;split<;>omega
def bJ(r:Rl):List aH:=r.parts.foldl (λl p=>if p.sort=[]then l else l.set p.arg.toNat p.sort) (List.replicate (Qw r) [])
theorem A8y:∀(a:List Pt) (l:List aH),(a.foldl (λl p=>if p.sort=[]then l else l.set p.arg.toNat p.sort) l).length=l.length
 |[],l=>rfl
 |p::a,l=>by
  rw[iU,A8y a]
  split
  ·rfl
  ·rw[jO]
theorem pV(r:Rl):(bJ r).length=Qw r:=by unfold bJ;rw[A8y,kA]
theorem Ba2{j:Nat}{q:aH}:∀(c:List Pt) (l:List aH),(∀p∈c,p.sort≠[]->p.arg.toNat=j->p.sort=q)->j<l.length->(l[j]? =some q\/∃p∈c,p.sort≠[]/\p.arg.toNat=j)->
  (c.foldl (λl p=>if p.sort=[]then l else l.set p.arg.toNat p.sort) l)[j]? =some q
 |[],l,_,g,h=>by
  rcases h with h|⟨p,m,_⟩
  ·exact h
  ·cases m
 |p::c,l,k,g,h=>by
  rw[iU]
  refine Ba2 c _ (λb a=>k b (by simp[a])) (by split;exact g;rw[jO];exact g) ?_
  by_cases i:p.sort=[]
  ·rw[if_pos i]
   rcases h with h|⟨b,a,d,e⟩
   ·exact .inl h
   ·rcases bN.1 a with rfl|a
    ·exact absurd i d
    ·exact .inr ⟨b,a,d,e⟩
  ·rw[if_neg i]
   by_cases f:p.arg.toNat=j
   ·left
    rw[f,f_ g,k p zS i f]
   ·rw[yM f]
    rcases h with h|⟨b,a,d,e⟩
    ·exact .inl h
    ·rcases bN.1 a with rfl|a
     ·exact absurd e f
     ·exact .inr ⟨b,a,d,e⟩
theorem nQ{g:List Rl}(H:jA g){s q:aH}{t:List Ax}(h:ev g (.node s t)=some q):∃r,F4 g s=some r/\r.sort=q/\Qw r=t.length/\∀(j:Nat) (k:Ax),t[j]? =some k->∃a,(bJ r)[j]? =some a/\ev g k=some a:=by
 unfold ev at h
 split at h
 ·rename_i r w
  split at h
  ·rename_i l
   simp only[bg,decide_eq_true_eq]at l
   refine⟨r,w,by simpa using h,l.2,λj k v=>?_⟩
   have y:=(bQ.1 v).1;obtain⟨p,e,f,x⟩:=H.cov r (sP w) j z
   have d:∀p∈r.parts,p.sort≠[]->p.arg.toNat=j->ev g k=some p.sort:=λp n o i=>by
    have b:=b_.1 l.1 p n;simp only[eO,decide_eq_true_eq]at b
    rcases b with b|b
    ·exact absurd b o
    ·rw[i,AE,eC,v]at b
     simpa using b
   have c:p.arg.toNat=j:=by rw[x];rfl
   refine⟨p.sort,?_,d p e f c⟩;unfold bJ
   refine Ba2 r.parts _ (λB m o i=>?_) (by rw[kA];omega) (.inr ⟨p,e,f,c⟩)
   have u:=d B m o i;rw[d p e f c]at u;exact(gL u).symm
  ·cases h
 ·cases h
def cY(l:List (Int×Int))(c:Int):Int:=l.foldl (λc p=>c*p.1+p.2) c
def d7(l:List (Int×Int)):Int:=l.foldl (λc p=>c*p.1) 1
theorem BP:∀(l:List (Int×Int)) (c:Int),l.foldl (λc p=>c*p.1) c=c*d7 l
 |[],c=>by simp[d7]
 |p::l,c=>by
  rw[iU,BP l,Int.mul_assoc]
  congr 1
  unfold d7;rw[iU,BP l (1*p.1),Int.one_mul];rfl
theorem sB(p:Int×Int)(l:List (Int×Int)):d7 (p::l)=p.1*d7 l:=by
 show l.foldl _ (1*p.1)=_
 rw[BP,Int.one_mul]
theorem zp:∀(l m:List (Int×Int)),d7 (l++m)=d7 l*d7 m
 |[],m=>by simp[d7]
 |p::l,m=>by rw[dL,sB,sB,zp l m,Int.mul_assoc]
theorem Rq(l m:List (Int×Int))(c:Int):cY (l++m) c=cY m (cY l c):=by unfold cY;rw[List.foldl_append]
def oN(l:List (Int×Int)):Prop:=∀p∈l,0<=p.2/\p.2<p.1
theorem QH{l:List (Int×Int)}(h:oN l):1<=d7 l:=by
 induction l with
 |nil=>simp[d7]
 |cons p l c=>
  rw[sB]
  have d:=h p zS
  have a:=c λq b=>h q (by simp[b])
  have e:1*1<=p.1*d7 l:=Int.mul_le_mul z a z z;omega
theorem Ba4:∀{l:List (Int×Int)},oN l->∀c P:Int,0<=c->c<P->0<=cY l c/\cY l c<P*d7 l
 |[],_,c,P,a,b=>by simp[cY,d7];omega
 |p::l,h,c,P,a,b=>by
  have g:=h p zS
  have f:0<=c*p.1:=Int.mul_nonneg a z;have d:(c+1)*p.1<=P*p.1:=Int.mul_le_mul_of_nonneg_right z z;rw[Int.add_mul,Int.one_mul]at d;rw[sB,<-Int.mul_assoc]
  exact Ba4 (l:=l) (λq e=>h q (by simp[e])) (c*p.1+p.2) (P*p.1) z z
theorem QL{l m:List (Int×Int)}(h:oN (l++m)):0<=cY l 0/\cY l 0<d7 (l++m):=by
 have b:oN l:=λp a=>h p (by simp[a])
 have c:=QH (l:=m) λp a=>h p (by simp[a])
 have f:=QH b;obtain⟨d,e⟩:=Ba4 b 0 1 z z;rw[Int.one_mul]at e;rw[zp];have g:d7 l*1<=d7 l*d7 m:=Int.mul_le_mul_of_nonneg_left c z
 exact⟨d,by omega⟩
structure Wd where
 g:List Rl
 km:SM Int
 sm:SM Sy
 n:Int
structure cF where
 of:aH->cT
 k:Nat
def dU(n:Int)(l:List Int):Int:=dK n l
def fU(u:Int)(f:List Int->Int)(E:List Int)(n m:Nat):List (Int×Int):=(List.range m).map λe=>(u,f (E.set n (Int.ofNat e)))
theorem CN{u:Int}{f:List Int->Int}{E:List Int}{n m:Nat}:fU u f E n (m+1)=fU u f E n m++[(u,f (E.set n (Int.ofNat m)))]:=by unfold fU;rw[List.range_succ,iG];rfl
def jP(W:Wd)(b:Int)(n:Nat)(E:List Int)(i:Nat)(s:aH)(f:List Int->Int):List (Int×Int):=
 if b<0 then[(bR W.n (kd W.km s),f E)]else if Int.ofNat i=b then[]else fU (bR W.n (kd W.km s)) f E n W.n.toNat
def A78(W:Wd)(b:Int)(n:Nat)(E:List Int):List aH->List (List Int->Int)->Nat->List (Int×Int)
 |s::c,f::a,i=>jP W b n E i s f++A78 W b n E c a (i+1)
 |_,_,_=>[]
theorem A98{W:Wd}{b:Int}{n:Nat}{E:List Int}:∀{d:List aH} {e:List (List Int->Int)} {c:List aH} {a:List (List Int->Int)} {i:Nat},d.length=e.length->A78 W b n E (d++c) (e++a) i=A78 W b n E d e i++A78 W b n E c a (i+d.length)
 |[],[],c,a,i,_=>by simp[A78]
 |s::d,f::e,c,a,i,h=>by
  simp only[dL,A78,iC,cZ]
  rw[A98 (by simpa using h),show i+1+d.length=i+(d.length+1) by omega]
theorem JY{W:Wd}{b:Int}{obj:Nat}{at':List Int}{J:List aH}{a:List (List Int->Int)}{i:Nat}{s:aH}{f:List Int->Int}(j:J[i]? =some s)(N:a[i]? =some f):A78 W b obj at' (J.take (i+1)) (a.take (i+1)) 0=A78 W b obj at' (J.take i) (a.take i) 0++jP W b obj at' i s f:=by
 have c:=(bQ.1 j).1;have d:=(bQ.1 N).1
 rw[Fw j,Fw N,A98 (by simp;omega),gC,nO z,dE]
 simp[A78]
mutual
def cU (W:Wd) (M:cF):Ax->List Int->Int
 |.node s ks,at'=>match F4 W.g s with
  |none=>0
  |some r=>if r.var=true then(if kd W.km r.sort=1 then(at'[(M.of s).obj.toNat]?).getD 0 else((M.of s).vals[(dU W.n (at'.take M.k)).toNat]?).getD 0)
   else match W.sm.get s with
    |none=>0
    |some y=>(y.vals[(cY (A78 W y.binds (M.of (((ks[y.binds.toNat]?).map fL).getD [])).obj.toNat at' (bJ r) (dN W M ks) 0) 0).toNat]?).getD 0
def dN (W:Wd) (M:cF):List Ax->List (List Int->Int)
 |[]=>[]
 |t::r=>cU W M t::dN W M r
end
theorem A9v{W:Wd}{E:cF}:∀l:List Ax,dN W E l=l.map (cU W E)
 |[]=>rfl
 |t::r=>by rw[dN,A9v r];rfl
def gP(W:Wd)(b:Int)(i:Nat)(s:aH):Int:=if b<0 then bR W.n (kd W.km s)else if Int.ofNat i=b then 1 else el (bR W.n (kd W.km s)) 10000 W.n.toNat 1
def eX(W:Wd)(b:Int):List aH->Nat->Int->Int
 |[],_,c=>c
 |s::l,i,c=>if decide (10000<c*gP W b i s)=true then 10001 else eX W b l (i+1) (c*gP W b i s)
theorem Bbj{W:Wd}{b:Int}{obj:Nat}{at':List Int}(S:1<=W.n):∀{a:List aH} {d:List (List Int->Int)} {i:Nat} {c:Int},1<=c->a.length=d.length->eX W b a i c<=10000->eX W b a i c=c*d7 (A78 W b obj at' a d i)
 |[],[],i,c,_,_,_=>by simp[eX,A78,d7]
 |s::a,f::d,i,c,p,u,h=>by
  unfold eX at h⊢
  split at h
  ·omega
  ·rename_i j
   rw[if_neg j];simp only[decide_eq_true_eq]at j;have r:=rN (k:=kd W.km s) S
   have q:gP W b i s=d7 (jP W b obj at' i s f)/\1<=gP W b i s:=by
    unfold gP jP at *
    by_cases e:b<0
    ·rw[if_pos e,if_pos e,sB];simp[d7];exact r
    ·rw[if_neg e,if_neg e]
     by_cases g:Int.ofNat i=b
     ·rw[if_pos g,if_pos g];simp[d7]
     ·rw[if_neg g,if_neg g]
      have n:el (bR W.n (kd W.km s)) 10000 W.n.toNat 1<=10000:=by
       rw[if_neg e,if_neg g]at j
       by_cases w:el (bR W.n (kd W.km s)) 10000 W.n.toNat 1<=10000
       ·exact w
       ·have:1*el (bR W.n (kd W.km s)) 10000 W.n.toNat 1<=c*el (bR W.n (kd W.km s)) 10000 W.n.toNat 1:=Int.mul_le_mul_of_nonneg_right p z;omega
      have t:∀m:Nat,d7 (fU (bR W.n (kd W.km s)) f at' obj m)=bR W.n (kd W.km s) ^ m:=λm=>by
       induction m with
       |zero=>simp[fU,d7]
       |succ m o=>rw[CN,zp,o,sB,Int.pow_succ];simp[d7]
      rw[t,A1o n,Int.one_mul];refine⟨rfl,?_⟩
      have v:∀m:Nat,1<=bR W.n (kd W.km s) ^ m:=λm=>by
       induction m with
       |zero=>simp
       |succ m o=>
        rw[Int.pow_succ];have:1*1<=bR W.n (kd W.km s) ^ m*bR W.n (kd W.km s):=Int.mul_le_mul o r z z;omega
      exact v _
   have l:1<=c*gP W b i s:=by
    have:1*1<=c*gP W b i s:=Int.mul_le_mul p q.2 z z;omega
   rw[Bbj S (obj:=obj) (at':=at') l (by simpa using u) h]
   rw[show A78 W b obj at' (s::a) (f::d) i=jP W b obj at' i s f++A78 W b obj at' a d (i+1)from rfl,zp,<-q.1,Int.mul_assoc]
structure jN (W:Wd):Prop where
 n1:1<=W.n
 n3:W.n<=3
 rs:jA W.g
 sy:∀s y,W.sm.get s=some y->∃r,F4 W.g s=some r/\r.var=false/\kd W.km r.sort≠1/\(y.binds= -1\/∃j,y.binds=Int.ofNat j/\∃q,(bJ r)[j]? =some q/\kd W.km q=1)/\Int.ofNat y.vals.length=eX W y.binds (bJ r) 0 1/\eX W y.binds (bJ r) 0 1<=10000/\∀v∈y.vals,0<=v/\v<bR W.n (kd W.km r.sort)
 all:∀s r,F4 W.g s=some r->r.var=false->∃y,W.sm.get s=some y
def HY(W:Wd)(k:Nat)(r:Rl)(x:cT):Prop:=
 (kd W.km r.sort=1->0<=x.obj/\x.obj<Int.ofNat k)/\(kd W.km r.sort≠1->Int.ofNat x.vals.length=W.n ^ k/\∀v∈x.vals,0<=v/\v<bR W.n (kd W.km r.sort))
def kY(W:Wd)(E:cF)(t:Ax):Prop:=∀s r,eE s t=true->F4 W.g s=some r->r.var=true->HY W E.k r (E.of s)
def ff(n:Int)(l:List Int):Prop:=l.length=6/\∀v∈l,0<=v/\v<n
theorem ff.set{n:Int}{l:List Int}{o e:Nat}(h:ff n l)(p:Int.ofNat e<n):ff n (l.set o (Int.ofNat e)):=by
 refine⟨by rw[jO];exact h.1,λv a=>?_⟩
 rcases List.mem_or_eq_of_mem_set a with a|rfl
 ·exact h.2 v a
 ·exact⟨by simp,p⟩
theorem kY.kid{W:Wd}{E:cF}{s:aH}{c:List Ax}(h:kY W E (.node s c)):∀k∈c,kY W E k:=λk b d r e=>h d r (by
 unfold eE;rw[show kT d c=true from ?_];simp
 clear h
 induction c with
 |nil=>cases b
 |cons a l f=>
  unfold kT
  rcases bN.1 b with rfl|b
  ·rw[e];rfl
  ·rw[f b];simp)
theorem Bc9{W:Wd}{M:cF}(E:jN W){s q:aH}{o:List Ax}(h:ev W.g (.node s o)=some q)(b:kY W M (.node s o)){y:Sy}{r:Rl}(w:F4 W.g s=some r){j:Nat}{a:aH}(t:(bJ r)[j]? =some a)(X:kd W.km a=1):∃k,o[j]? =some k/\0<=(M.of (fL k)).obj/\(M.of (fL k)).obj<Int.ofNat M.k:=by
 obtain⟨N,f,_,C,m⟩:=nQ E.rs h;rw[w]at f;cases f;have e:=(bQ.1 t).1;rw[pV,C]at e;obtain⟨k,c⟩:=Ar e;obtain⟨K,d,B⟩:=m j k c;rw[t]at d;cases d;refine⟨k,c,?_⟩;cases k with
 |node l L=>
  obtain⟨g,i,p,_⟩:=nQ E.rs B
  have G:g.var=true:=by
   cases x:g.var with
   |true=>rfl
   |false=>
    obtain⟨J,n⟩:=E.all l g i x;obtain⟨P,u,_,v,_⟩:=E.sy l J n;rw[i]at u;cases u;rw[p]at v;exact absurd X v
  exact(b.kid _ (bA c) l g (by unfold eE;simp) i G).1 (by rw[p];exact X)
theorem Bct{W:Wd}{b:Int}{n:Nat}{E:List Int}(u:ff W.n E):∀{ss:List aH} {fs:List (List Int->Int)} {i:Nat},(∀(j:Nat) (a:aH) (f:List Int->Int),ss[j]? =some a->fs[j]? =some f->∀E,ff W.n E->0<=f E/\f E<bR W.n (kd W.km a))->oN (A78 W b n E ss fs i)
 |[],fs,i,_=>by intro p c;simp[A78]at c
 |s::ss,[],i,_=>by intro p c;simp[A78]at c
 |s::ss,f::fs,i,h=>by
  intro p c;rw[show A78 W b n E (s::ss) (f::fs) i=jP W b n E i s f++A78 W b n E ss fs (i+1)from rfl]at c
  rcases dW.1 c with c|c
  ·unfold jP at c
   split at c
   ·simp only[cI]at c;subst c;exact h 0 s f rfl rfl E u
   ·split at c
    ·cases c
    ·unfold fU at c;obtain⟨e,g,rfl⟩:=dO.1 c
     exact h 0 s f rfl rfl _ (u.set (by have:=jW.1 g;simp only[ep];omega))
  ·exact Bct u (ss:=ss) (fs:=fs) (i:=i+1) (λj a f d k=>h (j+1) a f (by simpa using d) (by simpa using k)) p c
theorem KY{W:Wd}{k:Nat}{E:List Int}(S:1<=W.n)(u:ff W.n E)(X:k<=6):0<=dU W.n (E.take k)/\dU W.n (E.take k)<W.n ^ k:=by
 have:=zv S (E.take k) λv a=>u.2 v (kJ a)
 rwa[gC,u.1,nO X]at this
theorem Bdk{W:Wd}{E:cF}(i:jN W){s q:aH}{c:List Ax}(h:ev W.g (.node s c)=some q)(R:∀k∈c,∀q,ev W.g k=some q->∀at',ff W.n at'->0<=cU W E k at'/\cU W E k at'<bR W.n (kd W.km q)){y:Sy}{r:Rl}(w:F4 W.g s=some r)(B:W.sm.get s=some y){at':List Int}(u:ff W.n at')(obj:Nat):
  oN (A78 W y.binds obj at' (bJ r) (dN W E c) 0)/\d7 (A78 W y.binds obj at' (bJ r) (dN W E c) 0)=Int.ofNat y.vals.length:=by
 obtain⟨C,e,_,p,m⟩:=nQ i.rs h;rw[w]at e;cases e;obtain⟨G,n,_,_,_,t,v,_⟩:=i.sy s y B;rw[w]at n;cases n;refine⟨Bct u λj a f o b=>?_,?_⟩
 ·rw[A9v,eC]at b;cases g:c[j]? with
  |none=>rw[g]at b;cases b
  |some k=>
   rw[g]at b;simp only[mH,bH]at b;subst b;obtain⟨x,d,l⟩:=m j k g;rw[o]at d;cases d;exact R k (bA g) a l
 ·rw[t,Bbj i.n1 (obj:=obj) (at':=at') (d:=dN W E c) z (by rw[pV,A9v,jT,p]) v,Int.one_mul]
theorem BZ{W:Wd}{E:cF}(b:jN W)(f:E.k<=6)(t:Ax):∀q,ev W.g t=some q->kY W E t->∀a,ff W.n a->0<=cU W E t a/\cU W E t a<bR W.n (kd W.km q):=by
 refine Ax.ind' (P:=λt=>∀q,ev W.g t=some q->kY W E t->∀a,ff W.n a->0<=cU W E t a/\cU W E t a<bR W.n (kd W.km q)) ?_ t
 intro s o G q h w a i;obtain⟨r,e,j,C,p⟩:=nQ b.rs h;have B:=rN (k:=kd W.km q) b.n1;unfold cU;rw[e];simp only
 by_cases g:r.var=true
 ·rw[if_pos g]
  have u:=w s r (by unfold eE;simp) e g
  by_cases d:kd W.km r.sort=1
  ·rw[if_pos d]
   have l:bR W.n (kd W.km q)=W.n:=by rw[<-j,d];rfl
   rw[l];have:=b.n1;cases c:a[(E.of s).obj.toNat]? with
   |none=>simp;omega
   |some v=>exact i.2 v (bA c)
  ·rw[if_neg d];cases c:(E.of s).vals[(dU W.n (a.take E.k)).toNat]? with
   |none=>simp;omega
   |some v=>rw[<-j];exact(u.2 d).2 v (bA c)
 ·rw[if_neg g]
  obtain⟨y,m⟩:=b.all s r e (by simpa using g)
  rw[m];simp only;obtain⟨L,n,_,_,_,J,K,x⟩:=b.sy s y m;rw[e]at n;cases n;cases c:y.vals[(cY (A78 W y.binds (E.of (((o[y.binds.toNat]?).map fL).getD [])).obj.toNat a (bJ r) (dN W E o) 0) 0).toNat]? with
  |none=>simp;omega
  |some v=>rw[<-j];exact x v (bA c)
end
section
open Go Go.Proofs
def qG(i:List aH)(o:SM Int)(x:oS):Bool:=((((!(i.any λy=>decide (x.code=y)))|| !decide (kd o x.code=0))||decide (x.kind<1))||decide (3<x.kind))||(decide (x.code=[119,102,102])&& !decide (x.kind=3))
def Ba6(i:List aH):List oS->SM Int->Int×SM Int
 |[],a=>(0,a)
 |x::r,a=>if qG i a x=true then(380,a)else Ba6 i r (a.put x.code x.kind)
def rB(n k:Int)(l:List Int):Bool:= !(l.any λv=>decide (v<0)||decide (bR n k<=v))
theorem V4{n k:Int}{l:List Int}(h:rB n k l=true):∀v∈l,0<=v/\v<bR n k:=λv a=>by
 unfold rB at h;simp only[eQ,rO,eO,decide_eq_true_eq,not_or]at h;have:=h v a;omega
def eG(W:Wd)(y:Sy):Int:=match F4 W.g y.label with
 |none=>381
 |some r=>if((r.var||(W.sm.get y.label).isSome)||decide (kd W.km r.sort=1))=true then 381
  else if(!decide (y.binds= -1)&&((decide (y.binds<0)||decide (Int.ofNat (bJ r).length<=y.binds))|| !decide (kd W.km (((bJ r)[y.binds.toNat]?).getD [])=1)))=true then 381
  else if decide (10000<eX W y.binds (bJ r) 0 1)=true then 4
  else if(!decide (Int.ofNat y.vals.length=eX W y.binds (bJ r) 0 1)|| !rB W.n (kd W.km r.sort) y.vals)=true then 381 else 0
def A82(W:Wd):List Sy->SM Sy->Int×SM Sy
 |[],sm=>(0,sm)
 |y::r,sm=>if eG { W with sm:=sm } y=0 then A82 W r (sm.put y.label y)else(eG { W with sm:=sm } y,sm)
def jo(h:Gr)(s:cA):Int×SM Int:=Ba6 h.sorts s.sorts []
def bZ(h:Gr)(s:cA):Wd:=⟨h.rules,(jo h s).2,(A82 ⟨h.rules,(jo h s).2,[],s.size⟩ s.syms []).2,s.size⟩
def cO(h:Gr×Int)(s:cA):Int:=
 if h.2=0 then
  if(decide (s.size<1)||decide (3<s.size))=true then 3
  else if(jo h.1 s).1=0 then
   if decide (Int.ofNat (jo h.1 s).2.length<Int.ofNat h.1.sorts.length)=true then 380
   else if(A82 ⟨h.1.rules,(jo h.1 s).2,[],s.size⟩ s.syms []).1=0 then
    if decide (Int.ofNat (bZ h.1 s).sm.length<Int.ofNat (jf h.1.rules).length)=true then 381 else 0
   else(A82 ⟨h.1.rules,(jo h.1 s).2,[],s.size⟩ s.syms []).1
  else(jo h.1 s).1
 else h.2
theorem Bax{W:Wd}{sm:SM Sy}{b:Int}:∀{l:List aH} {i:Nat} {c:Int},eX { W with sm:=sm } b l i c=eX W b l i c
 |[],i,c=>rfl
 |s::l,i,c=>by unfold eX;rw[Bax (l:=l)];rfl
theorem LN{g:List Rl}{s:aH}{r:Rl}(h:F4 g s=some r):r.label=s:=by
 unfold F4 at h;have:=List.find?_some h;exact of_decide_eq_true this
def pN(W:Wd)(s:aH)(y:Sy):Prop:=∃r,F4 W.g s=some r/\r.var=false/\kd W.km r.sort≠1/\(y.binds= -1\/∃j,y.binds=Int.ofNat j/\∃q,(bJ r)[j]? =some q/\kd W.km q=1)/\Int.ofNat y.vals.length=eX W y.binds (bJ r) 0 1/\eX W y.binds (bJ r) 0 1<=10000/\∀v∈y.vals,0<=v/\v<bR W.n (kd W.km r.sort)
theorem Bd6{W:Wd}{sm:SM Sy}{y:Sy}(h:eG { W with sm:=sm } y=0):pN W y.label y/\sm.get y.label=none:=by
 unfold eG at h;simp only[Bax]at h
 split at h
 ·cases h
 ·rename_i r hr
  split at h
  ·cases h
  ·rename_i b
   split at h
   ·cases h
   ·rename_i e
    split at h
    ·cases h
    ·rename_i h3
     split at h
     ·cases h
     ·rename_i c
      simp only[eO,not_or,Bool.not_eq_true,decide_eq_true_eq,eQ,decide_eq_false_iff_not,Decidable.not_not,Option.isSome_eq_false_iff,Option.isNone_iff_eq_none,bg,not_and]at b e h3 c
      refine⟨⟨r,hr,b.1.1,b.2,?_,c.1,by omega,V4 (by simpa using c.2)⟩,b.1.2⟩
      by_cases hb:y.binds= -1
      ·exact .inl hb
      ·have h5:=e hb
       refine .inr ⟨y.binds.toNat,by have:=h5.1.1;simp only[ep];omega,?_⟩
       have j:y.binds.toNat<(bJ r).length:=by have:=h5.1;simp only[ep]at this;omega
       obtain⟨q,g⟩:=Ar j
       exact⟨q,g,by have:=h5.2;rw[g]at this;exact this⟩
theorem Bap{C:Type}{p q:C->Bool}:∀{l:List C},(∀a∈l,p a=true->q a=true)->(∃a∈l,p a=false/\q a=true)->(l.filter p).length+1<=(l.filter q).length
 |[],_,⟨a,e,_⟩=>by cases e
 |x::l,h,⟨a,e,g,i⟩=>by
  have r:(l.filter p).length<=(l.filter q).length:=by
   clear e g i;have n:=λb j=>h b (ch x j)
   clear h
   induction l with
   |nil=>simp
   |cons b l s=>
    have k:=s λc o=>n c (ch b o)
    have m:=n b zS
    cases d:p b with
    |true=>rw[List.filter_cons_of_pos d,List.filter_cons_of_pos (m d)];simp;omega
    |false=>
     rw[List.filter_cons_of_neg (by rw[d];simp)]
     cases f:q b with
     |true=>rw[List.filter_cons_of_pos f];simp;omega
     |false=>rw[List.filter_cons_of_neg (by rw[f];simp)];exact k
  rcases bN.1 e with rfl|e
  ·rw[List.filter_cons_of_neg (by rw[g];simp),List.filter_cons_of_pos i];simp;omega
  ·have k:=Bap (l:=l) (p:=p) (q:=q) (λb j=>h b (ch x j)) ⟨a,e,g,i⟩
   have m:=h x zS
   cases d:p x with
   |true=>rw[List.filter_cons_of_pos d,List.filter_cons_of_pos (m d)];simp;omega
   |false=>
    rw[List.filter_cons_of_neg (by rw[d];simp)]
    cases f:q x with
    |true=>rw[List.filter_cons_of_pos f];simp;omega
    |false=>rw[List.filter_cons_of_neg (by rw[f];simp)];exact k
def uF(g:List Rl)(a:SM Sy):Nat:=((jf g).filter λr=>(a.get r.label).isSome).length
theorem Bb1{W:Wd}:∀{l:List Sy} {sm:SM Sy},(∀s y,sm.get s=some y->pN W s y)->sm.length<=uF W.g sm->(A82 W l sm).1=0->
  (∀s y,(A82 W l sm).2.get s=some y->pN W s y)/\(A82 W l sm).2.length<=uF W.g (A82 W l sm).2
 |[],sm,h1,g,_=>⟨h1,g⟩
 |y::l,sm,h1,g,h=>by
  unfold A82 at h⊢
  by_cases hs:eG { W with sm:=sm } y=0
  ·rw[if_pos hs]at h⊢;obtain⟨m,k2⟩:=Bd6 hs;refine Bb1 (λs u e=>?_) ?_ h
   ·rw[dP]at e
    split at e
    ·rename_i he
     cases e;subst he;exact m
    ·exact h1 s u e
   ·rw[SM.len_put,k2]
    have j:∀r:Rl,(((sm.put y.label y).get r.label).isSome:Bool)=(decide (r.label=y.label)||(sm.get r.label).isSome):=λr=>by
     rw[dP];by_cases he:r.label=y.label<;>simp[he]
    obtain⟨r,hr,hv,_⟩:=m;have c:r.label=y.label:=LN hr
    have:=Bap (l:=jf W.g) (p:=λr=>(sm.get r.label).isSome) (q:=λr=>((sm.put y.label y).get r.label).isSome) (λa _ o=>by rw[j,o];simp) ⟨r,by unfold jf;rw[gS];exact⟨sP hr,by rw[hv];rfl⟩,by rw[c,k2];rfl,by rw[j,c];simp⟩
    simp only[Option.isSome_none,fY,if_false];unfold uF at g⊢;omega
  ·rw[if_neg hs]at h;exact absurd h hs
theorem Baq{C:Type}{p:C->Bool}:∀{l:List C},l.length<=(l.filter p).length->∀a∈l,p a=true
 |[],_,a,b=>by cases b
 |x::l,h,a,b=>by
  have d:=lI p l;cases c:p x with
  |false=>rw[List.filter_cons_of_neg (by rw[c];simp)]at h;simp at h;omega
  |true=>
   rw[List.filter_cons_of_pos c]at h
   rcases bN.1 b with rfl|b
   ·exact c
   ·exact Baq (by simp at h;omega) a b
theorem ZP{d:Db}{s:cA}(h:cO (aM d) s=0):jN (bZ (aM d).1 s):=by
 have k:=Yc d;unfold cO at h
 split at h
 ·split at h
  ·cases h
  ·rename_i e g
   simp only[eO,decide_eq_true_eq,not_or]at g
   split at h
   ·split at h
    ·cases h
    ·split at h
     ·rename_i a
      split at h
      ·cases h
      ·rename_i j
       obtain⟨n,o⟩:=Bb1 (W:=⟨(aM d).1.rules,(jo (aM d).1 s).2,[],s.size⟩) (λs y c=>by cases c) zS a
       refine⟨by show 1<=s.size;omega,by show s.size<=3;omega,k.rs,λl y c=>?_,λl r f m=>?_⟩
       ·obtain⟨r,q,t,u,v,w,x,B⟩:=n l y c
        exact⟨r,q,t,u,v,by rw[w];exact(Bax (W:=⟨(aM d).1.rules,(jo (aM d).1 s).2,[],s.size⟩)).symm,by rw[show eX (bZ (aM d).1 s) y.binds (bJ r) 0 1=_ from Bax (W:=⟨(aM d).1.rules,(jo (aM d).1 s).2,[],s.size⟩)];exact x,B⟩
       ·simp only[decide_eq_true_eq,ep]at j
        have:=Baq (l:=jf (aM d).1.rules) (p:=λr=>((bZ (aM d).1 s).sm.get r.label).isSome) (by have:(bZ (aM d).1 s).sm.length<=uF (aM d).1.rules (bZ (aM d).1 s).sm:=o;unfold uF at this;omega) r (by unfold jf;rw[gS];exact⟨sP f,by rw[m];rfl⟩)
        have b:r.label=l:=LN f;rw[b]at this;exact gV.1 this
     ·rename_i a;exact absurd h a
   ·rename_i i;exact absurd h i
 ·rename_i e;exact absurd h e
def kK(j:List Int):List Int:=j++List.replicate (6-j.length) 0
theorem Bci{n:Int}(u:1<=n)(t:n<=3):∀k:Nat,1<=n ^ k/\n ^ k<=3 ^ k
 |0=>by simp
 |k+1=>by
  obtain⟨a,b⟩:=Bci u t k;rw[Int.pow_succ,Int.pow_succ];have c:1*1<=n ^ k*n:=Int.mul_le_mul a u z z;have d:n ^ k*n<=3 ^ k*3:=Int.mul_le_mul b t z z;omega
theorem Ba8{n m:Int}(u:1<=n):∀(k:Nat) (c:Int),1<=c->c*n ^ k<=m->el n m k c=c*n ^ k
 |0,c,_,_=>by simp[el]
 |k+1,c,a,h=>by
  have d:∀j:Nat,1<=n ^ j:=λj=>by
   induction j with
   |zero=>simp
   |succ j f=>rw[Int.pow_succ];have:1*1<=n ^ j*n:=Int.mul_le_mul f u z z;omega
  have b:1*1<=c*n:=Int.mul_le_mul a u z z
  have e:c*n ^ (k+1)=c*n*n ^ k:=by rw[Int.pow_succ,Int.mul_assoc,Int.mul_comm n]
  rw[e]at h⊢;have g:c*n*1<=c*n*n ^ k:=Int.mul_le_mul_of_nonneg_left (d k) z;unfold el
  rw[if_neg (by simp only[decide_eq_true_eq];omega)]
  exact Ba8 u k _ z h
theorem EU{n:Int}(u:1<=n)(t:n<=3){k:Nat}(X:k<=6):el n 10000 k 1=n ^ k:=by
 obtain⟨a,b⟩:=Bci u t k
 have c:(3:Int) ^ k<=3 ^ 6:=by
  have:k=0\/k=1\/k=2\/k=3\/k=4\/k=5\/k=6:=by omega
  rcases this with rfl|rfl|rfl|rfl|rfl|rfl|rfl<;>decide
 rw[Ba8 u k 1 z (by rw[Int.one_mul];have:(3:Int) ^ 6=729:=zD;omega),Int.one_mul]
end
section
open Go Go.Proofs
def kC(s:oS):List I:=[sV s.code,D s.kind]
def eD(y:Sy):List I:=[sV y.label,D y.binds,aD eI 1 y.vals]
def gE(m:cT):List I:=[sV m.var,D m.obj,aD eI 1 m.vals]
def mF(s:cA):List I:=[D s.size,aD kC 2 s.sorts,aD eD 3 s.syms]
def iE(s:cA):I:=.agg (mF s)
theorem CA(a:oS):(kC a).length=2:=rfl
theorem sI(a:Sy):(eD a).length=3:=rfl
theorem YB{N:Nat}(a:oS):I.unds N (kC a)=true:=rfl
theorem IU{N:Nat}(a:Sy):I.unds N (eD a)=true:=by show(true&&(true&&(I.und N (aD eI 1 a.vals)&&true)))=true;rw[Fv zF];rfl
theorem NV{N:Nat}(a:cT):I.unds N (gE a)=true:=by show(true&&(true&&(I.und N (aD eI 1 a.vals)&&true)))=true;rw[Fv zF];rfl
theorem IP(p:Sy->Bool)(l:List Sy)(k:Nat)(y:List I)(J:F)(Q:l.length<4611686018427387904)(X:∀a∈l,Al M k ([.agg (eD a)]++y) J λv c=>v=.bool (p a)/\c=J):
  Cv 136 [aD eD 3 l,.fn (.func k) [] y] J (D (A5 p l 0)):=by
 refine Aj Tryz.func136 rfl rfl λm r=>?_
 refine cG ?_;refine Bz l.length (λi=>[(0,aD eD 3 l),(1,.fn (.func k) [] y),(7,D (.ofNat l.length)),(8,D (.ofNat i))]) (λi c=>c=J/\A5 p l 0=A5 p (l.drop i) i) SL ⟨rfl,rfl⟩ ?_
 rintro i c o ⟨rfl,e⟩;refine G5 ?_;refine Ab rfl ?_ ?_<;>intro h
 ·have b:i<l.length:=by simpa using h
  obtain⟨a,g⟩:∃a,l[i]? =some a:=⟨_,fF b⟩
  have j:l.drop i=a::l.drop (i+1):=by
   obtain⟨n,rfl⟩:=bQ.1 g;exact iF n
  iterate 14 refine G ?_
  refine A (Ac aG rfl rfl (A6 ((λ_=>rfl:∀a,(eD a).length=3) a) _)) ?_
  refine Az rfl rfl rfl rfl (X a (bA g)) ?_;rintro _ _ ⟨rfl,rfl⟩;refine G ?_;refine Ab rfl (λd=>?_) (λd=>?_)
  ·refine G6 ?_;refine⟨_,rfl,D (.ofNat i),_,a_ m Y zN,Y,.same rfl,?_,rfl⟩
   rw[e,j];simp only[A5,d,cond_true]
  ·refine G2 ?_;refine A (D3 (p:=i) (q:=1) aV rfl rfl z) ?_;refine G2 ?_;refine⟨b,SL,rfl,?_⟩;rw[e,j];simp only[A5,d,cond_false]
 ·have f:l.length<=i:=by simpa using h
  refine G6 ?_;refine⟨_,rfl,D (-1),_,a_ m Y zN,Y,.same rfl,?_,rfl⟩
  rw[e,cv f];rfl
theorem f84(p:Sy->Bool)(l:List Sy)(k:Nat)(y:List I)(J:F)(Q:l.length<4611686018427387904)(X:∀a∈l,Al M k ([.agg (eD a)]++y) J λv b=>v=.bool (p a)/\b=J):
  Cv 84 [aD eD 3 l,.fn (.func k) [] y] J (.bool (l.any p)):=by
 refine Aj Tryz.func84 rfl rfl λc _=>?_
 refine G8 ?_;refine Az rfl rfl rfl rfl (IP p l k y J Q X) ?_;rintro _ _ ⟨rfl,rfl⟩;refine G4 ?_;refine B4 c rfl ?_;exact congrArg I.bool (Gf l)
end
section
open Go Go.Proofs
def mu(y:Sy):Bool:=decide ((700:Int)<Int.ofNat y.vals.length)
def uB(s:cA):Bool:=(decide (Int.ofNat s.sorts.length<=(20:Int))&&decide (Int.ofNat s.syms.length<=(20:Int)))&& !s.syms.any mu
theorem XC(y:Sy)(J:F):Cv 85 [.agg (eD y)] J (.bool (mu y)):=by
 refine Aj Tryz.func85 rfl rfl λb a=>?_
 iterate 14 refine G ?_
 refine B4 b rfl ?_
 rfl
theorem f5(s:cA)(J:F):Cv 31 [iE s] J (.bool (uB s)):=by
 refine Aj Tryz.func31 rfl rfl λc b=>?_
 refine cD ?_;refine A (Hn (q:=20) aV rfl rfl) ?_;refine G ?_;refine fZ 4 ?_ (λH=>?_) ?_
 rotate_left
 ·iterate 3 refine Gn H ?_
  refine On H (Hn (q:=20) aV rfl rfl) ?_;exact Ez
 refine G ?_;refine fZ 4 ?_ (λH=>?_) ?_
 rotate_left
 ·iterate 2 refine Gn H ?_
  refine Bh rfl rfl rfl (by rw[H];rfl) rfl rfl rfl rfl (f84 mu s.syms 85 [] _ (by simp at H;omega) (λa _=>XC a _)) ?_
  refine Gn H ?_;exact Ez
 refine G3 ?_;refine B4 c rfl ?_
 rfl
theorem uQ(n:Int)(k:Nat)(J:F)(r:1<=n)(m:n<=3)(X:k<1000000):Cv 197 [D n,D (.ofNat k)] J (D (el n 10000 k 1)):=by
 refine Aj Tryz.func197 rfl rfl λh p=>?_
 iterate 15 refine G ?_
 refine Bz k (λa=>[(0,D n),(5,D (n ^ a)),(6,D (.ofNat k)),(7,D (.ofNat a))]) (λa f=>f=J/\n ^ a<=10000/\el n 10000 k 1=el n 10000 (k-a) (n ^ a)) ⟨rfl,congrArg (λx=>some (D x)) (Int.pow_zero n).symm,rfl,rfl,trivial⟩ ⟨rfl,(by show n ^ 0<=10000;rw[Int.pow_zero];omega),(by rw[Int.pow_zero];rfl)⟩ ?_
 rintro a f j ⟨rfl,e,b⟩;refine G5 ?_;refine Ab rfl ?_ ?_<;>intro g
 ·have i:a<k:=by simpa using g
  have d:0<=n ^ a:=Int.pow_nonneg z;have l:n ^ a*n<=10000*3:=Int.mul_le_mul e m z z;have o:0<=n ^ a*n:=Int.mul_nonneg d z
  rw[show k-a=(k-(a+1))+1 by omega,el]at b
  refine G7 ?_;refine A (qA aV rfl rfl z z) ?_;refine G7 ?_;refine Ab rfl ?_ ?_<;>intro c
  ·skip
   refine G5 ?_;refine B4 h rfl ?_
   rw[b,if_pos (by simpa using c)];rfl
  ·skip
   refine G5 ?_
   refine⟨i,⟨rfl,congrArg (λx=>some (D x)) (Int.pow_succ n a).symm,rfl,rfl,trivial⟩,rfl,(by rw[Int.pow_succ];simpa using c),(by rw[b,if_neg (by simpa using c),Int.pow_succ])⟩
 ·have q:k<=a:=by simpa using g
  refine G7 ?_;refine B4 h rfl ?_
  rw[b,show k-a=0 by omega,el];rfl
end
section
open Go Go.Proofs
theorem zl{E:aZ}{f:Ad}{J:F}{y:bP}{t n T a k i j:Nat}{l:Bool}{x:Operand}{v:List I}{w L b:Option Operand}{m q s:Option I}{c:Option Nat}(g:iP E.P t=some (n,T,l))(W:Ah E f x=some (.pr a k))(H:J.get a=some (.cells v))
  (d:(Nat.ble 1 v.length&&Nat.ble (k+n*T) v.length)=true)(u:Iz E f w=some m)(r:Iz E f L=some q)(B:Iz E f b=some s)(Q:Do n (some n) m q s=some (i,j,c)):
  As E y (.slice t x w L b) f J (.sr a (k+i*T) T (j-i) c) J:=λU h=>by
 unfold iP at g
 split at g
 ·rename_i S p
  split at g
  ·rename_i P e C
   split at g
   ·rename_i R o
    simp only[bH,cE]at g;obtain⟨G,K,N⟩:=g;subst G K;simp only[bB,Aw,p,C,o,h.opd W,h.opdO u,h.opdO r,h.opdO B,Wf,F.cells,H,d,Q,Ak]
   ·cases g
  ·cases g
 ·cases g
def zQ(r:Rl):I:=.agg (eR r)
def yz(y:Sy):I:=.agg (eD y)
def dI(d:Db)(s:cA)(k r y:Nat):List I:=[D s.size,aD kC 2 s.sorts,aD eD 3 s.syms,Af d.consts,Af d.vars,aD eF 8 d.frames,.mp k,.mp r,.mp y]
structure fH (d:Db)(s:cA)(km:SM Int)(rm:SM Rl)(sm:SM Sy)(a k r y:Nat)(J:F):Prop where
 cl:J.get a=some (.cells (dI d s k r y))
 ks:B8 D J k km
 rs:B8 zQ J r rm
 ss:B8 yz J y sm
theorem fH.of_get{d:Db}{s:cA}{o:SM Int}{e:SM Rl}{b:SM Sy}{a k r y:Nat}{J U:F}(h:fH d s o e b a k r y J)(c:U.get a=J.get a)(X:U.get k=J.get k)(w:U.get r=J.get r)(B:U.get y=J.get y):fH d s o e b a k r y U:=by
 obtain⟨f,⟨l,g⟩,⟨m,i⟩,⟨n,j⟩⟩:=h;exact⟨c.trans f,⟨l,X.trans g⟩,⟨m,w.trans i⟩,⟨n,B.trans j⟩⟩
theorem mQ(d:Db)(s:cA)(a f t u:Nat)(k:Int)(J:F)(o:J.get a=some (.cells (dI d s f t u))):Cv 196 [.pr a 0,D k] J (D (bR s.size k)):=by
 refine Aj Tryz.func196 rfl rfl λe g=>?_
 refine cD ?_;refine Ab rfl ?_ ?_<;>intro c
 ·have b:k=3:=by simpa using c
  refine G5 ?_;refine B4 e rfl ?_;unfold bR;rw[if_pos b];rfl
 ·have b:¬k=3:=by simpa using c
  refine G7 ?_;refine A (E8 o aG rfl (show Cz 1 false ((dI d s f t u).drop 0)=some (D s.size)from rfl)) ?_
  refine G3 ?_;refine B4 e rfl ?_;unfold bR;rw[if_neg b];rfl
theorem DW(d:Db)(s:cA)(a b t u:Nat)(x k:Int)(J:F)(o:J.get a=some (.cells (dI d s b t u))):Cv 198 [D x,.pv [.pr a 0],.pv [D k]] J (.bool (decide (x<0)||decide (bR s.size k<=x))):=by
 refine Aj Tryz.func198 rfl rfl λe c=>?_
 refine G9 ?_;refine cJ 5 ?_ (λH=>?_) ?_
 rotate_left
 ·iterate 3 refine Gn H ?_
  refine Bh rfl rfl rfl (by rw[H];rfl) rfl rfl rfl rfl (mQ d s a b t u k _ o) ?_
  refine Gn H ?_;exact Ez
 refine G3 ?_;refine B4 e rfl ?_
 rfl
theorem FU(d:Db)(s:cA)(a b t u:Nat)(l:List Int)(k:Int)(J:F)(o:J.get a=some (.cells (dI d s b t u)))(Q:l.length<1000000):Cv 168 [.pr a 0,aD eI 1 l,D k] J (.bool (rB s.size k l)):=by
 refine Aj Tryz.func168 rfl rfl λe c=>?_
 refine cD ?_
 refine Ca (GQ (λv=>decide (v<0)||decide (bR s.size k<=v)) l 198 [.pv [.pr a 0],.pv [D k]] _ z (λx _=>DW d s a b t u x k _ o)) ?_
 refine G4 ?_;refine B4 e rfl ?_
 rfl
end
section
open Go Go.Proofs
theorem aW.setAt{J:F}{N T i:Nat}{C:Type}{b:C->List I}{l:List C}{v:I}(h:aW J N b T l v)(L:i<l.length)(u:C):
  ∃a c,N<=a/\a<O J/\v=.sr a 0 T l.length none/\J.get a=some (.cells (l.flatMap b++c))/\aW (J.set a (.cells ((l.set i u).flatMap b++c))) N b T (l.set i u) v:=by
 rcases h with⟨rfl,_⟩|⟨a,c,d,e,f,g⟩
 ·simp at L
 ·exact⟨a,c,d,e,f,g,.inr ⟨a,c,d,by rw[Aq];exact e,by rw[jO];exact f,by rw[aU,if_pos rfl]⟩⟩
def oX(k:List Pt)(l:List aH):List aH:=k.foldl (λl p=>if p.sort=[]then l else l.set p.arg.toNat p.sort) l
def nP(k:List Pt):Nat:=(k.filter gD).length
theorem KF{k:List Pt}{i:Nat}{p:Pt}(h:k[i]? =some p):nP (k.take (i+1))=nP (k.take i)+if gD p=true then 1 else 0:=by
 unfold nP;rw[Fw h,zj,gW]
 congr 1
 cases a:gD p<;>simp[a]
theorem RZ{k:List Pt}{i:Nat}{p:Pt}{o:List aH}(h:k[i]? =some p):oX (k.take (i+1)) o=if p.sort=[]then oX (k.take i) o else(oX (k.take i) o).set p.arg.toNat p.sort:=by
 unfold oX;rw[Fw h,List.foldl_append];rfl
theorem Bda(l:List Pt)(o:List aH):(oX l o).length=o.length:=A8y l o
def BO(r:Rl):Prop:=∀p∈r.parts,p.sort≠[]->∃j:Nat,p.arg=.ofNat j/\j<Qw r
theorem qJ(r:Rl)(J:F)(hb:r.parts.length<1000000)(hv:BO r):Cv 166 [.agg (eR r)] J (Af (bJ r)):=by
 refine Aj Tryz.func166 rfl rfl λU af=>?_
 iterate 18 refine G ?_
 refine Ci (λq:Nat×I=>[(1,.pv (eR r)),(3,q.2),(9,aD cL 3 r.parts),(10,D (.ofNat r.parts.length)),(11,D (.ofNat q.1))]) (λq m=>q.1<=r.parts.length/\aW m (O J) e1 1 (List.replicate (nP (r.parts.take q.1)) ([]:aH)) q.2/\Below (O J) J m) (λq=>r.parts.length-q.1) (0,nS) SL ⟨bU _,.nil,mE⟩ ?_
 rintro⟨c,p⟩ m C;obtain⟨ac,t,w⟩:c<=r.parts.length/\aW m (O J) e1 1 (List.replicate (nP (r.parts.take c)) ([]:aH)) p/\Below (O J) J m:=C;refine G5 ?_;refine Ab rfl ?_ ?_<;>intro R
 ·have y:c<r.parts.length:=by simpa using R
  obtain⟨Q,g⟩:=Ar y;have a9:=A4 g
  iterate 13 refine G ?_
  refine A (Ko (q:=[]) aV rfl rfl) ?_;refine G ?_;refine Ab rfl ?_ ?_<;>intro o
  ·have bn:((List.replicate (nP (r.parts.take c)) ([]:aH)).length+[([]:aH)].length)*(16+1)<=az:=by
    have:=lI gD (r.parts.take c);rw[kA];unfold nP;rw[gC]at this
    simp[az];omega
   obtain⟨W,X,h,N,K,_⟩:=iS (by':=16) (enc:=e1) (sz:=1) zF w.1 t [([]:aH)] bn
   have h:B6 m 1 16 p 1 (e1 [])=some (W,X):=by simpa using h
   refine G2 ?_;refine Cx (Ai aJ bM rfl rfl rfl) (Dv (len:=1)) rfl rfl (A (Av aJ rfl bF rfl rfl rfl (new:=e1 []) rfl h) ?_);refine G6 ?_
   refine⟨(c+1,W),by show r.parts.length-(c+1)<r.parts.length-c;omega,SL,y,by rw[KF g,if_pos (show gD Q=true from o),List.replicate_succ'];exact N,w.trans K⟩
  ·refine G5 ?_
   refine⟨(c+1,p),by show r.parts.length-(c+1)<r.parts.length-c;omega,SL,y,by rw[KF g,if_neg (by rw[show gD Q=false from o];simp),oE];exact t,w⟩
 ·have bj:r.parts.length<=c:=by simpa using R
  rw[dG bj]at t;refine cD ?_;refine Bz r.parts.length (λl=>[(3,p),(23,aD cL 3 r.parts),(24,D (.ofNat r.parts.length)),(25,D (.ofNat l))]) (λl x=>aW x (O J) e1 1 (oX (r.parts.take l) (List.replicate (nP r.parts) ([]:aH))) p/\Below (O J) J x) SL ⟨t,w⟩ ?_
  rintro l x ae ⟨v,s⟩;refine G5 ?_;refine Ab rfl ?_ ?_<;>intro o
  ·have B:l<r.parts.length:=by simpa using o
   obtain⟨n,f⟩:=Ar B;have aa:=A4 f
   iterate 13 refine G ?_
   refine A (Ko (q:=[]) aV rfl rfl) ?_;refine G ?_;refine Ab rfl ?_ ?_<;>intro S
   ·have e:¬n.sort=[]:=by simpa using S
    obtain⟨j,T,L⟩:=hv n (bA f) e
    have d:j<(oX (r.parts.take l) (List.replicate (nP r.parts) ([]:aH))).length:=by rw[Bda,kA];exact L
    obtain⟨b,tl,a7,a8,P,cr,cd⟩:=v.setAt d n.sort;refine G6 ?_
    refine A (Br (i:=j) (k:=.i64) aJ (by rw[<-P];rfl) (by rw[<-T];rfl) d) ?_
    refine A (Tb (enc:=e1) (u:=n.sort) (i:=j) zF aG rfl rfl rfl cr d) ?_
    refine G5 ?_
    refine⟨B,SL,⟨by rw[RZ f,if_neg e,T];exact cd,by rw[Aq];exact s.1,λb' E=>by rw[aU,if_neg z];exact s.2 b' E⟩⟩
   ·have e:n.sort=[]:=by simpa using S
    refine G5 ?_
    refine⟨B,SL,⟨by rw[RZ f,if_pos e];exact v,s⟩⟩
  ·have ba:r.parts.length<=l:=by simpa using o
   rw[dG ba]at v;refine G7 ?_;exact⟨_,rfl,Af (bJ r),J,bL U s,Y,v.fz zF (λa ha=>U.none ha) (A2 D9 _),rfl,rfl⟩
end
section
open Go Go.Proofs
theorem kD{E f J Rr t r T x y e m s}(a:Fs E.P 9=true)(L:cq E.P t=some (9,D 0,T,e))(W:Ah E f x=some (.mp r))(K:B8 D J r m)(B:Ah E f y=some (sV s)):
  As E Rr (.lookup t x y false) f J (D (kd m s)) J:=by
 have:=W4 (Rr:=Rr) a L W K B
 rwa[show((m.get s).map D).getD (D 0)=D (kd m s) by unfold kd;cases m.get s<;>rfl]at this
theorem Bbl{n}(h:1<=n):∀(k:Nat) (c:Int),1<=c->c<=10000->1<=el n 10000 k c/\el n 10000 k c<=10001
 |0,c,a,b=>by unfold el;omega
 |k+1,c,a,b=>by
  unfold el;have:1*1<=c*n:=Int.mul_le_mul a h z z
  split
  ·omega
  ·rename_i d
   simp only[decide_eq_true_eq]at d;exact Bbl h k _ z z
theorem Bes{W b i s}(u:1<=W.n)(t:W.n<=3):1<=gP W b i s/\gP W b i s<=10001:=by
 have a:=rN (k:=kd W.km s) u;have c:=y0 (k:=kd W.km s) t;unfold gP
 split
 ·omega
 ·split
  ·omega
  ·exact Bbl a _ _ z z
theorem FL(d:Db)(s:cA)(W:Wd)(r:Rl)(b:Int)(a l t u:Nat)(J:F)(o:J.get a=some (.cells (dI d s l t u)))(hk:B8 D J l W.km)(hn:W.n=s.size)(g1:1<=W.n)(g3:W.n<=3)(Q:r.parts.length<1000000)(hv:BO r):Cv 167 [.pr a 0,.agg (eR r),D b] J (D (eX W b (bJ r) 0 1)):=by
 obtain⟨x,R⟩:=Int.eq_ofNat_of_zero_le (show 0<=s.size by omega)
 have a7:(bJ r).length<1000000:=by rw[pV];exact x8 (lI _ _) Q
 refine Aj Tryz.func167 rfl rfl λU a9=>?_
 iterate 13 refine G ?_
 refine Ca (qJ r _ Q hv) ?_;refine G4 ?_
 refine Ci (λq:Nat×I=>[(0,.pr a 0),(2,D b),(7,q.2),(12,Af (bJ r)),(13,D (.ofNat (bJ r).length)),(14,D (.ofNat q.1))]) (λq B=>q.1<=(bJ r).length/\B=J/\∃c,q.2=D c/\1<=c/\c<=10000/\eX W b (bJ r) 0 1=eX W b ((bJ r).drop q.1) q.1 c) (λq=>(bJ r).length-q.1) (0,D 1) SL ⟨bU _,rfl,1,rfl,by omega,by omega,rfl⟩ ?_
 rintro⟨f,v0⟩ B C;obtain⟨a8,rfl,j,rfl,m,n,g⟩:f<=(bJ r).length/\B=J/\∃c,v0=D c/\1<=c/\c<=10000/\eX W b (bJ r) 0 1=eX W b ((bJ r).drop f) f c:=C;refine G5 ?_;refine Ab rfl ?_ ?_<;>intro h1
 ·have y:f<(bJ r).length:=Z;obtain⟨h,E⟩:=Ar y;have L:=A4 E;rw[L,eX]at g
  have S:=rN (k:=kd W.km h) (show 1<=s.size by omega)
  have T:=y0 (k:=kd W.km h) (show s.size<=3 by omega)
  obtain⟨N,P⟩:=Bes (W:=W) (b:=b) (i:=f) (s:=h) g1 g3;have v:j*gP W b f h<=10000*10001:=Int.mul_le_mul n P z z;have w:1*1<=j*gP W b f h:=Int.mul_le_mul m N z z
  iterate 17 refine G ?_
  refine A (E8 o aG rfl (show Cz 1 false ((dI d s l t u).drop 6)=some (.mp l)from rfl)) ?_
  refine G ?_;refine A (kD bI gG rfl hk rfl) ?_;refine Ca (mQ d s a l t u (kd W.km h) _ o) ?_;refine G8 ?_;refine Ab rfl ?_ ?_<;>intro h2
  ·have K:¬b<0:=Z;refine G7 ?_;refine Ab rfl ?_ ?_<;>intro X
   ·have p:Int.ofNat f=b:=Z
    have e:gP W b f h=1:=by unfold gP;grind
    refine G5 ?_;refine⟨(f+1,D j),Z,SL,y,rfl,j,rfl,m,n,Z⟩
   ·have p:¬Int.ofNat f=b:=Z
    have e:gP W b f h=el (bR s.size (kd W.km h)) 10000 x 1:=by unfold gP;grind
    rw[e]at v w;refine G7 ?_
    refine A (E8 o aG rfl (show Cz 1 false ((dI d s l t u).drop 0)=some (D (.ofNat x))from by rw[show Int.ofNat x=s.size from R.symm];rfl)) ?_
    refine Ca (uQ (bR s.size (kd W.km h)) x _ S T z) ?_;refine G6 ?_;refine A (qA aV rfl rfl z z) ?_;refine G7 ?_;refine Ab rfl ?_ ?_<;>intro h4
    ·rw[e,if_pos h4]at g;refine G5 ?_;refine B4 U rfl ?_;rw[g];rfl
    ·skip
     refine G5 ?_
     refine⟨(f+1,D (j*el (bR s.size (kd W.km h)) 10000 x 1)),Z,SL,y,rfl,_,rfl,by omega,Z,Z⟩
  ·have K:b<0:=Z
   have e:gP W b f h=bR s.size (kd W.km h):=by unfold gP;grind
   rw[e]at v w;refine G5 ?_;refine A (qA aV rfl rfl z z) ?_;refine G7 ?_;refine Ab rfl ?_ ?_<;>intro X
   ·rw[e,if_pos X]at g;refine G5 ?_;refine B4 U rfl ?_;rw[g];rfl
   ·skip
    refine G5 ?_
    refine⟨(f+1,D (j*(bR s.size (kd W.km h)))),Z,SL,y,rfl,_,rfl,by omega,Z,Z⟩
 ·have bj:(bJ r).length<=f:=Z;rw[cv bj,eX]at g;refine G7 ?_;refine B4 U rfl ?_;rw[g];rfl
theorem LQ:∀l:List Int,l.map D=l.flatMap (λx=>[D x])++[]
 |[]=>rfl
 |x::l=>by rw[fG,LQ l];rfl
def gH(a q k:Nat):List I:=[.pr a 0,.mp q,D (.ofNat k)]
theorem rG{k}(X:k<=6):Do 6 (some 6) none (some (D (.ofNat k))) none=some (0,k,some 6):=by
 have:k=0\/k=1\/k=2\/k=3\/k=4\/k=5\/k=6:=by omega
 rcases this with rfl|rfl|rfl|rfl|rfl|rfl|rfl<;>rfl
theorem Bet{n E i}(d:1<=n)(t:n<=3)(u:ff n E)(L:i<=6):0<=dU n (E.take i)/\dU n (E.take i)<=729:=by
 obtain⟨a,b⟩:=zv d (E.take i) λv f=>u.2 v (kJ f)
 rw[gC,u.1,nO L]at b;obtain⟨c,e⟩:=Bci d t i
 have:(3:Int) ^ i<=729:=by
  have:i=0\/i=1\/i=2\/i=3\/i=4\/i=5\/i=6:=by omega
  grind
 unfold dU
 grind
theorem qS{tl:List I}(d:Db)(s:cA)(a v t w b q k:Nat)(E:List Int)(J:F)(j:J.get a=some (.cells (dI d s v t w)))(o:J.get b=some (.cells (gH a q k++tl)))(P:1<=s.size)(L:s.size<=3)(u:ff s.size E)(X:k<=6):Cv 267 [.pr b 0,.agg (E.map D)] J (D (dU s.size (E.take k))):=by
 refine Aj Tryz.func267 rfl rfl λr W=>?_
 refine G2 ?_
 refine A (zi (cs:=E.map D) aG rfl (A7 (by rw[jT];exact u.1))) ?_
 refine G2 ?_;refine Bo λa8=>?_
 have Q:=(r _ _ j).1;have R:=(r _ _ o).1;have h:(J.new (.cells (E.map D))).get a=some (.cells (dI d s v t w)):=Z;have e:(J.new (.cells (E.map D))).get b=some (.cells (gH a q k++tl)):=Z;have g:(J.new (.cells (E.map D))).get (O J)=some (.cells (E.map D)):=Z
 have i:(J.new (.cells (E.map D))).get (O J)=some (.cells (E.flatMap (λx=>[D x])++[])):=by rw[g];rw[LQ]
 refine cD ?_
 refine A (E8 e aG rfl (show Cz 1 false ((gH a q k++tl).drop 2)=some (D (.ofNat k))from rfl)) (A (zl rD rfl g (by simp[u.1]) rfl rfl rfl (rG X)) ?_)
 refine A (Bf (n:=k) bF rfl rfl rfl) ?_;refine G3 ?_;refine Bz k (λc=>[(0,.pr b 0),(5,D (dU s.size (E.take c))),(12,.sr (O J) 0 1 k (some 6)),(13,D (.ofNat k)),(14,D (.ofNat c))]) (λc y=>y=J.new (.cells (E.map D))) SL rfl ?_
 rintro c y S rfl;refine G5 ?_;refine Ab rfl ?_ ?_<;>intro h1
 ·have C:c<k:=Z
  obtain⟨B,f⟩:=Ar (show c<E.length by rw[u.1];omega)
  obtain⟨m,p⟩:=Bet P L u (show c<=6 by omega)
  have a7:=u.2 B (bA f);have T:dU s.size (E.take c)*s.size<=729*3:=Int.mul_le_mul p L z z;have U:0<=dU s.size (E.take c)*s.size:=Int.mul_nonneg m z
  have N:dU s.size (E.take c)*s.size+B=dU s.size (E.take (c+1)):=by unfold dU;rw[Fw f,AK]
  refine G5 ?_;refine A (Br aJ rfl rfl C) (A (Dg (enc:=λx=>[D x]) (l:=E) (tl:=[]) zF aG rfl i f zF) ?_)
  refine G7 ?_;refine A (E8 e aG rfl (show Cz 1 false ((gH a q k++tl).drop 0)=some (.pr a 0)from rfl)) ?_
  refine G3 ?_;refine A (E8 h aG rfl (show Cz 1 false ((dI d s v t w).drop 0)=some (D s.size)from rfl)) (A (qA aV rfl rfl z z) ?_)
  refine G ?_;refine A (rH aV rfl rfl z z) ?_;refine G6 ?_;refine⟨C,⟨rfl,congrArg (λx=>some (D x)) N,rfl,rfl,rfl,trivial⟩,rfl⟩
 ·have K:k<=c:=Z
  have K:k=c:=by omega
  refine G7 ?_
  exact⟨_,rfl,_,J,bL r ⟨Z,Z⟩,Y,.same rfl,(by rw[K];rfl),rfl⟩
end
section
open Go Go.Proofs
def wV:List I:=[.str [],.str [],nS,.bool false]
def nU(o:Option Rl):List I:=match o with|some r=>eR r|none=>wV
theorem Q3(o:Option Rl):(nU o).length=4:=by cases o<;>rfl
theorem Zf{N:Nat}(o:Option Rl):I.unds N (nU o)=true:=by cases o with|none=>rfl|some r=>exact Vj r
def yu(o:Option Rl):Bool:=match o with|some r=>r.var|none=>false
def yV(o:Option Rl):aH:=match o with|some r=>r.sort|none=>[]
theorem WN(o:Option Rl):Cz 1 false ((nU o).drop 3)=some (.bool (yu o)):=by cases o<;>rfl
theorem TZ(o:Option Rl):Cz 1 false ((nU o).drop 1)=some (sV (yV o)):=by cases o<;>rfl
def jR:List I:=[.str [],.int .i64 0,nS]
def sM(o:Option Sy):List I:=match o with|some y=>eD y|none=>jR
theorem LX(o:Option Sy):(sM o).length=3:=by cases o<;>rfl
theorem δ{N:Nat}(o:Option Sy):I.unds N (sM o)=true:=by cases o with|none=>rfl|some r=>exact IU r
section
variable {ρ:Ad}{J:F}{Rr:bP}{x y:Operand}{s:aH}{r:Nat}
theorem Bdr{m:SM Rl}(W:Ah M ρ x=some (.mp r))(K:B8 zQ J r m)(B:Ah M ρ y=some (sV s)):
  As M Rr (.lookup 275 x y true) ρ J (.tup [.agg (nU (m.get s)),.bool (m.get s).isSome]) J:=by
 have:=vY (Rr:=Rr) bI zX W K B
 have e:((m.get s).map zQ).getD (.agg [.str [],.str [],nS,.bool false])=.agg (nU (m.get s)):=by cases m.get s<;>rfl
 grind
theorem ζ{m:SM Sy}(W:Ah M ρ x=some (.mp r))(K:B8 yz J r m)(B:Ah M ρ y=some (sV s)):
  As M Rr (.lookup 276 x y true) ρ J (.tup [.agg (sM (m.get s)),.bool (m.get s).isSome]) J:=by
 have:=vY (Rr:=Rr) bI wC W K B
 have e:((m.get s).map yz).getD (.agg [.str [],.int .i64 0,nS])=.agg (sM (m.get s)):=by cases m.get s<;>rfl
 grind
end
theorem gU.argsOk{g:Gr}(h:gU g){r:Rl}(w:r∈g.rules):BO r:=λp a b=>h.arg r w p a b
theorem HH(d:Db)(s:cA)(g:Gr)(W:Wd)(f:SM Rl)(y:Sy)(a C w u:Nat)(J:F)(hG:gU g)(Q:W.g=g.rules)(hn:W.n=s.size)(g1:1<=W.n)(g3:W.n<=3)(R:∀l,f.get l=F4 g.rules l)(m:fH d s W.km f W.sm a C w u J)(o:y.vals.length<1000000):Al M 138 [.pr a 0,.agg (eD y)] J λv P=>v=D (eG W y)/\O J<=O P/\(∀c,c<O J->c≠u->P.get c=J.get c)/\B8 yz P u (if eG W y=0 then W.sm.put y.label y else W.sm):=by
 have k:=m.cl;obtain⟨vy,S⟩:=id m.ss;refine Aj Tryz.func138 rfl rfl λp ah=>?_
 refine G5 ?_;refine Gz 5 wV (nU (f.get y.label)) [(6,.bool ((f.get y.label)).isSome)] (Zf _) rfl (λp=>?_) ?_
 ·refine XX 1 (l:=[]) trivial ?_;refine G3 ?_;refine V (E8 k aG rfl (show Cz 1 false ((dI d s C w u).drop 7)=some (.mp w)from rfl)) ?_
  refine G2 ?_;refine V (Bdr rfl m.rs rfl) ?_;refine G3 ?_;refine DT (Bu bG) (DT (By (vs:=wV) (vs':=nU (f.get y.label)) aG rfl rfl (A7 (Q3 _)) Eg (Hh (Q3 _))) ?_);refine G2 ?_
  exact⟨(by intro e K;simp at K;rcases K with rfl|rfl<;>first|exact .refl|exact K4 p),⟨rfl,trivial⟩,sb,rfl,rfl⟩
 refine G ?_;refine Gz 7 jR (sM (W.sm.get y.label)) [(8,.bool ((W.sm.get y.label)).isSome)] (δ _) rfl (λp=>?_) ?_
 ·refine XX 1 (l:=[]) trivial ?_;refine G3 ?_;refine V (E8 k aG rfl (show Cz 1 false ((dI d s C w u).drop 8)=some (.mp u)from rfl)) ?_
  refine G2 ?_;refine V (ζ rfl m.ss rfl) ?_;refine G3 ?_;refine DT (Bu bG) (DT (By (vs:=jR) (vs':=sM (W.sm.get y.label)) aG rfl rfl (A7 (LX _)) Eg (Hh (LX _))) ?_);refine G2 ?_
  exact⟨(by intro e K;simp at K;rcases K with rfl|rfl<;>first|exact .refl|exact K4 p),⟨rfl,trivial⟩,sb,rfl,rfl⟩
 refine G ?_;refine X0 ?_;refine G3 ?_;refine kV 2 (yu (f.get y.label)) (λH=>?_) (λ_=>?_)
 ·refine fD H ?_;refine gR H (Ac (aG (t:=4)) rfl rfl (WN _)) ?_;exact iX
 refine G ?_;refine kV 1 ((W.sm.get y.label)).isSome (λH=>?_) (λ_=>?_)
 ·refine fD H ?_;exact iX
 refine G ?_;refine kV 8 (decide (kd W.km (yV (f.get y.label))=1)) (λH=>?_) (λ_=>?_)
 ·iterate 3 refine fD H ?_
  refine gR H (lO k) ?_;refine fD H ?_;refine gR H (Ac (aG (t:=9)) rfl rfl (TZ _)) (gR H (kD bI gG rfl m.ks rfl) ?_);refine fD H ?_;exact iX
 refine G ?_;refine⟨rfl,rfl,?_⟩;refine Ab rfl ?_ ?_<;>intro X
 ·have b:eG W y=381:=by
   have h:(((!((f.get y.label)).isSome||yu (f.get y.label))||((W.sm.get y.label)).isSome)||decide (kd W.km (yV (f.get y.label))=1))=true:=X
   unfold eG;rw[Q,<-R];cases B:(f.get y.label)with
   |none=>rfl
   |some r=>rw[B]at h;exact if_pos h
  refine G4 ?_
  have n:eG W y=381:=by exact b
  refine G ?_
  exact⟨_,rfl,_,_,a_ p Y zN,Y,.same rfl,by rw[n];rfl,Y,λ_ _ _=>rfl,by rw[n];exact m.ss⟩
 ·have h:(((!((f.get y.label)).isSome||yu (f.get y.label))||((W.sm.get y.label)).isSome)||decide (kd W.km (yV (f.get y.label))=1))=false:=X
  obtain⟨r,B⟩:∃r,(f.get y.label)=some r:=by
   cases B:(f.get y.label)with
   |none=>rw[B]at h;simp at h
   |some r=>exact⟨r,rfl⟩
  rw[B]at h;have af:F4 W.g y.label=some r:=Z
  have U:=sP (by grind:F4 g.rules y.label=some r)
  have ag:=hG.prt r U;have E:=hG.argsOk U
  have ac:((r.var||((W.sm.get y.label)).isSome)||decide (kd W.km r.sort=1))=false:=h
  have aa:(bJ r).length<1000000:=by rw[pV];exact x8 (lI _ _) z
  rw[B];refine G3 ?_;refine A (Ac (v:=.agg (eR r)) aG rfl rfl (Wz (Qy r))) ?_;refine Ca (qJ r _ z E) ?_;refine G4 ?_;refine X0 ?_;refine G2 ?_;refine V (GA (q:=(-1)) (aV (t:=3)) rfl rfl) ?_;refine G ?_
  refine xI 23 ((decide (y.binds<0)||decide (Int.ofNat (bJ r).length<=y.binds))|| !decide (kd W.km (((bJ r)[y.binds.toNat]?).getD [])=1)) (λH=>?_) (λ_=>?_)
  ·iterate 4 refine fD H ?_
   refine kV 5 (decide (Int.ofNat (bJ r).length<=y.binds)) (λH=>?_) (λ_=>?_)
   ·iterate 5 refine fD H ?_
    exact iX
   refine fD H ?_;refine kV 11 (!decide (kd W.km (((bJ r)[y.binds.toNat]?).getD [])=1)) (λH=>?_) (λ_=>?_)
   ·obtain⟨j,hj⟩:=Int.eq_ofNat_of_zero_le (show 0<=y.binds from Z)
    have ae:j<(bJ r).length:=Z;have hq:(bJ r)[j]? =some (((bJ r)[y.binds.toNat]?).getD []):=Z
    iterate 3 refine fD H ?_
    refine gR H (lO k) ?_
    iterate 3 refine fD H ?_
    refine gR H (A1 (i:=j) (aJ (t:=22)) zF rfl (congrArg (λx=>some (I.int .i64 x)) hj) hq) ?_
    refine fD H ?_;refine gR H (kD bI gG rfl m.ks rfl) ?_;refine fD H ?_;exact iX
   exact iX
  refine G ?_;refine⟨rfl,rfl,?_⟩;refine Ab rfl ?_ ?_<;>intro h2
  ·have b:eG W y=381:=by
    unfold eG
    grind
   refine G4 ?_
   have n:eG W y=381:=by exact b
   refine G ?_
   exact⟨_,rfl,_,_,a_ p Y zN,Y,.same rfl,by rw[n];rfl,Y,λ_ _ _=>rfl,by rw[n];exact m.ss⟩
  ·have a7:(!decide (y.binds= -1)&&((decide (y.binds<0)||decide (Int.ofNat (bJ r).length<=y.binds))|| !decide (kd W.km (((bJ r)[y.binds.toNat]?).getD [])=1)))=false:=h2
   refine G4 ?_;refine A (Ac (v:=.agg (eR r)) aG rfl rfl (Wz (Qy r))) ?_;refine G2 ?_;refine Ca (FL d s W r y.binds a C w u _ k m.ks hn g1 g3 z E) ?_;refine G8 ?_;refine Ab rfl ?_ ?_<;>intro h3
   ·have b:eG W y=4:=by
     unfold eG
     grind
    refine G4 ?_
    have n:eG W y=4:=by exact b
    refine G ?_
    exact⟨_,rfl,_,_,a_ p Y zN,Y,.same rfl,by rw[n];rfl,Y,λ_ _ _=>rfl,by rw[n];exact m.ss⟩
   ·have a8:decide (10000<(eX W y.binds (bJ r) 0 1))=false:=h3;refine G3 ?_;refine XS (l:=[(168,[.pr a 0,aD eI 1 y.vals,D (kd W.km r.sort)],J,.bool (rB s.size (kd W.km r.sort) y.vals),J)]) ⟨FU d s a C w u y.vals (kd W.km r.sort) _ m.cl o,trivial⟩ ?_;refine G6 ?_;refine kV 12 (!rB s.size (kd W.km r.sort) y.vals) (λH=>?_) (λ_=>?_)
    ·iterate 6 refine fD H ?_
     refine gR H (lO k) ?_
     iterate 2 refine fD H ?_
     refine gR H (kD bI gG rfl m.ks rfl) (tG H Oq ?_);refine fD H ?_;exact iX
    refine G ?_;refine Ab rfl ?_ ?_<;>intro h4
    ·have b:eG W y=381:=by
      unfold eG
      grind
     refine G4 ?_
     have n:eG W y=381:=by exact b
     refine G ?_
     exact⟨_,rfl,_,_,a_ p Y zN,Y,.same rfl,by rw[n];rfl,Y,λ_ _ _=>rfl,by rw[n];exact m.ss⟩
    ·have a9:(!decide (Int.ofNat y.vals.length=(eX W y.binds (bJ r) 0 1))|| !rB s.size (kd W.km r.sort) y.vals)=false:=h4
     have b:eG W y=0:=by
      unfold eG
      grind
     refine G2 ?_;refine XS (l:=[]) trivial ?_;refine G3 ?_;refine V (E8 k aG rfl (show Cz 1 false ((dI d s C w u).drop 8)=some (.mp u)from rfl)) ?_
     refine G2 ?_
     refine V (Ac (v:=.agg (eD y)) aG rfl rfl (Wz (sI y))) (DT (Gh (v:=y) bI wC rfl S rfl rfl (λte L N=>by first|exact I0 L N|exact I1 L N|exact I2 L N|exact Jn L N|exact H6 L N rfl)) ?_)
     refine G5 ?_;refine Bo λT=>?_
     refine G ?_
     exact⟨_,rfl,_,_,a_ T Y zN,Z,.same rfl,by rw[b];rfl,Z,Z,by rw[if_pos b];exact iH⟩
end
section
open Go Go.Proofs
end
section
open Go Go.Proofs
end
section
open Go Go.Proofs
end
section
open Go Go.Proofs
end
section
open Go Go.Proofs
end
section
open Go Go.Proofs
end
section
open Go Go.Proofs
section
variable {ρ:Ad}{J:F}{Rr:bP}{x y:Operand}{s:aH}{r:Nat}
end
end
end Go.AM

namespace Go.AM
open Go Go.Proofs
abbrev nV(n:Nat):I:=D (.ofNat n)
def eN(n:Nat):List I:=[nV n]
def eV(v:I):List I:=[v]
def uR(m:Nat):List I:=[.mp m]
abbrev Ik:=Int×Int×Int
instance:KE Ik where
 k p:=.agg [.int .i64 p.1,.int .i64 p.2.1,.int .i64 p.2.2]
 eq a b:=by
  obtain⟨s,x,y⟩:=a;obtain⟨t,u,v⟩:=b;simp only[aQ.eq,aQ.eqs,Nn,Ed]
  by_cases c:s=t<;>by_cases d:x=u<;>by_cases e:y=v<;>simp[c,d,e]
def ik(x:It):Ik:=(.ofNat x.1,.ofNat x.2.1,.ofNat x.2.2)
def sk(s:Sp):Kk:=(s.1,.ofNat s.2.1,.ofNat s.2.2)
theorem SI{x y}:ik x=ik y↔x=y:=by
 obtain⟨a,b,c⟩:=x;obtain⟨d,e,f⟩:=y;simp only[ik,cE];exact⟨λ⟨p,q,r⟩=>⟨gI p,gI q,gI r⟩,λ⟨p,q,r⟩=>⟨congrArg _ p,congrArg _ q,congrArg _ r⟩⟩
theorem K0{x y}:sk x=sk y↔x=y:=by
 obtain⟨a,b,c⟩:=x;obtain⟨d,e,f⟩:=y;simp only[sk,cE];exact⟨λ⟨p,q,r⟩=>⟨p,gI q,gI r⟩,λ⟨p,q,r⟩=>⟨p,congrArg _ q,congrArg _ r⟩⟩
def jH(x:It):List I:=[nV x.1,nV x.2.1,nV x.2.2]
def jD(x:It):I:=.agg (jH x)
theorem Rx(x):(jH x).length=3:=rfl
theorem Ep(x):(eN x).length=1:=rfl
theorem O0(x):(eV x).length=1:=rfl
theorem Z6(x):(uR x).length=1:=rfl
theorem vM{N}(x):I.unds N (eN x)=true:=rfl
def sF{d C:Type}[DecidableEq d][KE d](s:Nat)(f:C->d)(l:List C)(J:F)(r:Nat):Prop:=∃m:GM d Bool,eW s (λb=>.bool b) J r m/\∀x,(x∈l->m.get (f x)=some true)/\(x∉l->m.get (f x)=none)
theorem sF.of_get{d C}[DecidableEq d][KE d]{s}{f:C->d}{l J U r}(h:sF s f l J r)(H:U.get r=J.get r):sF s f l U r:=by
 obtain⟨m,a,b⟩:=h;exact⟨m,a.of_get H,b⟩
structure Cp where
 c:Nat
 mR:Nat
 mD:Nat
 vS:I
 vI:I
 vals:List I
 ms:List Nat
inductive Tg where
 |c
 |d
 |s
 |i
 |v (j:Nat)
 |m (j:Nat)
 deriving DecidableEq
def Cp.loc(X:Cp):Tg->Option Nat
 |.c=>some X.c
 |.d=>some X.mD
 |.s=>bm X.vS
 |.i=>bm X.vI
 |.v j=>(X.vals[j]?).bind bm
 |.m j=>X.ms[j]?
def Cp.cells(g:Gr)(R:List aH)(X:Cp):List I:=[Af g.sorts,aD eR 4 g.rules,.mp X.mR,Af R,X.vS,X.vI,.mp X.mD]
abbrev bE(b:Bool):I:=.bool b
structure cM (g:Gr)(text:List aH)(N:Nat)(X:Cp)(S:Ch)(J:F):Prop where
 inj:∀t u a,X.loc t=some a->X.loc u=some a->t=u
 lo:∀t a,X.loc t=some a->N<=a/\a<O J
 cl:J.get X.c=some (.cells (X.cells g text))
 sets:aW J N eV 1 X.vals X.vS
 is:aW J N uR 1 X.ms X.vI
 lv:X.vals.length=S.sets.length
 lm:X.ms.length=S.sets.length
 vals:∀(j:Nat) l v,S.sets[j]? =some l->X.vals[j]? =some v->aW J N jH 3 l v
 mps:∀(j:Nat) l m,S.sets[j]? =some l->X.ms[j]? =some m->sF 351 ik l J m
 done:sF 232 sk S.done J X.mD
structure Lk (X:Cp)(J:F)(X':Cp)(J':F):Prop where
 c:X'.c=X.c
 r:X'.mR=X.mR
 d:X'.mD=X.mD
 n:O J<=O J'
 sub:∀t a,X'.loc t=some a->(∃u,X.loc u=some a)\/O J<=a
 fr:∀b,b<O J->(∀t,X.loc t≠some b)->J'.get b=J.get b
theorem Lk.refl(X J):Lk X J X J:=⟨rfl,rfl,rfl,Y,λt a h=>.inl ⟨t,h⟩,λ_ _ _=>rfl⟩
theorem Lk.trans{X e f J U p}(h:Lk X J e U)(k:Lk e U f p):Lk X J f p:=by
 refine⟨k.c.trans h.c,k.r.trans h.r,k.d.trans h.d,bD h.n k.n,λt a d=>?_,λb g i=>?_⟩
 ·rcases k.sub t a d with⟨u,c⟩|c
  ·exact h.sub u a c
  ·exact .inr (bD h.n c)
 ·rw[k.fr b (cC g h.n) λt d=>?_,h.fr b g i]
  rcases h.sub t b d with⟨u,c⟩|c
  ·exact i u c
  ·omega
structure pP (g:Gr)(rv:SM I)(X:Cp)(J:F):Prop where
 map:B8 (λv:I=>v) J X.mR rv
 lo:∀a,a=X.mR\/(∃s v,rv.get s=some v/\bm v=some a)->a<O J/\∀t,X.loc t≠some a
 get:∀s,match rv.get s with|none=>E5 g s=[]|some v=>aW J 0 eN 1 (E5 g s) v
theorem pP.lk{g l X e J q}(h:pP g l X J)(k:Lk X J e q):pP g l e q:=by
 have H:∀a,a=X.mR\/(∃s v,l.get s=some v/\bm v=some a)->q.get a=J.get a:=λa b=>k.fr a (h.lo a b).1 (h.lo a b).2
 refine⟨?_,λa b=>?_,λs=>?_⟩
 ·obtain⟨d,m⟩:=h.map;rw[k.r];exact⟨d,(H _ (.inl rfl)).trans m⟩
 ·rw[k.r]at b;obtain⟨i,j⟩:=h.lo a b;refine⟨cC i k.n,λt n=>?_⟩
  rcases k.sub t a n with⟨u,f⟩|f
  ·exact j u f
  ·omega
 ·have:=h.get s;cases c:l.get s with
  |none=>rw[c]at this;exact this
  |some v=>rw[c]at this;exact this.of_get k.n λa b=>H a (.inr ⟨s,v,c,b⟩)
def sC:List I:=[.str [],.str [],.int .i64 0]
def tM:Option Pt->List I
 |some p=>cL p
 |none=>sC
theorem χ{g r x}(h:g.rules[r]? =some x):du g r=x.parts:=by unfold du;rw[h]
theorem ww(g c x f){r}(J)(P:J.get c=some (.cells (Af g.sorts::aD eR 4 g.rules::f)))(w:g.rules[x.1]? =some r)(d:x.2.1=r.parts.length)(S:dC g x=none):Cv 188 [.pr c 0,jD x] J (.tup [.agg (tM (dC g x)),.bool (dC g x).isSome]):=by
 refine Aj Tryz.func188 rfl rfl λe j=>?_
 refine G3 ?_;refine A (Bu bG) ?_;refine G2 ?_
 have a:∀h,(J.new (.cells h)).get c=some (.cells (Af g.sorts::aD eR 4 g.rules::f)):=λh=>by rw[a5,if_neg (by have:=(e _ _ P).1;omega)];exact P
 refine G ?_;refine X0 ?_;refine G4 ?_
 refine V (lO (a _)) (V (Bp Ii rfl rfl zD rfl) ?_)
 refine G6 ?_;refine⟨rfl,rfl,?_⟩;refine G3 ?_
 refine A (Bp Ii rfl rfl zD rfl) ?_
 refine G5 ?_;refine Ab rfl ?_ ?_<;>intro i
 ·skip
  refine G3 ?_
  refine A (sO (cs:=sC) (cs':=sC) (by rw[a5,if_pos rfl];rfl)) ?_
  refine G3 ?_
  exact⟨_,Am (vs:=sC) (v:=.agg sC) (aG (t:=223)) rfl (by simp only[F.cells];rw[aU,if_pos rfl]) rfl rfl,_,J,bL e ⟨by rw[Aq,Ao];omega,λb k=>by rw[aU,if_neg z,a5,if_neg z]⟩,Y,.same rfl,by rw[S];rfl,rfl⟩
 ·exact absurd (show(x.2.1:Int)=(r.parts.length:Int) by rw[d]) (by simpa using i)
theorem yn(g c x h){r p}(J)(P:J.get c=some (.cells (Af g.sorts::aD eR 4 g.rules::h)))(w:g.rules[x.1]? =some r)(d:¬x.2.1=r.parts.length)(a:r.parts[x.2.1]? =some p)(S:dC g x=some p):Cv 188 [.pr c 0,jD x] J (.tup [.agg (tM (dC g x)),.bool (dC g x).isSome]):=by
 refine Aj Tryz.func188 rfl rfl λf l=>?_
 refine G3 ?_;refine A (Bu bG) ?_;refine G2 ?_
 have e:∀i,(J.new (.cells i)).get c=some (.cells (Af g.sorts::aD eR 4 g.rules::h)):=λi=>by rw[a5,if_neg (by have:=(f _ _ P).1;omega)];exact P
 refine G ?_;refine X0 ?_;refine G4 ?_
 refine V (lO (e _)) (V (Bp Ii rfl rfl zD rfl) ?_)
 refine G6 ?_;refine⟨rfl,rfl,?_⟩;refine G3 ?_
 refine A (Bp Ii rfl rfl zD rfl) ?_
 refine G5 ?_;refine Ab rfl ?_ ?_<;>intro j
 ·have k:(x.2.1:Int)=(r.parts.length:Int):=by simpa using j
  exact absurd (gI k) d
 ·skip
  refine G4 ?_
  refine A (Bp Ii rfl rfl zD rfl) ?_
  refine G3 ?_
  refine A (sO (cs:=sC) (cs':=cL p) (by rw[a5,if_pos rfl];rfl)) ?_
  refine G3 ?_
  exact⟨_,Am (vs:=(cL p)) (v:=.agg (cL p)) (aG (t:=223)) rfl (by simp only[F.cells];rw[aU,if_pos rfl]) rfl rfl,_,J,bL f ⟨by rw[Aq,Ao];omega,λb m=>by rw[aU,if_neg z,a5,if_neg z]⟩,Y,.same rfl,by rw[S];rfl,rfl⟩
theorem qT(g c j x d J)(P:J.get c=some (.cells (Af g.sorts::aD eR 4 g.rules::d)))(W:Vm g j x):Cv 188 [.pr c 0,jD x] J (.tup [.agg (tM (dC g x)),.bool (dC g x).isSome]):=by
 obtain⟨r,b⟩:=Ar W.1;have e:=χ b;have f:=W.2.1;rw[e]at f;cases a:r.parts[x.2.1]? with
 |none=>exact ww g c x d J P b (by have:=List.getElem?_eq_none_iff.1 a;omega) (by unfold dC;rw[e];exact a)
 |some p=>exact yn g c x d J P b (by have:=(bQ.1 a).1;omega) a (by unfold dC;rw[e];exact a)
section
variable {g:Gr}{text:List aH}{N:Nat}{X:Cp}{S:Ch}{J:F}
theorem Ch.add_new{j x l}(d:S.sets[j]? =some l)(W:x∉l):S.add j x={ S with sets:=S.sets.set j (l++[x]) }:=by
 unfold Ch.add;rw[oT d,if_neg W]
theorem Ch.add_old{j x l}(d:S.sets[j]? =some l)(W:x∈l):S.add j x=S:=by
 unfold Ch.add;rw[oT d,if_pos W]
def Cp.setV(X:Cp)(j:Nat)(v:I):Cp:={ X with vals:=X.vals.set j v }
theorem Cp.loc_setV{j a v v'}(b:X.vals[j]? =some v)(c:bm v'=some a)(t):(X.setV j v').loc t=if t=.v j then some a else X.loc t:=by
 cases t with
 |v k=>
  show((X.vals.set j v')[k]?).bind bm=_
  by_cases h:k=j
  ·grind
  ·rw[if_neg (λe=>h (Tg.v.inj e)),yM (λe=>h e.symm)];rfl
 |_=>rfl
theorem cM.addS(h:cM g text N X S J){j m K o x l v}{E:GM Ik Bool}{tl r}
  (d:S.sets[j]? =some l)(hv:X.vals[j]? =some v)(hm:X.ms[j]? =some m)(a9:∀y,(y∈l->E.get (ik y)=some true)/\(y∉l->E.get (ik y)=none))(hx:x∉l)
  (a8:O r=O J+1)(T:aW r N jH 3 (l++[x]) (.sr (O J) 0 3 (l.length+1) none))(R:∀b,b<O J->bm v≠some b->r.get b=(J.set m (.map 351 (Hi bE (E.put (ik x) true)) K)).get b)
  (hS:X.vS=.sr o 0 1 X.vals.length none):
  cM g text N (X.setV j (.sr (O J) 0 3 (l.length+1) none)) (S.add j x) (r.set o (.cells ((X.vals.set j (.sr (O J) 0 3 (l.length+1) none)).flatMap eV++tl)))/\
  Lk X J (X.setV j (.sr (O J) 0 3 (l.length+1) none)) (r.set o (.cells ((X.vals.set j (.sr (O J) 0 3 (l.length+1) none)).flatMap eV++tl))):=by
 have W:=(bQ.1 hv).1;have C:=(bQ.1 d).1
 have Lv:X.loc (.v j)=bm v:=by show(X.vals[j]?).bind bm=_;rw[hv];rfl
 have L:X.loc (.m j)=some m:=hm
 have P:X.loc .s=some o:=by show bm X.vS=_;rw[hS];rfl
 have hc:=h.lo .c _ rfl;have q:=Cp.loc_setV (X:=X) (v':=.sr (O J) 0 3 (l.length+1) none) hv rfl
 generalize a7:r.set o (.cells ((X.vals.set j (.sr (O J) 0 3 (l.length+1) none)).flatMap eV++tl))=U
 have ac:O U=O J+1:=Z;have aa:=(h.lo _ _ P).2;have qf:=(h.lo _ _ L).2;have p:∀b,b≠o->U.get b=r.get b:=Z;have B:∀b,b<O J->b≠o->b≠m->bm v≠some b->U.get b=J.get b:=Z

 have n:∀t a,X.loc t=some a->t≠.s->t≠.m j->t≠.v j->U.get a=J.get a:=λt a i n1 n2 n3=>
  B a (h.lo t a i).2 (λe=>n1 (h.inj t .s a i (by rw[P,e]))) (λe=>n2 (h.inj t (.m j) a i (by rw[L,e]))) (λe=>n3 (h.inj t (.v j) a i (by rw[Lv,e])))
 refine⟨⟨λt u a i f=>?_,λt a i=>?_,(n .c _ rfl zS zS zS).trans h.cl,?_,h.is.of_get z λa s=>n .i a s zS zS zS,?_,?_,λk G u c f=>?_,λk G u c f=>?_,?_⟩,⟨rfl,rfl,rfl,by omega,λt a i=>?_,λb hb hn=>?_⟩⟩
 ·rw[q]at i f
  by_cases Q:t=.v j
  ·by_cases w:u=.v j
   ·rw[Q,w]
   ·rw[if_pos Q]at i;rw[if_neg w]at f;cases i;have:=(h.lo u _ f).2;omega
  ·by_cases w:u=.v j
   ·rw[if_neg Q]at i;rw[if_pos w]at f;cases f;have:=(h.lo t _ i).2;omega
   ·rw[if_neg Q]at i;rw[if_neg w]at f;exact h.inj t u a i f
 ·rw[q]at i
  split at i
  ·grind
  ·have:=h.lo t a i;omega
 ·refine .inr ⟨o,tl,(h.lo _ _ P).1,by omega,?_,?_⟩
  ·show X.vS=_;rw[hS];show _=I.sr o 0 1 (X.vals.set j _).length none;grind
  ·rw[<-a7,aU,if_pos rfl];rfl
 ·rw[AL];show(X.vals.set j _).length=_;rw[jO];exact h.lv
 ·rw[AL];exact h.lm
 ·rw[Ch.add_new d hx]at c;have c:(S.sets.set j (l++[x]))[k]? =some G:=c;have f:(X.vals.set j (.sr (O J) 0 3 (l.length+1) none))[k]? =some u:=f
  by_cases e:k=j
  ·subst e;rw[f_ C]at c;rw[f_ W]at f;cases c;cases f
   exact T.of_get z λa s=>p a (by cases s;omega)
  ·rw[yM (λh=>e h.symm)]at c f
   have hk:∀a,bm u=some a->X.loc (.v k)=some a:=λa s=>by show(X.vals[k]?).bind bm=_;grind
   exact(h.vals k G u c f).of_get z λa s=>n (.v k) a (hk a s) zS zS (λh=>e (Tg.v.inj h))
 ·rw[Ch.add_new d hx]at c;have c:(S.sets.set j (l++[x]))[k]? =some G:=c
  by_cases e:k=j
  ·subst e;rw[f_ C]at c;cases c;have f:X.ms[k]? =some u:=f;rw[hm]at f;cases f;refine⟨E.put (ik x) true,⟨K,?_⟩,λy=>?_⟩
   ·rw[p m (λe=>by have:=h.inj (.m k) .s m L (by rw[P,e]);cases this),R m qf (λe=>by have:=h.inj (.v k) (.m k) m (by rw[Lv,e]) L;cases this),aU,if_pos rfl]
   ·rw[tV]
    by_cases hy:y=x
    ·subst hy;simp
    ·rw[if_neg (λe=>hy (SI.1 e))]
     grind
  ·rw[yM (λh=>e h.symm)]at c
   exact(h.mps k G u c f).of_get (n (.m k) u f zS (λh=>e (Tg.m.inj h)) zS)
 ·have:(S.add j x).done=S.done:=GU;rw[this]
  exact h.done.of_get (n .d _ rfl zS zS zS)
 ·grind
 grind
end
theorem sG{E i B l c Q f J}(h:T E i l B c (λx f J=>bY J->Q x f J) f J):T E i l B c Q f J:=λu n s C w y a t v r=>
 wpIn_mono (h u n s C w y a t v r) λe G K ⟨x,b,d,k,j,m,o,p,g,q⟩=>⟨x,b,d,k,j,m,o,p g.sim.wfs,g,q⟩
theorem Ns{f J a t s T r x y e z u d C}[DecidableEq d][KE d]{b m}{k:d}{o:Option C}(L:cq M.P t=some (s,z,T,e))(W:Ah M f x=some (.mp r))(K:eW s b J r m)(B:Ah M f y=some u)(X:D4 M.P s u=some (KE.k k))(c:m.get k=o):
  As M a (.lookup t x y false) f J ((o.map b).getD z) J:=by subst c;exact OF L W K B X
theorem pG(x):D4 M.P 351 (jD x)=some (KE.k (ik x)):=by
 obtain⟨a,b,c⟩:=x
 kernel_rfl
theorem yp{g R N X S J}(h:cM g R N X S J){j m a x l v E}(d:S.sets[j]? =some l)(b:X.vals[j]? =some v)(K:X.ms[j]? =some m)(f:J.get m=some (.map 351 (Hi bE E) a))(c:∀y,(y∈l->E.get (ik y)=some true)/\(y∉l->E.get (ik y)=none))(W:x∈l)  :Al M 187 [.pr X.c 0,nV j,jD x] J λ_ r=>r=J:=by
 have w:E.get (ik x)=some true:=(c x).1 W;have k:=(bQ.1 b).1;have q:=(bQ.1 K).1;obtain⟨t,tS,Q,T,p,u⟩:=h.sets.sr k;obtain⟨s,tI,L,P,n,i⟩:=h.is.sr q
 have e:J.get X.c=some (.cells [Af g.sorts,aD eR 4 g.rules,.mp X.mR,Af R,.sr t 0 1 X.vals.length none,.sr s 0 1 X.ms.length none,.mp X.mD]):=by rw[<-p,<-n];exact h.cl
 refine Aj Tryz.func187 rfl rfl λC B=>?_
 refine G5 ?_;refine X0 ?_;refine G3 ?_;refine V (lO e) ?_;refine G ?_;refine V (Br aJ rfl rfl q) (V (Dg Z6 aG rfl i K λ_=>rfl) ?_)
 refine G ?_;refine V (Ns (o:=some true) (z:=.bool false) yH rfl ⟨a,f⟩ rfl (pG x) w) ?_;refine G2 ?_;refine⟨rfl,rfl,?_⟩;refine Ab rfl ?_ ?_<;>intro U
 ·grind
 ·skip
  refine G ?_;exact⟨[],rfl,_,J,a_ C Y zN,Y,.same rfl,rfl⟩
theorem wM{g R N X S J}(h:cM g R N X S J){j m p x l v E}(hl:S.sets[j]? =some l)(q:X.vals[j]? =some v)(K:X.ms[j]? =some m)(hM:J.get m=some (.map 351 (Hi bE E) p))(B:∀y,(y∈l->E.get (ik y)=some true)/\(y∉l->E.get (ik y)=none))(hx:x∉l)(bn:l.length<=30000000)  :Al M 187 [.pr X.c 0,nV j,jD x] J λ_ J'=>∃X',cM g R N X' (S.add j x) J'/\Lk X J X' J':=by
 have ho:E.get (ik x)=none:=(B x).2 hx;have c:=(bQ.1 q).1;have W:=(bQ.1 K).1;obtain⟨f,tS,al,ag,n,ac⟩:=h.sets.sr c;obtain⟨aI,tI,aj,ak,ae,L⟩:=h.is.sr W
 have k:J.get X.c=some (.cells [Af g.sorts,aD eR 4 g.rules,.mp X.mR,Af R,.sr f 0 1 X.vals.length none,.sr aI 0 1 X.ms.length none,.mp X.mD]):=by rw[<-n,<-ae];exact h.cl
 have P:=h.inj
 have lS:X.loc .s=some f:=by show bm X.vS=_;rw[n];rfl
 have lM:X.loc (.m j)=some m:=K
 have lV:X.loc (.v j)=bm v:=by show(X.vals[j]?).bind bm=_;rw[q];rfl
 have a9:X.c≠m:=Z;have a7:f≠m:=Z
 have ah:X.c≠f:=λe=>by cases P .c .s f (congrArg some e) lS
 have bf:=h.vals j l v hl q
 generalize i:J.set m (.map 351 (Hi bE (E.put (ik x) true)) (p+1))=U at *
 have n1:O U=O J:=Z;have g1:∀b,b≠m->U.get b=J.get b:=Z;have cn:aW U N jH 3 l v:=bf.of_get z λa ha=>g1 a Z
 have hN:N<=O J:=Z
 obtain⟨J2,C,n2,bw,T⟩:=jB (by':=24) Rx z cn x (by simp only[az];omega)
 rw[n1]at C n2 bw T
 have dk:=h.addS (tl:=tS) hl q K B hx n2 bw (λb hb hn=>(T b hb hn).trans (by rw[<-i])) n
 have w:=(g1 X.c a9).trans k;have ji:=(g1 f a7).trans ac
 have Q:∀r,Cz 1 false (eV v++r)=some v:=λr=>by
  rcases bf with⟨_,rfl|rfl⟩|⟨a,tl,_,_,rfl,_⟩<;>rfl
 have a8:bm v≠some f:=Z
 have aa:bm v≠some X.c:=λe=>by cases P (.v j) .c X.c (by rw[lV,e]) rfl
 have qg:=(T X.c (h.lo .c _ rfl).2 aa).trans w;have qj:=(T f ag a8).trans ji;refine Aj Tryz.func187 rfl rfl λhw ai=>?_
 refine G5 ?_;refine X0 ?_;refine G3 ?_;refine V (lO k) ?_;refine G ?_;refine V (Br aJ rfl rfl W) (V (Dg Z6 aG rfl L K λ_=>rfl) ?_)
 refine G ?_;refine V (Ns (o:=none) (z:=.bool false) yH rfl ⟨p,hM⟩ rfl (pG x) ho) ?_;refine G2 ?_;refine⟨rfl,rfl,?_⟩;refine Ab rfl ?_ ?_<;>intro h1
 ·skip
  refine G ?_;refine XS (l:=[]) trivial ?_;refine G3 ?_;refine V (lO k) ?_;refine G ?_;refine V (Br aJ rfl rfl W) (V (Dg Z6 aG rfl L K λ_=>rfl) ?_)
  refine G ?_
  refine DT (K7 (v:=true) yH rfl hM rfl (pG x) rfl (λte h1 h2=>by simp[Je,h1,h2])) ?_
  refine G ?_;rw[i];refine sG ?_;refine L4 (Rr:=Dk []) (anns:=[⟨.pure,0,1⟩,⟨.pure,0,1⟩,⟨.pure,0,1⟩,⟨.read,0,1⟩,⟨.pure,0,1⟩,⟨.pure,0,0⟩,⟨.pure,0,0⟩,⟨.pure,0,0⟩,⟨.read,0,0⟩,⟨.pure,0,0⟩,⟨.pure,0,0⟩,⟨.read,0,0⟩,⟨.read,0,0⟩,⟨.pure,0,0⟩,⟨.eff,0,1⟩,⟨.pure,1,1⟩,⟨.eff,1,2⟩]) Di (Bw (l:=[]) trivial) Kr ?_;refine G3 ?_;refine V (lO w) ?_;refine G4 ?_;refine V (lO w) ?_;refine G ?_;refine V (Br aJ rfl rfl c) (V (Dg O0 aG rfl ji q Q) ?_);refine G ?_;refine V (Ai aJ bM rfl rfl rfl) (DT (Av aJ rfl bF rfl rfl rfl (new:=jH x) rfl C) (V (Br aJ rfl rfl c) (DT (Tb (u:=.sr (O J) 0 3 (l.length+1) none) O0 aG rfl rfl rfl qj c) ?_)));refine G ?_
  refine⟨⟨trivial,trivial,trivial,(λs d=>by simp at d;rcases d with rfl|rfl;exact⟨_,E8 w (aG (t:=233)) rfl rfl⟩;exact⟨_,E8 qg (aG (t:=233)) rfl rfl⟩),trivial,trivial,trivial,trivial,(λs d=>by simp at d;subst d;exact⟨_,E8 w (aG (t:=233)) rfl rfl⟩),trivial,trivial,(λs d=>by simp at d;subst d;exact⟨_,Dg O0 (aG (t:=352)) rfl ji q Q⟩),(λs d=>⟨_,Ac (aG (t:=351)) rfl rfl rfl⟩),trivial,trivial,trivial,trivial,trivial⟩,?_⟩
  intro af;exact⟨[],rfl,_,_,a_ af Y zN,Z,.same rfl,_,dk.1,dk.2⟩
 grind
theorem lD{g R N X S J}(h:cM g R N X S J){j}(x)(d:j<S.sets.length)(n:(S.set j).length<=30000000):Al M 187 [.pr X.c 0,nV j,jD x] J λ_ c=>∃k,cM g R N k (S.add j x) c/\Lk X J k c:=by
 obtain⟨l,b⟩:=Ar d
 obtain⟨v,p⟩:=Ar (show j<X.vals.length by rw[h.lv];exact d)
 obtain⟨m,f⟩:=Ar (show j<X.ms.length by rw[h.lm];exact d)
 obtain⟨r,⟨q,o⟩,a⟩:=h.mps j l m b f;rw[oT b]at n
 by_cases i:x∈l
 ·refine(yp h b p f o a i).mono λ_ c e=>?_
  subst e
  exact⟨X,by rw[Ch.add_old b i];exact h,Lk.refl _ _⟩
 ·exact wM h b p f o a i n
theorem zx:(match Ay M.P 351 with|some a=>a.zero|none=>none)=some [.int .i64 0,.int .i64 0,.int .i64 0]:=Kr
theorem LC{g s}:(E5 g s).length<=g.rules.length:=by
 unfold E5
 exact bD (lI _ _) (by rw[List.length_range];exact Y)
theorem M1{S:Ch}{j i}{L:List It}{x}(h:L[i]? =some x):S.adds j (L.take (i+1))=(S.adds j (L.take i)).add j x:=by
 have e:L.take (i+1)=L.take i++[x]:=by rw[List.take_add_one,h];rfl
 rw[e];unfold Ch.adds;rw[List.foldl_append];rfl
theorem wU{g R N X S J l}(h:cM g R N X S J)(w:pP g l X J)(s){j}(hj:j<S.sets.length)(r:Gj g S)(hb:Cu g j<=30000000)(hR:g.rules.length<=1000000):Al M 152 [.pr X.c 0,sV s,nV j] J λ_ K=>∃L,cM g R N L (S.pred g s j) K/\Lk X J L K:=by
 obtain⟨v,W,P,B⟩:∃v,((l.get s).map λv:I=>v).getD nS=v/\aW J 0 eN 1 (E5 g s) v/\(0<(E5 g s).length->l.get s=some v):=by
  have:=w.get s;cases U:l.get s with
  |none=>rw[U]at this;exact⟨_,rfl,by rw[this];exact .nil,λh=>by rw[this]at h;cases h⟩
  |some v=>rw[U]at this;exact⟨v,rfl,this,λ_=>rfl⟩
 refine Aj Tryz.func152 rfl rfl λhw aa=>?_
 refine G5 ?_;refine A (lO h.cl) ?_;refine G ?_;refine A (W4 bI sS rfl w.map rfl) (A (Bf bF (show _=some v from congrArg some W) P.lenA.1 P.lenA.2) ?_)
 refine G3 ?_
 refine Bz (E5 g s).length (λb=>[(0,.pr X.c 0),(2,nV j),(13,v),(14,nV (E5 g s).length),(15,nV b)]) (λb c=>∃k,cM g R N k (S.adds j ((Su g s j).take b)) c/\Lk X J k c) ⟨rfl,rfl,by rw[<-W];rfl,rfl,rfl,trivial⟩ ⟨X,h,Lk.refl _ _⟩ ?_
 rintro b c a8 ⟨k,o,d⟩;refine G5 ?_;refine Ab rfl ?_ ?_<;>intro Q
 ·have m:b<(E5 g s).length:=by simpa using Q
  have a9:=LC (g:=g) (s:=s);obtain⟨E,i⟩:=Ar m
  have t:(Su g s j)[b]? =some (E,0,j):=by unfold Su;rw[eC,i];rfl
  have u:=w.lk d;have f:=u.get s;rw[B z]at f;obtain⟨a,tl,_,_,y,p⟩:=(show aW c 0 eN 1 (E5 g s) v from f).sr m
  have qk:Gj g (S.adds j ((Su g s j).take b)):=r.adds λx hx=>Vn x (kJ hx)
  have q:j<(S.adds j ((Su g s j).take b)).sets.length:=by rw[pI];exact hj
  refine G5 ?_;refine A (Br aJ (show _=some (I.sr a 0 1 (E5 g s).length none)from congrArg some y) rfl m) (A (Dg Ep aG rfl p i λ_=>rfl) ?_)
  refine G7 ?_;refine A (G0 zx Ii rfl rfl) (Az rfl rfl rfl rfl (show Al M 187 [.pr X.c 0,nV j,jD (E,0,j)] c _ from d.c▸lD o (E,0,j) q (bD (qk.set.bound Y) hb)) ?_)
  rintro u1 J1 ⟨a7,T,n⟩;refine G5 ?_;rw[<-M1 t]at T;exact⟨m,SL,a7,T,d.trans n⟩
 ·have bj:(E5 g s).length<=b:=by simpa using Q
  refine Bo λC=>?_
  refine G ?_
  have e:(Su g s j).take b=Su g s j:=dG (by unfold Su;rw[jT];exact bj)
  rw[e]at o;exact⟨[],rfl,_,_,a_ C Y zN,d.n,.same rfl,k,o,d⟩
theorem F5(o):(tM o).length=3:=by cases o<;>rfl
def kM:Option Pt->aH
 |some p=>p.sort
 |none=>[]
theorem Nt(o):Cz 1 false ((tM o).drop 1)=some (sV (kM o)):=by cases o<;>rfl
theorem IA{g r n}(h:r<g.rules.length):lL g<=Cu g n:=
 bD (kG _) (bD (Nat.le_mul_of_pos_right _ (Nat.succ_pos n)) (Nat.le_mul_of_pos_left _ (x8 (bU _) h)))
theorem Ts{S:Ch}{j k x}:(S.set k).length<=((S.add j x).set k).length:=by
 unfold Ch.add
 split
 ·grind
 ·show((S.sets.getD k [])).length<=((S.sets.set j _).getD k []).length
  simp only[List.getD_eq_getElem?_getD,List.getElem?_set]
  by_cases e:j=k
  ·subst e
   by_cases a:j<S.sets.length
   ·rw[if_pos rfl,if_pos a]
    show _<=(S.set j++[x]).length
    rw[gW]
    show(S.sets[j]?.getD []).length<=(S.sets.getD j []).length+_
    grind
   grind
  grind
theorem Yd{g s x S k}:(S.set k).length<=((Fc g s x S).set k).length:=by
 unfold Fc
 split
 ·split
  ·exact Ts
  grind
 grind
def c7(s:Sp):List I:=[sV s.1,nV s.2.1,nV s.2.2]
theorem Bb{g R N n X S J}(h:cM g R N X S J)(s)(aa:Gj g S)(hs:s.2.1<=s.2.2)(hl:s.2.2<S.sets.length)(hn:S.sets.length<=n+1)(hb:Cu g n<=30000000):Al M 189 [.pr X.c 0,.agg (c7 s)] J λ_ J'=>∃X',cM g R N X' (fP g s (Cu g n+1) 0 S) J'/\Lk X J X' J':=by
 refine Aj Tryz.func189 rfl rfl λhw aj=>?_
 refine G9 ?_;refine Ci (λq:Nat×Ch=>[(0,.pr X.c 0),(3,.pv (c7 s)),(4,nV q.1)]) (λq t=>∃d,cM g R N d q.2 t/\Lk X J d t/\Gj g q.2/\q.2.sets.length=S.sets.length/\q.1<=(q.2.set s.2.1).length/\q.1<=Cu g n/\fP g s (Cu g n+1-q.1) q.1 q.2=fP g s (Cu g n+1) 0 S) (λq=>Cu g n+1-q.1) (0,S) SL ⟨X,h,Lk.refl _ _,aa,rfl,bU _,bU _,rfl⟩ ?_
 rintro⟨c,b⟩ t ⟨d,w,P,u,o,B,T,f⟩;have o:b.sets.length=S.sets.length:=o;have B:c<=(b.set s.2.1).length:=B;have T:c<=Cu g n:=T;have f:fP g s (Cu g n+1-c) c b=fP g s (Cu g n+1) 0 S:=f;have w:cM g R N d b t:=w;have u:Gj g b:=u
 have U:s.2.1<b.sets.length:=by omega
 obtain⟨l,hl⟩:=Ar U
 obtain⟨v,hv⟩:=Ar (show s.2.1<d.vals.length by rw[w.lv];exact U)
 have E:=(bQ.1 hv).1;have cd:=oT hl;rw[cd]at B;have bf:=w.vals _ l v hl hv;obtain⟨aS,tS,_,ak,ac,Q⟩:=w.sets.sr E
 have y:t.get X.c=some (.cells [Af g.sorts,aD eR 4 g.rules,.mp d.mR,Af R,.sr aS 0 1 d.vals.length none,d.vI,.mp d.mD]):=by rw[<-ac,<-P.c];exact w.cl
 have ah:l.length<=Cu g n:=by have:=(u.set (j:=s.2.1)).bound (n:=n) z;grind
 have W:∀r,Cz 1 false (eV v++r)=some v:=λr=>by
  rcases bf with⟨_,rfl|rfl⟩|⟨a,tl,_,_,rfl,_⟩<;>rfl
 refine G2 ?_;refine X0 ?_;refine G4 ?_;refine V (lO y) ?_;refine G2 ?_;refine V (Br aJ rfl rfl E) (V (Dg O0 aG rfl Q hv W) (V (Bf bF rfl bf.lenA.1 bf.lenA.2) ?_));refine G2 ?_;refine⟨rfl,rfl,?_⟩;refine Ab rfl ?_ ?_<;>intro h1
 ·have bc:c<l.length:=Z;obtain⟨x,hx⟩:=Ar bc;obtain⟨a,tl,_,_,ae,a8⟩:=bf.sr bc
  have m:Vm g s.2.1 x:=u _ l hl|>.2 x (fA.2 ⟨_,hx⟩)
  refine G3 ?_;refine Gz 5 [.int .i64 0,.int .i64 0,.int .i64 0] (jH x) [] rfl rfl (λK=>?_) ?_
  ·refine XX 1 (l:=[]) trivial ?_;refine G3 ?_;refine V (lO y) ?_;refine G2 ?_;refine V (Br aJ rfl rfl E) (V (Dg O0 aG rfl Q hv W) ?_);refine G ?_;refine V (Br aJ (show _=some (I.sr a 0 3 l.length none)from congrArg some ae) rfl bc) (V (Dg Rx aG rfl a8 hx λ_=>rfl) ?_)
   refine DT (Bu bG) (DT (sO (cs:=[.int .i64 0,.int .i64 0,.int .i64 0]) (cs':=jH x) (by rw[a5,if_pos rfl])) ?_)
   refine G ?_
   exact⟨(by intro e he;simp at he;rcases he with rfl|rfl<;>first|exact .refl|exact K4 K),trivial,sb,rfl,rfl⟩
  refine G4 ?_;refine Ca (show Al M 188 [.pr X.c 0,jD x] t _ from qT g X.c s.2.1 x _ t y m) ?_
  refine G3 ?_;refine Ho bG aG rfl zF rfl (A7 (F5 _)) rfl rfl ?_
  refine G6 ?_;refine fZ 5 ?_ (λH=>?_) ?_
  rotate_left
  ·refine Gn H ?_;refine On H (Ac aG rfl rfl (Nt _)) ?_
   iterate 3 refine Gn H ?_
   exact Ez
  refine G ?_;refine Ab rfl ?_ ?_<;>intro L
  ·obtain⟨p,hp,ai⟩:∃p,dC g x=some p/\p.sort=s.1:=by
    cases hh:dC g x with
    |none=>rw[hh]at L;simp at L
    |some p=>rw[hh]at L;exact⟨p,rfl,(by simp[kM]at L;grind)⟩
   have ag:x.2.1<=30000000:=bD (bD m.2.1 W9) (bD (IA m.1) hb)
   have a9:s.2.2<b.sets.length:=by omega
   have bn:(b.set s.2.2).length<=30000000:=bD ((u.set (j:=s.2.2)).bound (n:=n) z) hb
   have eS:Fc g s x b=b.add s.2.2 (i' x):=by unfold Fc;grind
   have i:=Tq (x:=x) u hs m
   have dt:fP g s (Cu g n+1-(c+1)) (c+1) (Fc g s x b)=fP g s (Cu g n+1) 0 S:=by
    rw[<-f,show Cu g n+1-c=(Cu g n+1-(c+1))+1 by omega]
    simp only[fP,cd,hx]
   have C:c+1<=((Fc g s x b).set s.2.1).length:=by
    have:=Yd (g:=g) (s:=s) (x:=x) (S:=b) (k:=s.2.1)
    grind
   refine G4 ?_
   refine A (Bp Ii rfl rfl zD rfl) ?_
   refine G ?_
   refine A (Bp Ii rfl rfl zD rfl) ?_
   refine G2 ?_
   refine A (Bp Ii rfl rfl zD rfl) ?_
   refine G ?_;refine A (G0 zx Ii rfl rfl) (Az rfl rfl rfl rfl (show Al M 187 [.pr X.c 0,nV s.2.2,jD (i' x)] t _ from P.c▸lD w (i' x) a9 bn) ?_)
   rintro u1 J1 ⟨af,hZ,a7⟩;refine G6 ?_;refine⟨(c+1,Fc g s x b),Z,SL,af,Z,P.trans a7,i.1.ok,i.1.len.trans o,C,Z,dt⟩
  ·have eS:Fc g s x b=b:=by
    unfold Fc;cases hh:dC g x with
    |none=>rfl
    |some p=>rw[hh]at L;exact if_neg (by simp[kM]at L;grind)
   have i:=Tq (x:=x) u hs m
   have dt:fP g s (Cu g n+1-(c+1)) (c+1) (Fc g s x b)=fP g s (Cu g n+1) 0 S:=by
    rw[<-f,show Cu g n+1-c=(Cu g n+1-(c+1))+1 by omega]
    simp only[fP,cd,hx]
   have C:c+1<=((Fc g s x b).set s.2.1).length:=Z;refine G6 ?_;refine⟨(c+1,Fc g s x b),Z,SL,d,Z,P,i.1.ok,i.1.len.trans o,C,Z,dt⟩
 ·have bj:l.length<=c:=Z
  have ma:b=fP g s (Cu g n+1) 0 S:=by
   rw[<-f,show Cu g n+1-c=(Cu g n-c)+1 by omega]
   simp only[fP,cd,List.getElem?_eq_none_iff.2 bj]
  refine Bo λK=>?_
  refine G ?_;exact⟨[],rfl,_,_,a_ K Y zN,P.n,.same rfl,d,Z,P⟩
section
variable {g:Gr}{text:List aH}{N:Nat}{X:Cp}{S:Ch}{J:F}
def Cp.more(X:Cp)(a m b:Nat):Cp:={ X with vS:=.sr a 0 1 (X.vals.length+1) none,vI:=.sr b 0 1 (X.ms.length+1) none,vals:=X.vals++[nS],ms:=X.ms++[m] }
theorem Cp.loc_more{a m b}(t){c}(h:(X.more a m b).loc t=some c):(t=.s/\c=a)\/(t=.i/\c=b)\/(t=.m X.ms.length/\c=m)\/(t≠.s/\t≠.i/\t≠.m X.ms.length/\X.loc t=some c):=by
 cases t with
 |s=>cases h;exact .inl ⟨rfl,rfl⟩
 |i=>cases h;exact .inr (.inl ⟨rfl,rfl⟩)
 |c=>exact .inr (.inr (.inr ⟨by simp,by simp,by simp,h⟩))
 |d=>exact .inr (.inr (.inr ⟨by simp,by simp,by simp,h⟩))
 |v j=>
  refine .inr (.inr (.inr ⟨by simp,by simp,by simp,?_⟩))
  have h:((X.vals++[nS])[j]?).bind bm=some c:=h
  show(X.vals[j]?).bind bm=some c
  rw[List.getElem?_append]at h
  split at h
  ·exact h
  ·rename_i f
   by_cases e:j-X.vals.length=0
   ·rw[e]at h;cases h
   ·rw[List.getElem?_eq_none_iff.2 (by simp;omega)]at h;cases h
 |m j=>
  have h:(X.ms++[m])[j]? =some c:=h;rw[List.getElem?_append]at h
  split at h
  ·rename_i f
   exact .inr (.inr (.inr ⟨by simp,by simp,λe=>by have:=Tg.m.inj e;omega,h⟩))
  ·rename_i f
   by_cases e:j-X.ms.length=0
   ·rw[e]at h;cases h
    exact .inr (.inr (.inl ⟨by rw[show j=X.ms.length by omega],rfl⟩))
   ·rw[List.getElem?_eq_none_iff.2 (by simp;omega)]at h;cases h
abbrev y9:=@Cp.loc_more
theorem cM.openS(h:cM g text N X S J){m b U}(K:O J<m)(Q:m<b)(p:b<O U)
  (P:U.get X.c=some (.cells ((X.more (O J) m b).cells g text)))
  (C:aW U N eV 1 (X.vals++[nS]) (.sr (O J) 0 1 (X.vals.length+1) none))(v:aW U N uR 1 (X.ms++[m]) (.sr b 0 1 (X.ms.length+1) none))(f:eW 351 bE U m ([]:GM Ik Bool))
  (B:∀c,c<O J->c≠X.c->bm X.vS≠some c->bm X.vI≠some c->U.get c=J.get c):cM g text N (X.more (O J) m b) S.open' U/\Lk X J (X.more (O J) m b) U:=by
 have o:∀t a,X.loc t=some a->t≠.c->t≠.s->t≠.i->U.get a=J.get a:=λt a j G L R=>
  B a (h.lo t a j).2 (λe=>G (h.inj t .c a j (by rw[e];rfl))) (λe=>L (h.inj t .s a j e)) (λe=>R (h.inj t .i a j e))
 have T:=h.lo .c _ rfl
 refine⟨⟨λt u a j d=>?_,λt a j=>?_,P,?_,?_,?_,?_,λk l u i d=>?_,λk l u i d=>?_,h.done.of_get (o .d _ rfl zS zS zS)⟩,⟨rfl,rfl,rfl,by omega,λt a j=>?_,λc P w=>B c P (λe=>w .c (by rw[e];rfl)) (w .s) (w .i)⟩⟩
 ·rcases y9 t j with⟨rfl,rfl⟩|⟨rfl,rfl⟩|⟨rfl,rfl⟩|⟨_,_,_,q⟩<;>rcases y9 u d with⟨rfl,e⟩|⟨rfl,e⟩|⟨rfl,e⟩|⟨_,_,_,y⟩
  all_goals first|rfl|(exfalso;omega)|(have:=(h.lo _ _ y).2;exfalso;omega)|(have:=(h.lo _ _ q).2;exfalso;omega)|exact h.inj t u a q y
 ·rcases y9 t j with⟨_,rfl⟩|⟨_,rfl⟩|⟨_,rfl⟩|⟨_,_,_,q⟩
  ·omega
  ·omega
  ·omega
  ·have:=h.lo t a q;omega
 ·have e:(X.more (O J) m b).vS=.sr (O J) 0 1 (X.vals.length+1) none:=rfl;rw[e];exact C
 ·have e:(X.more (O J) m b).vI=.sr b 0 1 (X.ms.length+1) none:=rfl;rw[e];exact v
 ·show(X.vals++[_]).length=(S.sets++[[]]).length
  simp[h.lv]
 ·show(X.ms++[_]).length=(S.sets++[[]]).length
  simp[h.lm]
 ·have i:(S.sets++[[]])[k]? =some l:=i;have d:(X.vals++[nS])[k]? =some u:=d;rw[List.getElem?_append]at i d;rw[h.lv]at d
  split at i
  ·rename_i n
   rw[if_pos n]at d
   have s:∀a,bm u=some a->X.loc (.v k)=some a:=λa r=>by show(X.vals[k]?).bind bm=_;rw[d];exact r
   exact(h.vals k l u i d).of_get z λa r=>o (.v k) a (s a r) zS zS zS
  ·rename_i n
   rw[if_neg n]at d
   by_cases e:k-S.sets.length=0
   ·rw[e]at i d;cases i;cases d;exact .nil
   ·rw[List.getElem?_eq_none_iff.2 (by simp;omega)]at i;cases i
 ·have i:(S.sets++[[]])[k]? =some l:=i;have d:(X.ms++[m])[k]? =some u:=d;rw[List.getElem?_append]at i d;rw[h.lm]at d
  split at i
  ·rename_i n
   rw[if_pos n]at d
   exact(h.mps k l u i d).of_get (o (.m k) u d zS zS zS)
  ·rename_i n
   rw[if_neg n]at d
   by_cases e:k-S.sets.length=0
   ·rw[e]at i d;cases i;cases d
    exact⟨[],f,λx=>⟨λE=>(by cases E),λ_=>rfl⟩⟩
   ·rw[List.getElem?_eq_none_iff.2 (by simp;omega)]at i;cases i
 ·rcases y9 t j with⟨_,rfl⟩|⟨_,rfl⟩|⟨_,rfl⟩|⟨_,_,_,q⟩
  ·exact .inr Y
  ·exact .inr z
  ·exact .inr z
  ·exact .inl ⟨t,q⟩
end
end Go.AM

