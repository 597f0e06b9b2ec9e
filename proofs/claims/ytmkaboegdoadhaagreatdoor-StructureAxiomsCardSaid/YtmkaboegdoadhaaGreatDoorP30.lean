/- A part of the proof; shortened by program. -/
import Derived.Test.YtmkaboegdoadhaaGreatDoorP29
set_option maxRecDepth 100000
set_option maxHeartbeats 4000000
set_option linter.all false
namespace Go.AM
open Go Go.Proofs
open Classical in
noncomputable def Vy:List (Nat×List I×I)->bP
 |[],_,_,_=>none
 |(f,a,v)::r,.fn f',a',J=>if f'=f/\a'=a then some (v,J)else Vy r (.fn f') a' J
 |_::_,.yl _,_,_=>none
def HP(E:aZ):List (Nat×List I×I)->Prop
 |[]=>True
 |(f,a,v)::r=>(∀J,Al E f a J (λu U=>u=v/\U=J))/\HP E r
theorem SO{a}:∀(l:List (Nat×List I×I)) (x:List I) (J:F),Vy l (.yl a) x J=none
 |[],_,_=>rfl
 |_::_,_,_=>rfl
theorem An4{E d}:∀{l:List (Nat×List I×I)},HP E l->BU E d (Vy l (.fn d))
 |[],_=>λC w J b k v g j H i h=>by cases h
 |(f,a,v)::r,m=>λC w J b k u g j H i h=>by
  simp only[Vy]at h
  split at h
  ·rename_i c
   obtain⟨rfl,rfl⟩:=c;cases h;obtain⟨o,p⟩:=m.1 J C w k j H i;refine⟨o,p.mono λe y c=>?_⟩
   cases e with
   |returned x=>obtain⟨v,g,n,⟨rfl,rfl⟩,q,s,t⟩:=c;exact⟨n,q,s,t⟩
   |panicked _=>exact c.elim
   |outgrown=>exact c.elim
  ·exact An4 m.2 C w J b k u g j H i h
theorem Afx{d}:∀(l:List (Nat×List I×I)) (b:List I),Fk (Vy l (.fn d) b)
 |[],_,_,_,_,h=>by cases h
 |(f,a,v)::r,b,J,c,u,h=>by
  simp only[Vy]at h⊢
  split at h
  ·grind
  ·rename_i i
   obtain⟨e,g⟩:=Afx r b J c u h
   grind
theorem HZ{E l}(X:HP E l):Bk E (Vy l):=
 ⟨λ_=>An4 X,λa C w J b g v c e H d h=>(by rw[SO]at h;cases h),λf _ b=>Afx l b⟩
theorem EO{f a v s r}:Vy ((f,a,v)::r) (.fn f) a s=some (v,s):=by
 simp only[Vy,and_self,if_true]
theorem CV{E d J l f a}{b:Array Nat}{k:Nat}{first y e v q}(N:Ah E d f=some (.fn (.func k) first y))(c:Kc E d a.toList=some e)
  (w:Vy l (.fn k) (first++e++y) J=some (v,q)):As E (Vy l) (.call ⟨.value f,a,b⟩) d J v q:=QW N c rfl w
def YM(k:Kn):Prop:=∀s,k.isSym s=true->L8 s=true
theorem An8{k}(X:YM k){l}(h:k.textF l=0):∀s∈l,L8 s=true:=by
 unfold Kn.textF at h
 split at h
 ·cases h
 ·split at h
  ·cases h
  ·rename_i d c
   simp only[eO,eQ,not_or,Bool.not_eq_false]at c;cases l with
   |nil=>intro s b;cases b
   |cons a r=>
    intro s b
    rcases bN.1 b with rfl|b
    ·exact X _ (by have:=c.1;unfold Kn.isSym;grind)
    ·have:=rO.1 (Bool.not_eq_true _▸c.2) s b;exact X _ Z
theorem Atj{s}(h:L8 s=true):s.length<=140737488355328/\(32:UInt8)∉s:=by
 unfold L8 Mq at h;simp only[bg,eQ,iT,decide_eq_false_iff_not,ep]at h;refine⟨Z,λa=>?_⟩
 have:=b_.1 h.2 _ a
 exact absurd (show mA [2,3] 32=true from this) (by rw[show mA [2,3] 32=false from by kernel_rfl];decide)
theorem Ac1{d}(j:W6 d 25 100=true):nE d/\d.vars.length+d.frames.length<1000000/\∀f∈d.frames,f.text.length<=60/\f.apart.length<=200/\∀h∈f.hyps,h.text.length<=60:=by
 unfold W6 at j;simp only[bg,decide_eq_true_eq,ep,eQ]at j;obtain⟨⟨⟨i,k⟩,l⟩,e⟩:=j
 have b:∀f∈d.frames,f.text.length<=60/\f.apart.length<=200/\qZ f/\∀h∈f.hyps,h.text.length<=60:=λf a=>by
  have a:=rO.1 e f a;simp only[ku,eO,decide_eq_true_eq,ep,e_,not_or,not_exists,not_and]at a;obtain⟨⟨⟨⟨⟨⟨⟨⟨m,n⟩,o⟩,p⟩,q⟩,r⟩,s⟩,t⟩,u⟩:=a
  have g:∀h,X9 h=false->h.text.length<=60:=λh c=>by
   unfold X9 at c
   grind
  refine⟨by omega,by omega,⟨by omega,by unfold Fr.all;simp;omega,by omega,λh c=>?_,by omega,by omega⟩,λh c=>g h Z⟩
  have:X9 h=false:=by
   rcases dW.1 (show h∈f.hyps++f.dummies by simpa[Fr.all]using c)with c|c
   ·grind
   grind
  grind
 exact⟨⟨λf a=>(b f a).2.2.1,by omega,by omega,by omega⟩,by omega,λf a=>⟨(b f a).1,(b f a).2.1,(b f a).2.2.2⟩⟩
def sX(f:I->I->Bool):List I->List I->Bool
 |[],[]=>true
 |x::r,y::s=>f x y&&sX f r s
 |_,_=>false
theorem Ahr{J U f}(N:∀a b,f a b=true->Fz J U a b):∀(l m:List I),sX f l m=true->cH J U l m
 |[],[],_=>.nil
 |x::r,y::s,h=>by
  simp only[sX,bg]at h;exact .cons (N x y h.1) (Ahr N r s h.2)
 |[],_::_,h=>by cases h
 |_::_,[],h=>by cases h
theorem Zb{l}(h:l.Pairwise λx y=>decide (x<=y)=true):Ei l=l:=List.mergeSort_of_pairwise h
theorem Akh{g}:∀{l:List Rl} {m:SM Bool},(∀r∈l,Hr g r=true)->(l.foldr (λr (k:SM Bool->Bool) m=> !m.has r.label&&k (m.put r.label true)) (λ_=>true)) m=true->Pe g l m=false
 |[],_,_,_=>rfl
 |r::l,m,h,a=>by
  simp only[List.foldr_cons,bg,eQ]at a;unfold Pe
  rw[h r zS,a.1,Akh (λx b=>h x (ch _ b)) a.2];rfl
def Lm:Ax:=.node [119,112,104] []
def PD:Ax:=.node [119,112,115] []
def UM:Ax:=.node [119,105] [.node [119,110] [Lm],PD]
def t5:Ax:=.node [119,98] [.node [119,111] [Lm,PD],UM]
def zFr:Fr:=⟨[],false,[],[],[],[],[],[]⟩
theorem f40(l m J)(Q:m.length<4611686018427387904):Cv 40 [aD cK 1 l,aD cK 1 m] J (.bool (decide (l=m))):=by
 refine Aj Tryz.func40 rfl rfl λf o=>?_
 iterate 13 refine G ?_
 refine Ab rfl ?_ ?_<;>intro r
 ·refine G5 ?_;refine B4 f rfl ?_;exact congrArg I.bool (decide_eq_false Z).symm
 ·have q:l.length=m.length:=Z;refine G9 ?_;refine Bz l.length (λa=>[(0,aD cK 1 l),(1,aD cK 1 m),(12,D (.ofNat l.length)),(13,D (.ofNat a))]) (λa g=>g=J/\l.take a=m.take a) SL ⟨rfl,rfl⟩ ?_
  rintro a g n ⟨rfl,e⟩;refine G5 ?_;refine Ab rfl ?_ ?_<;>intro s
  ·have h:a<l.length:=Z;obtain⟨i,c⟩:=Ar h;have k:=A4 c
   obtain⟨b,d⟩:=Ar (show a<m.length by omega)
   refine G9 ?_;refine X0 ?_;refine cD ?_;refine⟨rfl,rfl,?_⟩;refine Ab rfl ?_ ?_<;>intro t
   ·refine G5 ?_;refine B4 f rfl ?_;exact congrArg I.bool (decide_eq_false Z).symm
   ·refine G5 ?_
    refine⟨h,SL,rfl,(have j:i=b:=Z;by rw[Fw c,Fw d,e,j])⟩
  ·have p:l.length<=a:=Z;refine G6 ?_;refine B4 f rfl ?_;exact congrArg I.bool (decide_eq_true Z).symm
def fzC:Nat->I->I->Bool
 |0,_,_=>false
 |n+1,.sv l g e _,.sv c f d none=>Nat.beq g f&&Nat.beq e d&&sX (fzC n) l c
 |n+1,.agg l,.agg c=>sX (fzC n) l c
 |n+1,.tup l,.tup c=>sX (fzC n) l c
 |_+1,.nil (.slice none 0 0),.sv [] _ 0 none=>true
 |_+1,a,b=>I.beq a b&&I.und 0 b
theorem Ahs{J U}:∀(n:Nat) (a b:I),fzC n a b=true->Fz J U a b
 |0,_,_,h=>by unfold fzC at h;cases h
 |n+1,a,b,h=>by
  unfold fzC at h
  split at h
  ·cases h
  ·simp only[bg]at h;obtain⟨⟨c,d⟩,e⟩:=h;have c:=bK c;have d:=bK d;subst c d;exact .sv Z (Ahr (λa b=>Ahs _ a b) _ _ e)
  ·exact .agg (Ahr (λa b=>Ahs _ a b) _ _ h)
  ·exact .tup (Ahr (λa b=>Ahs _ a b) _ _ h)
  ·exact .nils Z
  ·simp only[bg]at h;have:=I.beq_eq _ _ h.1;subst this;exact .same (I.und_mono (bU _) _ h.2)
theorem ν{E e B l f J c K G r}{o m:Oper}{d v U}{j y:Nat}{b n}(h:As E (λ_ _ _=>none) o.op f J v c)(i:Wk v U)(k:TO E e l B G r K ((d,U)::f) c)
  (q:o.dst=some d:=by exact rfl)(H:o.guard=some (j,n):=by exact rfl)(p:G[j]? =some m:=by exact rfl)(t:m.dst=some y:=by exact rfl)(Q:Ad.at f y=some (.bool b):=by exact rfl)(a:cond b n (!n)=true:=by exact rfl)(S:Ga o.op=true:=by exact rfl)(g:B0 e o.dst=true:=by exact rfl):TO E e l B G (o::r) K f J:=
 Bi H p t Q a bT S g h (by rw[q];exact OT i k)
def C0:aO:=⟨λ_=>none,λ_=>0,λ_=>False,λ_=>none⟩
theorem BG(b):¬C0.own b:=λc=>c.elim (λh=>h) λ⟨a,o,h⟩=>by cases h
theorem IE(w):aX Tryz.prog C0 w ⟨.e,0⟩:=
 ⟨λa e H=>(by simp[F.get,Tr.get]at H),λa e H=>(by simp[F.get,Tr.get]at H),λa p g=>(by cases g),λa b c o h d=>(by cases d),λa c o d=>(by cases d),λb f=>False.elim f,λa c o d=>(by cases d)⟩
theorem XZ{f J i w}(h:Al M f J ⟨.e,0⟩ λv j=>v=.bool true/\j=⟨.e,0⟩)(H:Iw C0 0 w M)(c:RL C0 0 w J i.toList):
  Calls Tryz.prog f i w λe a=>e=.returned (.bool true)/\w.heap.size<=a.heap.size/\(∀b,b<w.heap.size->a.heap[b]? =w.heap[b]?)/\a.os=w.os/\a.output=w.output:=by
 refine(h C0 w i (IE w) H c).2.mono λe a d=>?_
 cases e with
 |returned x=>
  obtain⟨v,j,m,⟨rfl,rfl⟩,n,g,k⟩:=d;unfold R at k;subst k;exact⟨rfl,g.size,λb l=>(g.keep b l (BG b)).2,g.os⟩
 |panicked _=>exact d.elim
 |outgrown=>exact d.elim
end Go.AM

