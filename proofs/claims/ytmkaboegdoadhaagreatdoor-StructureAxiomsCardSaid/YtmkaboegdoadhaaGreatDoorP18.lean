/- A part of the proof; shortened by program. -/
import Derived.Test.YtmkaboegdoadhaaGreatDoorP17
set_option maxRecDepth 100000
set_option maxHeartbeats 4000000
set_option linter.all false
namespace Go.AM
open Go Go.Proofs
theorem Qu{C:Type}[BEq C][LawfulBEq C]:∀{L V:List C},L.Nodup->(∀x∈L,x∈V)->V.length<=L.length->∀x∈V,x∈L
 |[],V,_,_,h,x,f=>Z
 |a::L,V,e,b,h,x,f=>by
  have j:a∈V:=b a (cX ..);obtain⟨i,c⟩:=nT.1 e;have d:(V.erase a).length<=L.length:=Z;have k:=Qu (V:=V.erase a) c (λy g=>(List.mem_erase_of_ne Z).2 (b y (ch _ g))) d
  grind
theorem WS{k U l h P}(a:Vg k U l h P=0)(N:h.floating=true):k.vars.has (bS h)=true/\l.get (bS h)=none:=by
 unfold Vg at a
 split at a
 ·cases a
 ·split at a
  ·cases a
  ·split at a
   ·cases a
   ·rename_i b
    split at a
    ·cases a
    ·split at a
     ·cases a
     ·rename_i c
      simp only[eO,eQ,not_or,Bool.not_eq_false]at b
      exact⟨b.2,by simpa[bS]using c⟩
abbrev flt(l:List Hp):List aH:=(l.filter (·.floating)).map bS
theorem Ai6{k n}:∀{l:List Hp} {i:Nat} {f:SM Bool} {g:SM aH},(Jd k n l i f g).1=0->
  (∀h∈l,h.floating=true->(∃a b,h.text=[a,b])/\k.vars.has (bS h)=true/\g.get (bS h)=none)/\(flt l).Nodup
 |[],_,_,_,_=>⟨λ_ h=>(by cases h),kQ⟩
 |h::r,i,f,g,m=>by
  unfold Jd at m
  split at m
  ·grind
  ·rename_i w
   have p:Vg k f g h (decide (Int.ofNat n<=Int.ofNat i))=0:=Z;obtain⟨d,q⟩:=Ai6 m;cases j:h.floating with
   |false=>
    rw[j]at d;refine⟨λx o c=>?_,?_⟩
    ·grind
    ·grind
   |true=>
    rw[j]at d;obtain⟨t,u⟩:=WS p j;have v:=KX p j
    have s:∀x∈r,x.floating=true->bS x≠bS h/\g.get (bS x)=none:=λx o c=>by
     have:=(d x o c).2.2;rw[if_pos rfl,dP]at this
     split at this
     ·cases this
     ·rename_i e;exact⟨e,this⟩
    refine⟨λx o c=>?_,?_⟩
    ·grind
    ·grind
theorem IR{b k f a}(h:E9 b k f a=0):(Jd (k.fr f.label) f.hyps.length f.all 0 [] []).1=0:=by
 unfold E9 at h
 grind
theorem To{i}:∀{e:List Fr} {k:Kn} {d:List Hp},I3 i e k d=0->∀f∈e,∃c a,c.vars=k.vars/\E9 i c f a=0
 |[],_,_,_,f,b=>by cases b
 |g::r,k,d,h,f,b=>by
  unfold I3 at h
  split at h
  ·grind
  ·rename_i m
   rcases bN.1 b with rfl|b
   ·grind
   ·obtain⟨c,a,j,l⟩:=To h f b;exact⟨c,a,j,l⟩
theorem W8:∀(l:List aH) (k:Kn),(Qp l k).2.vars=k.vars
 |[],_=>rfl
 |c::r,k=>by unfold Qp;cases L8 c<;>cases k.consts.has c<;>simp[W8 r]
theorem Afc:∀(l:List aH) (k:Kn) (v:aH),(Sf l k).2.vars.has v=true->v∈l\/k.vars.has v=true
 |[],_,v,h=>.inr h
 |c::r,k,v,h=>by
  unfold Sf at h;cases b:L8 c with
  |false=>rw[b]at h;exact .inr h
  |true=>
   rw[b]at h;cases a:k.isSym c with
   |true=>rw[a]at h;exact .inr h
   |false=>
    rw[a]at h
    rcases Afc r _ v h with h|h
    ·grind
    ·have h:(k.vars.put c true).has v=true:=h;rw[nD]at h
     grind
theorem Xi{d v}(h:(K8 d iJ).2.vars.has v=true):v∈d.vars:=by
 unfold K8 at h
 split at h
 ·rcases Afc _ _ _ h with h|h
  ·exact h
  ·rw[W8]at h;cases h
 ·rw[W8]at h;cases h
theorem rJ{a d}(h:Fy a d=0):I3 a d.frames (K8 d iJ).2 []=0:=by
 unfold Fy at h
 grind
theorem Vh{o d}(h:Fy o d=0){f}(N:f∈d.frames):(∀h∈f.all,h.floating=true->(∃a b,h.text=[a,b])/\bS h∈d.vars)/\(flt f.all).Nodup:=by
 obtain⟨p,i,l,m⟩:=To (rJ h) f N;obtain⟨j,k⟩:=Ai6 (IR m);refine⟨λx n c=>?_,k⟩
 obtain⟨e,g,_⟩:=j x n c
 exact⟨e,Xi (by rw[<-l];exact g)⟩
theorem Vi(l):bX l=l.filter (·.floating):=by
 unfold bX Eo Vd
 grind
theorem FO(f:Fr):flt f.all=(bX f.hyps++bX f.dummies).map bS:=by
 rw[Vi,Vi];simp[flt,Fr.all]
def Qv(s:fR):Prop:=∀v h,s.1.get v=some h->bS h=v/\∃a b,h.text=[a,b]
theorem Vx{i p h s c}(e:jV i p h s=some c)(r:∃a b,h.text=[a,b])(j:Qv s):
  Qv c/\(∀v,(s.1.get v).isSome=true->(c.1.get v).isSome=true)/\(i=0->(c.1.get (bS h)).isSome=true):=by
 have f:Qv (Pi i h s)/\(∀v,(s.1.get v).isSome=true->((Pi i h s).1.get v).isSome=true)/\(i=0->((Pi i h s).1.get (bS h)).isSome=true):=by
  unfold Pi
  split
  ·refine⟨λv x d=>?_,λv g=>?_,λ_=>?_⟩
   ·simp only[dP]at d
    split at d
    ·grind
    ·exact j v x d
   ·simp only[dP];split<;>first|rfl|exact g
   ·simp[dP]
  grind
 unfold jV at e
 split at e
 ·cases e
 ·split at e
  ·cases e;exact f
  ·cases e
theorem Ane{i u}:∀{l:List Hp} {n:Nat} {s c:fR},Yw i u l n s=some c->(∀h∈l,∃a b,h.text=[a,b])->Qv s->
  Qv c/\(∀v,(s.1.get v).isSome=true->(c.1.get v).isSome=true)/\(i=0->∀h∈l,(c.1.get (bS h)).isSome=true)
 |[],_,s,c,e,_,f=>by cases e;grind
 |h::r,n,s,c,e,d,f=>by
  unfold Yw at e
  split at e
  ·cases e
  ·rename_i w j
   obtain⟨g,m,o⟩:=Vx j (d h (cX ..)) f;obtain⟨p,q,t⟩:=Ane e (λx k=>d x (ch _ k)) g
   grind
theorem Ai8{i}:∀{d:List (List Hp)} {s c:fR},Pb i d s=some c->(∀l∈d,∀h∈l,∃a b,h.text=[a,b])->Qv s->
  Qv c/\(∀v,(s.1.get v).isSome=true->(c.1.get v).isSome=true)/\(i=0->∀l∈d,∀h∈l,(c.1.get (bS h)).isSome=true)
 |[],s,c,e,_,g=>by cases e;grind
 |l::r,s,c,e,f,g=>by
  unfold Pb at e
  split at e
  ·cases e
  ·rename_i u k
   obtain⟨j,n,o⟩:=Ane k (f l (cX ..)) g;obtain⟨p,q,t⟩:=Ai8 e (λx m=>f x (ch _ m)) j
   grind
theorem Anf{d}:∀{g:List Fr} {i:Nat} {s c:fR},Ow d g i s=some c->(∀f∈g,∀h∈f.all,h.floating=true->∃a b,h.text=[a,b])->Qv s->
  Qv c/\(∀v,(s.1.get v).isSome=true->(c.1.get v).isSome=true)/\(i=0->∀f r,g=f::r->vL d f=false/\∀h,h∈bX f.hyps++bX f.dummies->(c.1.get (bS h)).isSome=true)
 |[],_,s,c,e,_,n=>by cases e;grind
 |f::r,i,s,c,e,j,n=>by
  unfold Ow at e
  split at e
  ·cases e
  ·rename_i C
   split at e
   ·cases e
   ·rename_i E p
    have q:∀l∈[bX f.hyps,bX f.dummies],∀h∈l,∃a b,h.text=[a,b]:=λl m h k=>by
     simp only[bN,mW,or_false]at m
     rcases m with rfl|rfl<;>rw[Vi]at k<;>(have:=gS.1 k;exact j f (cX ..) h (by simp[Fr.all,this.1]) Z)
    obtain⟨o,u,w⟩:=Ai8 p q n;obtain⟨y,B,_⟩:=Anf e (λx t=>j x (ch _ t)) o
    grind
theorem CK{t d}(P:Fy t d=0)(S:d.frames≠[]){s}(j:Ow d d.frames 0 ([],[])=some s):Qv s/\∀v∈d.vars,(s.1.get v).isSome=true:=by
 obtain⟨k,_,l⟩:=Anf j (λf c h a e=>((Vh P c).1 h a e).1) (λv h g=>by cases g)
 refine⟨k,λv g=>?_⟩
 cases b:d.frames with
 |nil=>exact absurd b S
 |cons f r=>
  obtain⟨m,n⟩:=l rfl f r b;have c:f∈d.frames:=Z;obtain⟨u,i⟩:=Vh P c;rw[FO]at i
  have o:d.vars.length<=((bX f.hyps++bX f.dummies).map bS).length:=by
   unfold vL at m
   grind
  have p:∀x∈(bX f.hyps++bX f.dummies).map bS,x∈d.vars:=λx q=>by
   obtain⟨h,a,rfl⟩:=dO.1 q
   have w:h∈f.all/\h.floating=true:=by
    rw[Vi,Vi]at a
    rcases dW.1 a with a|a<;>(have:=gS.1 a;exact⟨by simp[Fr.all,this.1],Z⟩)
   grind
  obtain⟨h,a,rfl⟩:=dO.1 (Qu i p o v g);exact n h a
theorem Ang{R s}(j:Qv s):∀{n:Nat} {done:SM Bool} {c l:List Hp},W7 R s n done c=some l->(c.map bS).Nodup->(∀x∈c.map bS,x∈R/\done.has x=true)->(∀h∈c,∃a b,h.text=[a,b])->
  l.length=c.length+n/\(l.map bS).Nodup/\(∀x∈l.map bS,x∈R)/\∀h∈l,∃a b,h.text=[a,b]
 |0,done,c,l,e,f,g,i=>by cases e;grind
 |n+1,done,c,l,e,f,g,i=>by
  unfold W7 at e
  split at e
  ·cases e
  ·rename_i v d
   split at e
   ·cases e
   ·rename_i h k
    obtain⟨q,r⟩:=j v h k;have t:v∈R:=List.mem_of_find?_eq_some d;have o:=List.find?_some d
    have m:done.has v=false:=by
     unfold mY at o
     grind
    obtain⟨u,w,y,B⟩:=Ang j e Z
     (λx p=>by
      rw[iG,dW]at p;rw[nD]
      grind)
     Z
    grind
theorem VJ{n d}(P:Fy n d=0){l}(h:Fa d=some l):(∀h∈l,∃a b,h.text=[a,b])/\∀v∈d.vars,∃h∈l,bS h=v:=by
 unfold Fa at h
 split at h
 ·grind
 ·rename_i f
  split at h
  ·cases h
  ·rename_i s g
   obtain⟨c,o⟩:=CK P (λe=>f (by rw[e];rfl)) g
   obtain⟨q,j,k,m⟩:=Ang c h kQ Z Z;refine⟨m,λv i=>?_⟩
   obtain⟨x,p,e⟩:=dO.1 (Qu j k Z v i)
   grind
theorem xA:∀s J,Cv 218 [sV s] J (.bool (!Fb s)):=EJ
theorem R7{d}(h:Fy Fb d=0):(∀f∈d.frames,∀h∈f.all,h.floating=true->∃a b,h.text=[a,b])/\(d.frames.length≠0->∀s,Ow d d.frames 0 ([],[])=some s->∀v∈d.vars,(s.1.get v).isSome=true):=
 ⟨λf g x l c=>((Vh h g).1 x l c).1,λi s j v k=>(CK h (λe=>i (by rw[e];rfl)) j).2 v k⟩
def Ea(d:Db):Int:=if Fy Fb d=0 then(if(Fa d).isSome=true then 0 else 13)else Fy Fb d
def Bt(d:Db):List Hp:=if Fy Fb d=0 then(Fa d).getD []else[]
def tD(s:aH):Bool:= !decide (s=[])&&decide (Int.ofNat s.length<=60)
def yt(J:List aH)(p:Pt):Bool:=if p.sort=[]then(tD p.symbol&&decide (p.arg=0))else(decide (p.symbol=[])&&decide (p.sort∈J))
theorem pH(s J):Cv 149 [sV s] J (.bool (tD s)):=by
 refine Aj Tryz.func149 rfl rfl λb a=>?_
 refine G7 ?_;refine A (Ko (q:=[]) aV rfl rfl) ?_;refine G ?_;refine fZ 3 ?_ (λH=>?_) ?_
 rotate_left
 ·iterate 2 refine Gn H ?_
  refine On H (Hn (q:=60) aV rfl rfl) ?_;exact Ez
 refine G3 ?_;refine B4 b rfl ?_;exact rfl
theorem DG(d J)(i:nE d):Cv 114 [fy d] J (.tup [aD eH 3 (Bt d),D (Ea d)]):=by
 refine Aj Tryz.func114 rfl rfl λg k=>?_
 refine cD ?_;refine Ca (F3 Fb xA d J i) ?_;refine G7 ?_;refine Ab rfl ?_ ?_<;>intro e
 ·refine G6 ?_
  have b:Ea d=Fy Fb d:=if_neg (by simpa using e)
  have c:Bt d=[]:=if_neg (by simpa using e)
  refine G ?_
  exact⟨_,rfl,.tup [aD eH 3 (Bt d),D (Ea d)],J,a_ g Y zN,Y,by rw[b,c];exact .tup (.cons Ex (.cons (.same rfl) .nil)),rfl,rfl⟩
 ·have a:Fy Fb d=0:=by simpa using e
  refine G4 ?_;refine Ca (EQ d J i (R7 a).1 (R7 a).2) ?_;refine cG ?_;refine Ab rfl ?_ ?_<;>intro f
  ·refine G5 ?_
   have b:Ea d=13:=by unfold Ea;rw[if_pos a,if_neg (by simpa using f)]
   have c:Bt d=[]:=by unfold Bt;rw[if_pos a];have h:(Fa d).isSome=false:=(by simpa using f);cases j:Fa d with|none=>rfl|some x=>rw[j]at h;cases h
   refine G ?_
   exact⟨_,rfl,.tup [aD eH 3 (Bt d),D (Ea d)],J,a_ g Y zN,Y,by rw[b,c];exact .tup (.cons Ex (.cons (.same rfl) .nil)),rfl,rfl⟩
  ·refine G7 ?_
   have b:Ea d=0:=by unfold Ea;rw[if_pos a,if_pos (by simpa using f)]
   have c:Bt d=(Fa d).getD []:=by unfold Bt;rw[if_pos a]
   refine G ?_
   exact⟨_,rfl,.tup [aD eH 3 (Bt d),D (Ea d)],J,a_ g Y zN,Y,by rw[b,c];exact .tup (.cons (.same (Δ _)) (.cons (.same rfl) .nil)),rfl,rfl⟩
theorem Aux(s)(l:List aH):(l.any λx=>decide (s=x))=decide (s∈l):=by
 rw[zY];simp[e_]
theorem CQ(p g J)(Q:g.sorts.length<1000000):Cv 184 [.agg (cL p),gY g] J (.bool (yt g.sorts p)):=by
 refine Aj Tryz.func184 rfl rfl λb c=>?_
 iterate 13 refine G ?_
 refine Ab rfl ?_ ?_<;>intro a
 ·refine G4 ?_;refine Ca (pH p.symbol _) ?_;refine G ?_;refine fZ 3 ?_ (λH=>?_) ?_
  rotate_left
  ·iterate 3 refine Gn H ?_
   exact Ez
  refine G3 ?_;refine B4 b rfl ?_
  exact congrArg I.bool (by have h:p.sort=[]:=(by simpa using a);exact(if_pos h).symm)
 ·refine G7 ?_;refine fZ 5 ?_ (λH=>?_) ?_
  rotate_left
  ·iterate 4 refine Gn H ?_
   refine Bh rfl rfl rfl (by rw[H];rfl) rfl rfl rfl rfl (pQ g.sorts p.sort J z) ?_
   exact Ez
  refine G3 ?_;refine B4 b rfl ?_
  exact congrArg I.bool (by have h:¬p.sort=[]:=(by simpa using a);unfold yt;rw[if_neg h,<-Aux])
theorem GC(p)(g:Gr)(J)(Q:g.sorts.length<1000000):Cv 183 [.agg (cL p),.pv [Af g.sorts,aD eR 4 g.rules]] J (.bool (!yt g.sorts p)):=by
 refine Aj Tryz.func183 rfl rfl λb a=>?_
 refine G9 ?_;refine Ca (CQ p g J Q) ?_;refine G4 ?_;refine B4 b rfl ?_;exact rfl
theorem pU(h J):Cv 115 [.agg (eH h)] J (.bool (!h.floating)):=by
 refine Aj Tryz.func115 rfl rfl λb a=>?_
 iterate 13 refine G ?_
 refine B4 b rfl ?_;exact rfl
def gD(p:Pt):Bool:= !decide (p.sort=[])
def Ij(l:List Pt):List Pt:=l.filter gD
theorem PA{l:List Pt}{i p}(h:l[i]? =some p):Ij (l.take (i+1))=Ij (l.take i)++(if gD p=true then[p]else[]):=by
 unfold Ij;rw[Fw h,zj];cases a:gD p<;>simp[a]
theorem xf{j:List RF}{L:RF}(h:L∈j)(r:Rl)(J:F)(S:List Pt->F->Prop)(Q:r.parts.length<1000000)(u:S [] J.bump)
  (B:∀(i:Nat) (p:Pt) (d:F),r.parts[i]? =some p->gD p=true->O J<=O d->S (Ij (r.parts.take i)) d->YX M j L [.agg (cL p)] d (λx g=>x=.normal/\S (Ij (r.parts.take i)++[p]) g)):
  Hl M j 229 [.yl L.aY,.pv (eR r)] J λ_ d=>S (Ij r.parts) d:=by
 refine Mo Tryz.func229 (Ke _ _ Tryz.func229) rfl rfl λN y=>?_
 iterate  8 refine G ?_
 refine Hz (λi:Nat=>[(0,.yl L.aY),(6,aD cL 3 r.parts),(7,D (.ofNat r.parts.length)),(8,D (.ofNat i))]) (λi e=>i<=r.parts.length/\S (Ij (r.parts.take i)) e/\O J<=O e) (λi=>r.parts.length-i) 0 SL ⟨bU _,u,Z⟩ ?_
 rintro i e ⟨v,a,c⟩
 iterate  5 refine G ?_
 refine A0 rfl ?_ ?_<;>intro K
 ·have k:i<r.parts.length:=Z;obtain⟨p,f⟩:=Ar k;refine Jw ?_;refine Cf ?_;refine Qn ?_;refine Cf ?_;refine Dy λl=>B7 ?_
  refine A (A1 aJ (λ_=>rfl) rfl rfl f) ?_
  refine A (Ac aG rfl rfl rfl) (Mp bG aG rfl (λ_=>rfl) rfl rfl rfl ?_)
  refine Dd ?_;refine Cf ?_;refine Er ?_;cases Q:gD p with
  |true=>
   have b:(!decide (p.sort=[]))=true:=Q;refine Gm 6 λl=>?_
   iterate  2 refine G ?_
   refine A (Ko (q:=[]) aV rfl rfl) ?_;refine G ?_;refine Bi rfl rfl rfl rfl Z bT rfl rfl (Ag rfl) ?_;refine Bi rfl rfl rfl rfl Z bT rfl rfl (Ac aG rfl rfl rfl) ?_;refine G ?_
   refine Lg h (λP w=>by rw[Hf w rfl rfl rfl rfl];rw[b];rfl) rfl rfl rfl rfl (B i p e f Q c a) λx E C o=>?_
   obtain⟨rfl,n⟩:=C;refine rF 2 ?_;refine Bi rfl rfl rfl rfl Z bT rfl rfl (Dc rfl) ?_;refine A (A3 rfl b rfl) ?_
   iterate  2 refine G ?_
   refine A0 rfl (λm=>by cases m) (λm=>?_)
   refine Jw ?_;refine Dy λl=>B7 ?_
   refine A (D3 (q:=1) aV rfl rfl z) ?_;refine OM rfl (Dd ?_)
   exact⟨i+1,by omega,SL,k,by rw[PA f,if_pos Q];exact n,bD c o⟩
  |false=>
   have b:(!decide (p.sort=[]))=false:=Q;refine Gm 9 λl=>?_
   iterate  2 refine G ?_
   refine A (Ko (q:=[]) aV rfl rfl) ?_;refine G ?_;refine Co rfl rfl rfl rfl Z rfl ?_;refine Co rfl rfl rfl rfl Z rfl ?_;refine Co rfl rfl rfl rfl Z rfl ?_;refine Co rfl rfl rfl rfl Z rfl ?_;refine A (Au rfl b rfl) ?_
   iterate  2 refine G ?_
   refine A0 rfl Z (λm=>?_)
   iterate  5 refine G ?_
   exact⟨i+1,by omega,SL,k,by rw[PA f,if_neg Z,dA];exact a,c⟩
 ·have t:r.parts.length<=i:=Z;rw[dG t]at a;refine Gi λs=>?_
  refine G ?_;exact⟨[],rfl,.tup [],_,a_ s Y (λ_ _=>rfl),c,.same rfl,a⟩
section
open Go Go.Proofs Go.Sort
abbrev eI(i:Int):List I:=[D i]
def Ei(l:List Int):List Int:=l.mergeSort λx y=>decide (x<=y)
theorem Ar3{C N w c}:∀{b:List I} {o j:Nat} {x:I},RC C N w c b o->b[j]? =some x->∃v,w.cell? ⟨c,o+j,none⟩=some v/\v.oneCell=true/\R C N w x v
 |[],_,_,_,_,h=>by simp at h
 |y::r,o,0,x,a,h=>by
  unfold RC at a
  simp at h;subst h
  simpa using a.1
 |y::r,o,j+1,x,a,h=>by
  unfold RC at a
  have:=Ar3 a.2 (show r[j]? =some x by simpa using h)
  rwa[show o+1+j=o+(j+1) by omega]at this
theorem Awb{C N w c}:∀{a:List I} {o:Nat},(∀j x,a[j]? =some x->∃v,w.cell? ⟨c,o+j,none⟩=some v/\v.oneCell=true/\R C N w x v)->RC C N w c a o
 |[],_,_=>by unfold RC;trivial
 |y::r,o,h=>by
  unfold RC
  refine⟨by simpa using h 0 y rfl,Awb λj x b=>?_⟩
  have:=h (j+1) x (by simpa using b)
  rwa[show o+(j+1)=o+1+j by omega]at this
theorem OC:∀l:List Int,l.flatMap eI=l.map D
 |[]=>rfl
 |x::l=>by simp[OC l]
theorem KJ(l:List Int)(a j)(h:j<l.length):(l.flatMap eI++a)[j]? =some (D l[j]):=by
 rw[OC,kU (by simpa using h)];simp[h]
theorem LW(l:List Int):(l.flatMap eI).length=l.length:=by induction l with
 |nil=>rfl
 |cons x l a=>simp[a]
theorem Rw(l):(Ei l).length=l.length:=List.length_mergeSort l
theorem uH(J):Cv 186 [nS] J An:=by
 refine LP ⟨_,Tryz.func186,rfl,rfl⟩ λC w c b=>?_
 obtain⟨v,rfl,a⟩:=RR b;unfold R at a;obtain⟨rfl,_⟩:=a;exact⟨_,Tryz.slices_Sort_int_none none 0 w,P8⟩
theorem CL(l a m J)(H:J.get a=some (.cells (l.flatMap eI++m)))(d:l≠[])(hl:l.length<1000000):
  Al M 186 [.sr a 0 1 l.length none] J λv W=>v=An/\W=J.set a (.cells ((Ei l).flatMap eI++m)):=by
 intro C w vs G a7 ha;refine⟨⟨_,Tryz.func186,rfl,rfl⟩,?_⟩;obtain⟨v,rfl,S⟩:=RR ha;unfold R at S;obtain⟨ad,k,rfl,hN,a8,_,X⟩:=S;obtain⟨c,o,s,T,f,E,p⟩:=G.obj a _ H;have ec:0<l.length:=List.length_pos_iff.2 d;have y:=(X c o f).1 z;subst y;rw[oE]
 have P:Holds (Value.int .i64) w c o l.toArray:=λj g=>by
  have g:j<l.length:=by simpa using g
  obtain⟨v,t,_,q⟩:=Ar3 p (KJ l m j g);unfold D R at q;subst q
  refine⟨by rw[t];simp[g],?_⟩
  unfold World.frozen?;rw[E];simp
 refine(Tryz.slices_Sort_int c o k l w P (G.lt a c o f) z).mono λe w' he=>?_
 obtain⟨rfl,n,U,rfl⟩:=he;have Q:(Ei l).length=l.length:=Rw l;obtain⟨s1,L⟩:=G.same (w':=Go.Sort.ahead w n) Y (λb _=>rfl) ⟨rfl,rfl⟩
 have u:Holds (Value.int .i64) (Go.Sort.ahead w n) c o l.toArray:=P
 have i:Wr (Go.Sort.ahead w n) (putRow (Value.int .i64) (Go.Sort.ahead w n) c o (Ei l).toArray) c (.cells (putCells (Value.int .i64) o (Ei l).toArray s) T (0,0)):=by
  refine⟨size_putRow ..,?_,λb B=>?_,rfl,rfl⟩
  ·show((Go.Sort.ahead w n).heap.modify c (onCells _))[c]? =_
   rw[xF,if_pos rfl]
   show(w.heap[c]?).map _=_
   rw[E];rfl
  ·show((Go.Sort.ahead w n).heap.modify c (onCells _))[b]? =_
   rw[xF,if_neg (mq B)]
 obtain⟨s2,e2⟩:=s1.upd (O₀:=.cells (l.flatMap eI++m)) f i (by
   unfold csize;rw[i.here]
   show _=(match w.heap[c]? with|some (.cells s _ _)=>s.size|_=>0)
   rw[E];simp[putCells]) H (.cells ((Ei l).flatMap eI++m)) rfl (λ_ _ _ h=>by cases h) (λe=>by
   refine⟨c,o,_,T,f,i.here,Awb λj x r=>?_⟩
   rw[Aq]
   by_cases g:j<(Ei l).length
   ·rw[KJ _ m j g]at r;cases r
    refine⟨_,cell?_putRow (Value.int .i64) (Go.Sort.ahead w n) c o l.toArray (Ei l).toArray u (by simpa using Q) j (by simpa using g),rfl,?_⟩
    unfold D R;simp[g]
   ·have K:(l.flatMap eI++m)[j]? =some x:=by
     rw[zw (by rw[LW];omega),LW]at r⊢
     rw[<-Q];exact r
    obtain⟨v,t,h2,q⟩:=Ar3 p K;refine⟨v,?_,h2,R.ext (L.trans e) _ _ q⟩
    rw[cell?_putRow_other _ _ _ _ _ _ (.inr (.inr (by show o+(Ei l).toArray.size<=o+j;simp;omega)))]
    exact t)
 obtain⟨s3,N⟩:=s2.same (w':=Go.Sort.grow (putRow (Value.int .i64) (Go.Sort.ahead w n) c o (Ei l).toArray) U) (by simp[Go.Sort.grow]) (λb B=>by
   show(_++U)[b]? =_
   rw[CB B]) ⟨rfl,rfl⟩
 refine⟨An,_,C,⟨rfl,rfl⟩,s3,?_,P8⟩;rw[Aq]at N⊢;exact(L.trans e2).trans N
end
def mM:List Int->Nat->Bool
 |[],_=>false
 |a::r,i=> !decide (a=Int.ofNat i)||mM r (i+1)
def D1(r:Rl):List Int:=(Ij r.parts).map (·.arg)
def Hr(g:Gr)(r:Rl):Bool:=
 if((!tD r.label|| !(g.sorts.any λx=>decide (r.sort=x)))||r.parts.any (λp=> !yt g.sorts p))=true then false
 else if mM (Ei (D1 r)) 0=true then false
 else !r.var||(decide (Int.ofNat r.parts.length=1)&&decide (Int.ofNat (D1 r).length=0))
theorem DZ{N}(p):I.unds N (cL p)=true:=rfl
theorem Vj{N}(r):I.unds N (eR r)=true:=by
 show(true&&(true&&(I.und N (aD cL 3 r.parts)&&(true&&true))))=true
 rw[Fv DZ r.parts];rfl
theorem GN(r J):Cv 185 [.agg (eR r)] J (.fn (.func 229) [] [.pv (eR r)]):=by
 refine Aj Tryz.func185 rfl rfl λb a=>?_
 refine fJ ?_
 exact⟨_,rfl,_,_,a_ b Y zN,Y,.same (by show(true&&((I.unds (O J) (eR r))&&true))=true;rw[Vj];rfl),rfl,rfl⟩
theorem BQ(r J):Cv 147 [.agg (eR r)] J (.bool (decide ((200:Int)<Int.ofNat r.parts.length))):=by
 refine Aj Tryz.func147 rfl rfl λb a=>?_
 iterate 14 refine G ?_
 refine B4 b rfl ?_;exact rfl
structure yF (J:F)(l:List Pt)(J':F):Prop where
 mk'::
 ex:∃v,J'.get (O J+1)=some (.cells [v])/\aW J' (O J+4) eI 1 (l.map (·.arg)) v/\(l=[]->v=nS)/\J'.get (O J+3)=some (.loop .ready)/\(∀b,b<O J->J'.get b=J.get b)/\O J+4<=O J'
theorem yF.rd{J q l}(h:yF J l q):q.get (O J+3)=some (.loop .ready):=by obtain⟨_,_,_,_,h,_⟩:=h.ex;exact h
theorem oJ{J N T C b}{l:List C}{v}(h:aW J N b T l v):v.cellsN 1=some [v]:=by
 rcases h with⟨_,rfl|rfl⟩|⟨a,c,_,_,rfl,_⟩<;>rfl
theorem f150(r:Rl)(g:Gr)(J:F)(hb:r.parts.length<1000000)(af:g.sorts.length<1000000):Cv 150 [.agg (eR r),gY g] J (.bool (Hr g r)):=by
 refine sg ?_;refine Mo Tryz.func150 (Ke _ _ Tryz.func150) rfl rfl λhw ay=>?_
 refine IF λK=>?_
 iterate  5 refine G ?_
 refine IF λK=>?_
 iterate  4 refine G ?_
 refine Ca (pH r.label _) ?_
 iterate  2 refine G ?_
 refine cJ 6 ?_ (λH=>?_) ?_
 rotate_left
 ·iterate  4 refine Gn H ?_
  refine Bh rfl rfl rfl (by rw[H];rfl) rfl rfl rfl rfl (pQ g.sorts r.sort _ z) ?_
  refine Gn H ?_;exact Ez
 refine G ?_;refine cJ 4 ?_ (λH=>?_) ?_
 rotate_left
 ·iterate  3 refine Gn H ?_
  refine Bh rfl rfl rfl (by rw[H];rfl) rfl rfl rfl rfl (DL (λp=> !yt g.sorts p) r.parts 183 [.pv [Af g.sorts,aD eR 4 g.rules]] _ z (λp _=>GC p g _ af)) ?_
  exact Ez
 refine G ?_;refine Ab rfl ?_ ?_<;>intro h1
 ·iterate  4 refine G ?_
  have N:Hr g r=false:=if_pos h1;refine G ?_;exact⟨_,rfl,.bool false,J,a_ hw Z (λa _=>Fh J a),Y,.same rfl,congrArg I.bool N.symm,rfl⟩
 ·refine G ?_;refine IF λK=>?_
  refine G ?_;refine A (Bu bG) ?_
  iterate  5 refine G ?_
  refine Ca (GN r _) ?_;refine G ?_

  have C:O J.bump=O J+1:=Bm J;have a7:O (J.bump.new (.cells [nS]))=O J+2:=Z;have ak:O ((J.bump.new (.cells [nS])).bump.new (.loop .ready))=O J+4:=Z;refine G ?_;refine L6 rfl λtm ht=>?_
  rw[a7];refine mB (xf (L:=⟨O J+2+1,tm,Tryz.f150.ntmps,_,_,_⟩) (cX ..) r _ (λl d=>yF J l d) hb ?_ ?_) λ_ d W=>⟨.normal,W.rd,?_⟩
  ·refine⟨⟨nS,?_,.nil,λ_=>rfl,?_,λb e=>?_,Z⟩⟩
   ·rw[Fh,a5,Bm,if_neg Z,Fh,a5,if_pos C.symm]
   ·grind
   ·rw[Fh,a5,Bm,if_neg Z,Fh,a5,if_neg Z,Fh]
  ·intro i p d hp ax ag W;obtain⟨v,dm,bf,fj,B,nc,ah⟩:=W.ex;rw[ak]at ag;have ar:O (d.set (O J+3) (.loop .busy))=O d:=Aq _ _ _;refine Tk ht rfl Kr Kr Kr B Z ?_
   iterate  3 refine G ?_
   refine⟨B,?_⟩;refine Qn ?_;refine Dy λK=>B7 ?_
   have cn:aW (d.set (O J+3) (.loop .busy)) (O J+4) eI 1 ((Ij (r.parts.take i)).map (·.arg)) v:=bf.mono Z Z
   have bl:((Ij (r.parts.take i)).map (·.arg)).length<=i:=by
    rw[jT];exact bD (lI _ _) Z
   have ao:i<r.parts.length:=(bQ.1 hp).1
   have bn:(((Ij (r.parts.take i)).map (·.arg)).length+[p.arg].length)*(8+1)<=az:=by simp only[rR,az];omega
   obtain⟨v1,U1,ac,R,f,ap⟩:=cn.app (by':=8) (enc:=eI) (sz:=1) (λ_=>rfl) Z [p.arg] bn
   have gh:(d.set (O J+3) (.loop .busy)).get (O J+1)=some (.cells [v]):=Z;have ju:U1.get (O J+1)=some (.cells [v]):=(f.2 _ z).trans gh
   refine A (Ac (u:=.pr (O J+1) 0) (cs:=[v]) aG (by rw[<-C];rfl) (by simp only[Em,F.cells,gh];rfl) rfl) ?_
   iterate  2 refine G ?_
   refine Cx (Ai aJ bM rfl rfl rfl) (Dv (len:=1)) rfl rfl (A (Av aJ rfl bF rfl rfl rfl (new:=eI p.arg) rfl ac) (A (By (ad:=O J+1) (off:=0) (vs:=[v]) (vs':=[v1]) (cs:=[v1]) aG (by rw[<-C];rfl) rfl (oJ R) (by simp only[F.cells,ju]) rfl) ?_))
   refine G ?_;have aq:O J+4<=O U1:=bD Z f.1
   refine⟨by show(U1.set (O J+1) (.cells [v1])).get (O J+3)=_;rw[aU,if_neg Z,f.2 _ Z,aU,if_pos rfl],rfl,⟨v1,?_,?_,λh=>(by simp at h),by rw[aU,if_pos rfl];rfl,λb e=>?_,Z⟩⟩
   ·grind
   ·rw[iG]
    exact R.mono Z λa o _ h8 h9 _=>by rw[aU,if_neg Z,aU,if_neg z]
   ·rw[aU,if_neg Z,aU,if_neg z,f.2 b z,aU,if_neg z]
    grind
  ·have a8:yF J (Ij r.parts) d:=W;obtain⟨v,dm,bf,fj,B,nc,ah⟩:=a8.ex;have au:O (d.kill (O J+2+1))=O d:=B3 _ _;have j:∀b,b≠O J+3->(d.kill (O J+2+1)).get b=d.get b:=Z
   have bl:(D1 r).length<1000000:=by
    unfold D1 Ij
    grind
   have ga:aW (d.kill (O J+2+1)) (O J+4) eI 1 (D1 r) v:=bf.mono Z λa o _ h8 h9 _=>j a z
   obtain⟨c,dp,P,E,ng,aw⟩:∃c,(Al M 186 [v] (d.kill (O J+2+1)) λu U=>u=An/\U=c)/\c.get (O J+1)=some (.cells [v])/\aW c (O J+4) eI 1 (Ei (D1 r)) v/\(∀b,b<O J->c.get b=J.get b)/\O J+4<=O c:=by
    by_cases k:D1 r=[]
    ·have hv:v=nS:=fj (by unfold D1 at k;exact List.map_eq_nil_iff.1 k)
     subst hv;refine⟨_,uH _,(j _ z).trans dm,?_,λb e=>(j b z).trans (nc b e),Z⟩
     rw[k]at ga⊢
     rw[show Ei []=[] by simp[Ei]]
     exact ga
    ·rcases ga with⟨h0,_⟩|⟨a,o,a9,t,rfl,aa⟩
     ·grind
     ·refine⟨_,CL (D1 r) a o _ aa k bl,?_,.inr ⟨a,o,a9,Z,by rw[Rw],Z⟩,λb e=>?_,Z⟩
      ·grind
      grind
   have aj:(Ei (D1 r)).length=(D1 r).length:=Rw _
   have S:O J<=O c/\∀b,b<O J->c.get b=J.get b:=⟨by omega,ng⟩
   have x:∀U:F,U.get (O J+1)=some (.cells [v])->Em U (.pr (O J+1) 0)=some [v]:=λU h=>by simp only[Em,F.cells,h];rfl
   refine Dy λK=>?_
   have y:∀b:Bool,Hr g r=b->T M Tryz.f150.ntmps K (O J+1) .ret (AD (jI M Tryz.f150 (O J) λv d=>v=.bool (Hr g r)/\d=J)) [(4,.bool b)] c:=λb e=>by
    refine G ?_;exact⟨_,rfl,.bool b,J,a_ hw S.1 S.2,Y,.same rfl,congrArg I.bool e.symm,rfl⟩
   iterate  2 refine G ?_
   refine A (Ac (u:=.pr (O J+1) 0) (cs:=[v]) aG (by rw[<-C];rfl) (x _ ((j _ z).trans dm)) rfl) ?_
   refine Ca dp ?_
   iterate  4 refine G ?_
   refine A (Ac (u:=.pr (O J+1) 0) (cs:=[v]) aG (by rw[<-C];rfl) (x _ P) rfl) ?_
   refine A (Bf bF rfl E.lenA.1 E.lenA.2) ?_
   iterate  3 refine G ?_
   refine Bz (Ei (D1 r)).length (λn=>[(2,.pv (eR r)),(5,.pr (O J+1) 0),(37,v),(38,D (.ofNat (Ei (D1 r)).length)),(39,D (.ofNat n))]) (λn J2=>J2=c/\mM (Ei (D1 r)) 0=mM ((Ei (D1 r)).drop n) n) ⟨rfl,by rw[<-C];rfl,rfl,rfl,rfl,trivial⟩ ⟨rfl,rfl⟩ ?_
   rintro n J2 an ⟨rfl,w⟩
   iterate  5 refine G ?_
   refine Ab rfl ?_ ?_<;>intro h2
   ·have bv:n<(Ei (D1 r)).length:=Z;obtain⟨X,t⟩:=Ar bv;have Q:=A4 t
    have ai:∃a o,v=.sr a 0 1 (Ei (D1 r)).length none/\J2.get a=some (.cells ((Ei (D1 r)).flatMap eI++o)):=by
     rcases E with⟨h0,_⟩|⟨a,o,_,_,k3,k4⟩
     ·grind
     grind
    obtain⟨a,o,hv,ae⟩:=ai
    iterate  6 refine G ?_
    refine A (Br (a:=a) (m:=(Ei (D1 r)).length) (cap:=none) aJ (congrArg some hv) rfl bv) (A (Dg (l:=Ei (D1 r)) (enc:=eI) (u:=X) (v:=D X) (λ_=>rfl) aG rfl ae t (λ_=>rfl)) ?_)
    iterate  9 refine G ?_
    refine Ab rfl ?_ ?_<;>intro h3
    ·iterate  4 refine G ?_
     have N:Hr g r=false:=(if_neg Z).trans (if_pos (by rw[w,Q,mM,show(!decide (X=Int.ofNat n))=true from h3];rfl))
     refine G ?_;exact⟨_,rfl,.bool false,J,a_ hw S.1 S.2,Y,.same rfl,congrArg I.bool N.symm,rfl⟩
    ·iterate  5 refine G ?_
     refine⟨bv,SL,rfl,by rw[w,Q,mM,show(!decide (X=Int.ofNat n))=false from h3];rfl⟩
   ·have ba:(Ei (D1 r)).length<=n:=Z
    have al:mM (Ei (D1 r)) 0=false:=by rw[w,cv ba];rfl
    have N:Hr g r=(!r.var||(decide (Int.ofNat r.parts.length=1)&&decide (Int.ofNat (D1 r).length=0))):=(if_neg Z).trans (if_neg Z)
    have am:Hr g r=(!r.var||(decide (Int.ofNat r.parts.length=1)&&decide (Int.ofNat (Ei (D1 r)).length=0))):=by rw[N,aj]
    iterate  7 refine G ?_
    rcases fI (!r.var)with H|H
    ·iterate  9 refine Gn H ?_
     refine A (A3 rfl H rfl) ?_
     iterate  2 refine G ?_
     exact(y true Z).sub ⟨rfl,trivial⟩
    ·iterate  5 refine Gn H ?_
     rcases(fI (decide (Int.ofNat r.parts.length=1))).symm with s|s
     ·refine Co rfl rfl rfl rfl Z rfl ?_;refine Co rfl rfl rfl rfl Z rfl ?_;refine Co rfl rfl rfl rfl Z rfl ?_;refine On H (Au rfl s rfl) (A (Au rfl H rfl) ?_)
      iterate  2 refine G ?_
      exact(y false Z).sub ⟨rfl,trivial⟩
     ·refine Bi rfl rfl rfl rfl Z bT rfl rfl (Ac (u:=.pr (O J+1) 0) (cs:=[v]) aG rfl (x _ P) rfl) ?_;refine Bi rfl rfl rfl rfl Z bT rfl rfl (Bf bF rfl E.lenA.1 E.lenA.2) ?_;refine Bi rfl rfl rfl rfl Z bT rfl rfl (H4 (q:=0) aV rfl rfl) ?_;refine On H (A3 rfl s rfl) (A (Au rfl H rfl) ?_)
      iterate  2 refine G ?_
      exact(y (decide (Int.ofNat (Ei (D1 r)).length=0)) Z).sub ⟨rfl,trivial⟩
def pA:List aH->SM Bool->Bool
 |[],_=>false
 |s::r,m=>(!tD s||m.has s)||pA r (m.put s true)
def Pe(g:Gr):List Rl->SM Bool->Bool
 |[],_=>false
 |r::l,m=>(!Hr g r||m.has r.label)||Pe g l (m.put r.label true)
def Eb(g:Gr):Int:=
 if((decide ((32:Int)<Int.ofNat g.sorts.length)||decide ((600:Int)<Int.ofNat g.rules.length))||g.rules.any (λr=>decide ((200:Int)<Int.ofNat r.parts.length)))=true then 4
 else if pA g.sorts []=true then 151 else if Pe g g.rules []=true then 151 else 0
structure sY (g:Gr):Prop where
 s:g.sorts.length<1000000
 r:g.rules.length<1000000
 p:∀r∈g.rules,r.parts.length<1000000
theorem pY(g J)(x:sY g):Cv 117 [gY g] J (D (Eb g)):=by
 refine Aj Tryz.func117 rfl rfl λE af=>?_
 have a8:=x.s;have a7:=x.r
 iterate 17 refine G ?_
 refine cJ 4 ?_ (λH=>?_) ?_
 rotate_left
 ·iterate 4 refine Gn H ?_
  exact Ez
 refine G ?_;refine cJ 4 ?_ (λH=>?_) ?_
 rotate_left
 ·iterate 3 refine Gn H ?_
  refine Bh rfl rfl rfl (by rw[H];rfl) rfl rfl rfl rfl (HO (λr=>decide ((200:Int)<Int.ofNat r.parts.length)) g.rules 147 [] J Z (λr _=>BQ r J)) ?_
  exact Ez
 refine G ?_;refine Ab rfl ?_ ?_<;>intro C
 ·refine G4 ?_;have e:Eb g=4:=(if_pos C);refine G ?_;exact⟨_,rfl,_,J,bL E mE,Y,.same rfl,congrArg D e.symm,rfl⟩
 ·refine G3 ?_;refine A (Gx Vb) ?_;refine fJ ?_
  refine Bz g.sorts.length (λl=>[(1,.pv [Af g.sorts,aD eR 4 g.rules]),(4,.mp (O J)),(27,Af g.sorts),(28,D (.ofNat g.sorts.length)),(29,D (.ofNat l))]) (λl y=>∃m,Fi y (O J) m/\O J<=O y/\(∀b,b<O J->y.get b=J.get b)/\pA g.sorts []=pA (g.sorts.drop l) m) SL ⟨[],⟨0,by rw[a5,if_pos rfl];rfl⟩,Z,Z,rfl⟩ ?_
  rintro l y a9 ⟨m,i,P,N,f⟩;refine G5 ?_;refine Ab rfl ?_ ?_<;>intro h2
  ·have R:l<g.sorts.length:=Z;obtain⟨k,L⟩:=Ar R;have p:=A4 L;obtain⟨U,j⟩:=id i
   iterate 13 refine G ?_
   refine Ca (pH k _) ?_;refine G2 ?_;refine cJ 3 ?_ (λH=>?_) ?_
   rotate_left
   ·iterate 2 refine Gn H ?_
    refine On H (De bI Vb rfl i rfl) ?_;exact Ez
   refine G ?_;refine Ab rfl ?_ ?_<;>intro K
   ·refine G4 ?_
    have e:Eb g=151:=((zJ C).trans (if_pos (by rw[f,p,pA,show(!tD k||m.has k)=true from K];rfl)))
    refine G ?_;exact⟨_,rfl,_,J,bL E ⟨P,N⟩,Y,.same rfl,congrArg D e.symm,rfl⟩
   ·refine G4 ?_
    refine A (Gh (v:=true) bI Vb rfl j rfl rfl (λte a c=>by first|exact I0 a c|exact I1 a c|exact I2 a c|exact Jn a c|exact H6 a c rfl)) ?_
    refine G5 ?_
    refine⟨R,SL,m.put k true,iH,Z,Z,by rw[f,p,pA,show(!tD k||m.has k)=false from K];rfl⟩
  ·have X:g.sorts.length<=l:=Z
   have ac:pA g.sorts []=false:=by rw[f,cv X];rfl
   obtain⟨U,j⟩:=id i;refine G4 ?_;refine A (Aoz Vb rfl j) ?_;refine cD ?_
   refine Bz g.rules.length (λn=>[(1,.pv [Af g.sorts,aD eR 4 g.rules]),(4,.mp (O J)),(46,aD eR 4 g.rules),(47,D (.ofNat g.rules.length)),(48,D (.ofNat n))]) (λn B=>∃m,Fi B (O J) m/\O J<=O B/\(∀b,b<O J->B.get b=J.get b)/\Pe g g.rules []=Pe g (g.rules.drop n) m) SL ⟨[],⟨U+1,by rw[aU,if_pos rfl];rfl⟩,Z,Z,rfl⟩ ?_
   rintro n B aa ⟨Q,u,w,s,h⟩;refine G5 ?_;refine Ab rfl ?_ ?_<;>intro K
   ·have S:n<g.rules.length:=Z;obtain⟨d,o⟩:=Ar S;have q:=A4 o;obtain⟨ag,qc⟩:=id u
    iterate 14 refine G ?_
    refine Ca (f150 d g _ (x.p d (bA o)) x.s) ?_;refine G2 ?_;refine cJ 4 ?_ (λH=>?_) ?_
    rotate_left
    ·iterate 3 refine Gn H ?_
     refine On H (De bI Vb rfl u rfl) ?_;exact Ez
    refine G ?_;refine Ab rfl ?_ ?_<;>intro T
    ·refine G4 ?_
     have e:Eb g=151:=((zJ C).trans ((if_neg Z).trans (if_pos (by rw[h,q,Pe,show(!Hr g d||Q.has d.label)=true from T];rfl))))
     refine G ?_;exact⟨_,rfl,_,J,bL E ⟨w,s⟩,Y,.same rfl,congrArg D e.symm,rfl⟩
    ·refine G5 ?_
     refine A (Gh (v:=true) bI Vb rfl qc rfl rfl (λte a c=>by first|exact I0 a c|exact I1 a c|exact I2 a c|exact Jn a c|exact H6 a c rfl)) ?_
     refine G5 ?_
     refine⟨S,SL,Q.put d.label true,iH,Z,Z,by rw[h,q,Pe,show(!Hr g d||Q.has d.label)=false from T];rfl⟩
   ·have W:g.rules.length<=n:=Z
    have ae:Pe g g.rules []=false:=by rw[h,cv W];rfl
    refine G5 ?_;have e:Eb g=0:=((zJ C).trans ((if_neg Z).trans (if_neg Z)))
    refine G ?_;exact⟨_,rfl,_,J,bL E ⟨w,s⟩,Y,.same rfl,congrArg D e.symm,rfl⟩
section
open Go
def F4(l:List Rl)(s:aH):Option Rl:=l.find? λr=>decide (r.label=s)
def A0m(l:List Rl)(s:aH):Bool:=match F4 l s with|some r=>r.var|none=>false
def Qw(r:Rl):Nat:=(r.parts.filter λp=> !decide (p.sort=[])).length
def UD(l:List (Option aH))(k:List Pt):Bool:=k.all λp=>decide (p.sort=[])||decide (l[p.arg.toNat]? =some (some p.sort))
mutual
def ev (g:List Rl):Ax->Option aH
 |.node s ks=>match F4 g s with
  |some r=>if(UD (yA g ks) r.parts&&decide (Qw r=ks.length))=true then some r.sort else none
  |none=>none
def yA (g:List Rl):List Ax->List (Option aH)
 |[]=>[]
 |t::r=>ev g t::yA g r
end
theorem AE(g:List Rl):∀l:List Ax,yA g l=l.map (ev g)
 |[]=>rfl
 |t::r=>by rw[yA,AE g r];rfl
mutual
def eE (s:aH):Ax->Bool
 |.node l ks=>decide (l=s)||kT s ks
def kT (s:aH):List Ax->Bool
 |[]=>false
 |t::r=>eE s t||kT s r
end
mutual
def tN (g:List Rl):Ax->Bool
 |.node s ks=>(match F4 g s with|some r=>decide (Qw r=ks.length)|none=>false)&&vT g ks
def vT (g:List Rl):List Ax->Bool
 |[]=>true
 |t::r=>tN g t&&vT g r
end
theorem RE{g:List Rl}:∀{l:List Ax},vT g l=true↔∀t∈l,tN g t=true
 |[]=>by unfold vT;simp
 |t::r=>by unfold vT;simp only[bg,RE (l:=r),bN,forall_eq_or_imp]
structure jA (g:List Rl):Prop where
 va:∀r∈g,r.var=true->Qw r=0
 cov:∀r∈g,∀j,j<Qw r->∃p∈r.parts,p.sort≠[]/\p.arg=Int.ofNat j
theorem sP{g:List Rl}{s:aH}{r:Rl}(h:F4 g s=some r):r∈g:=List.mem_of_find?_eq_some h
theorem A3d{g:List Rl}(H:jA g)(t:Ax):(ev g t).isSome=true->tN g t=true:=by
 refine Ax.ind' (P:=λt=>(ev g t).isSome=true->tN g t=true) ?_ t
 intro s o n h;unfold ev at h;unfold tN
 split at h
 ·rename_i r m
  split at h
  ·rename_i b
   simp only[bg,decide_eq_true_eq]at b⊢;refine⟨b.2,RE.2 λk d=>n k d ?_⟩
   obtain⟨j,c⟩:=List.getElem?_of_mem d;have l:=(bQ.1 c).1;obtain⟨p,e,f,i⟩:=H.cov r (sP m) j z;have a:=b_.1 b.1 p e;simp only[eO,decide_eq_true_eq]at a
   rcases a with a|a
   ·exact absurd a f
   ·rw[i,AE,eC]at a;have:(Int.ofNat j).toNat=j:=rfl;rw[this,c]at a;simp only[mH,bH]at a;rw[a];rfl
  ·cases h
 ·cases h
def dK(n:Int)(l:List Int):Int:=l.foldl (λa v=>a*n+v) 0
theorem AK(n:Int)(l:List Int)(v:Int):dK n (l++[v])=dK n l*n+v:=by unfold dK;rw[List.foldl_append];rfl
theorem zv{n:Int}(S:1<=n)(l:List Int):(∀v∈l,0<=v/\v<n)->0<=dK n l/\dK n l<n ^ l.length:=by
 suffices h:∀m:List Int,(∀v∈m.reverse,0<=v/\v<n)->0<=dK n m.reverse/\dK n m.reverse<n ^ m.length by
  intro d
  have:=h l.reverse (by rw[List.reverse_reverse];exact d)
  rwa[List.reverse_reverse,List.length_reverse]at this
 intro m
 induction m with
 |nil=>intro _;simp[dK]
 |cons v m f=>
  intro a;rw[d_]at a⊢;rw[AK,cZ,Int.pow_succ]
  obtain⟨b,g⟩:=f λy e=>a y (by simp[List.mem_reverse.1 e])
  obtain⟨i,j⟩:=a v zS
  have k:0<=dK n m.reverse*n:=Int.mul_nonneg b z;have c:(dK n m.reverse+1)*n<=n ^ m.length*n:=Int.mul_le_mul_of_nonneg_right z z;rw[Int.add_mul,Int.one_mul]at c
  exact⟨by omega,by omega⟩
end
theorem Aff:∀{l:List Int} {i:Nat},mM l i=false->∀j,j<l.length->l[j]? =some (Int.ofNat (i+j))
 |[],_,_,j,b=>by simp at b
 |a::r,i,h,j,b=>by
  unfold mM at h;simp only[iT,oQ,decide_eq_true_eq]at h;cases j with
  |zero=>simp[h.1]
  |succ j=>
   have:=Aff h.2 j (by simpa using b)
   simp only[rE,this]
   congr 2;omega
theorem JV(r):(D1 r).length=Qw r:=by unfold D1 Ij Qw gD;simp
theorem Tp{g r}(h:Hr g r=true):(r.var=true->Qw r=0)/\(∀j,j<Qw r->∃p∈r.parts,p.sort≠[]/\p.arg=Int.ofNat j)/\(∀p∈r.parts,p.sort≠[]->∃j:Nat,p.arg=Int.ofNat j/\j<Qw r):=by
 unfold Hr at h
 split at h
 ·cases h
 ·split at h
  ·cases h
  ·rename_i l
   rw[Bool.not_eq_true]at l;have m:=Aff l
   have i:(Ei (D1 r)).length=Qw r:=by rw[Rw,JV]
   have k:∀x,x∈Ei (D1 r)↔x∈D1 r:=λx=>(List.mergeSort_perm _ _).mem_iff
   refine⟨λo=>?_,λj e=>?_,λp a f=>?_⟩
   ·rw[o]at h;simp only[Bool.not_true,Bool.false_or,bg,decide_eq_true_eq]at h;rw[<-JV];simpa using h.2
   ·have c:=m j (by rw[i];exact e)
    have d:=(k _).1 (bA c);unfold D1 at d;obtain⟨p,a,n⟩:=dO.1 d;unfold Ij at a;rw[gS]at a
    exact⟨p,a.1,by simpa[gD]using a.2,by rw[n,dE]⟩
   ·have d:p.arg∈D1 r:=by
     unfold D1 Ij
     exact zC (gS.2 ⟨a,by simpa[gD]using f⟩)
    obtain⟨j,e⟩:=List.getElem?_of_mem ((k _).2 d);have b:=(bQ.1 e).1;have c:=m j b;rw[e]at c
    exact⟨j,by simpa using c,by rw[<-i];exact b⟩
theorem Ace{g}:∀{l:List Rl} {m:SM Bool},Pe g l m=false->(∀r∈l,Hr g r=true)/\(l.map (·.label)).Nodup/\∀r∈l,m.has r.label=false
 |[],m,_=>⟨by simp,by simp,by simp⟩
 |r::l,m,h=>by
  unfold Pe at h;simp only[iT,oQ]at h;obtain⟨⟨c,d⟩,e⟩:=h;obtain⟨j,k,n⟩:=Ace e
  have b:∀x∈l,x.label≠r.label/\m.has x.label=false:=λx a=>by
   have:=n x a;rw[nD]at this;simp only[iT,decide_eq_false_iff_not]at this;exact this
  refine⟨by simp only[bN,forall_eq_or_imp];exact⟨c,j⟩,?_,by simp only[bN,forall_eq_or_imp];exact⟨d,λx a=>(b x a).2⟩⟩
  simp only[fG,nT];refine⟨λi=>?_,k⟩
  obtain⟨x,a,f⟩:=dO.1 i;exact(b x a).1 f
structure gU (g:Gr):Prop where
 rs:jA g.rules
 nd:(g.rules.map (·.label)).Nodup
 arg:∀r∈g.rules,∀p∈r.parts,p.sort≠[]->∃j:Nat,p.arg=Int.ofNat j/\j<Qw r
 len:g.rules.length<=600
 prt:∀r∈g.rules,r.parts.length<=200
theorem O'{g}(h:Eb g=0):gU g:=by
 unfold Eb at h
 split at h
 ·cases h
 ·rename_i b
  split at h
  ·cases h
  ·split at h
   ·cases h
   ·rename_i d
    rw[Bool.not_eq_true]at d;obtain⟨c,e,_⟩:=Ace d;simp only[eO,decide_eq_true_eq,e_,not_or,not_exists,not_and,ep]at b
    exact⟨⟨λr a=>(Tp (c r a)).1,λr a=>(Tp (c r a)).2.1⟩,e,λr a=>(Tp (c r a)).2.2,by have:=b.1.2;omega,λr a=>by have:=b.2 r a;omega⟩
theorem L9{l s}:(A5 (λr=>decide (r.label=s)) l 0= -1/\F4 l s=none)\/∃n r,A5 (λr=>decide (r.label=s)) l 0=Int.ofNat n/\l[n]? =some r/\F4 l s=some r:=by
 have d:∀(l:List Rl) (i:Nat),(A5 (λr=>decide (r.label=s)) l i= -1/\F4 l s=none)\/∃n r,A5 (λr=>decide (r.label=s)) l i=Int.ofNat (i+n)/\l[n]? =some r/\F4 l s=some r:=by
  intro l
  induction l with
  |nil=>intro i;exact .inl ⟨rfl,rfl⟩
  |cons r l e=>
   intro i;unfold A5 F4;rw[List.find?_cons]
   by_cases h:r.label=s
   ·rw[decide_eq_true h];exact .inr ⟨0,r,rfl,rfl,rfl⟩
   ·rw[decide_eq_false h]
    rcases e (i+1)with⟨a,b⟩|⟨n,x,a,b,c⟩
    ·exact .inl ⟨a,b⟩
    ·exact .inr ⟨n+1,x,by rw[cond_false,a];congr 1;omega,b,c⟩
 rcases d l 0 with h|⟨n,r,a,b,c⟩
 ·exact .inl h
 ·exact .inr ⟨n,r,by rw[a,dE],b,c⟩
theorem Bj{f J a t n U}(L:zI M.P t=some U)(S:O J=n):As M a (.alloc t) f J (.pr n 0) (J.new (.cells U)):=by subst S;exact Bu L
def iN(n:Nat):I:=D (.ofNat n)
theorem Axh{y n i}(_:y.size=n)(h:y.isAgg=false):Je y (iN i)=true:=by unfold iN D Je;rw[h];rfl
def I4:List Hp->Nat->SM Nat->SM Nat
 |[],_,m=>m
 |h::r,i,m=>I4 r (i+1) (m.put (bS h) i)
theorem Ajd:∀{l:List Hp} {n:Nat} {m:SM Nat},(∀s i,m.get s=some i->i<n)->∀s i,(I4 l n m).get s=some i->i<n+l.length
 |[],n,m,h,s,i,a=>by simpa using h s i a
 |x::r,n,m,h,s,i,a=>by
  have:=Ajd (l:=r) (n:=n+1) (m:=m.put (bS x) n) (λs i b=>by
   rw[dP]at b
   grind) s i a
  grind
def NP(k:List Hp)(i:Nat):aH:=match k[i]? with|some h=>h.text.headD []|none=>[]
def axP(J:SM Nat)(k:List Hp):List aH->SM Bool->List Pt->Option (List Pt)
 |[],_,b=>some b
 |s::r,a,b=>match J.get s with
  |none=>axP J k r a (b++[⟨s,[],0⟩])
  |some i=>if a.has s=true then none else axP J k r (a.put s true) (b++[⟨[],NP k i,Int.ofNat i⟩])
def Hs(f:Fr):Option Rl:=match axP (I4 f.hyps 0 []) f.hyps (f.text.drop 1) [] []with
 |none=>none
 |some a=>some ⟨f.label,f.text.headD [],a,false⟩
def yx:Option Rl->I
 |none=>.tup [.agg (eR ⟨[],[],[],false⟩),.bool false]
 |some r=>.tup [.agg (eR r),.bool true]
def zR:List I:=[.str [],.str [],nS,.bool false]
theorem FI(f J k)(hB:qZ f)(ag:∃tl,f.text=k::tl)(hh:∀h∈f.hyps,∃a b,h.text=[a,b]):Cv 116 [.agg (eF f)] J (yx (Hs f)):=by
 refine Aj Tryz.func116 rfl rfl λhw ay=>?_
 obtain⟨tl,ag⟩:=ag;have aq:=hB.h;have ar:=hB.t;have ao:(f.text.drop 1).length<1000000:=Z;refine G3 ?_;refine A (Bu bG) ?_;refine G4 ?_;refine A (Cd (n:=O J+1) gG (fN rfl)) ?_;refine cD ?_;have c8:O ((J.new (.cells zR)).new (.map 9 [] 0))=O J+2/\((J.new (.cells zR)).new (.map 9 [] 0)).get (O J)=some (.cells zR)/\(∀b,b<O J->((J.new (.cells zR)).new (.map 9 [] 0)).get b=J.get b)/\∃m,B8 iN ((J.new (.cells zR)).new (.map 9 [] 0)) (O J+1) m/\I4 f.hyps 0 []=I4 (f.hyps.drop 0) 0 m:=
  ⟨Z,Z,Z,[],⟨0,by rw[a5,if_pos (by rw[Ao])];rfl⟩,rfl⟩
 refine G ?_;refine Bz f.hyps.length (λy=>[(1,.pv (eF f)),(2,.pr (O J) 0),(4,.mp (O J+1)),(15,aD eH 3 f.hyps),(16,D (.ofNat f.hyps.length)),(17,D (.ofNat y))]) (λy o=>O o=O J+2/\o.get (O J)=some (.cells zR)/\(∀b,b<O J->o.get b=J.get b)/\∃m,B8 iN o (O J+1) m/\I4 f.hyps 0 []=I4 (f.hyps.drop y) y m) SL c8 ?_
 rintro y o au ⟨Q,ai,al,m,ae,aa⟩;refine G5 ?_;refine Ab rfl ?_ ?_<;>intro h1
 ·have bc:y<f.hyps.length:=Z;obtain⟨a0,a9⟩:=Ar bc;have ak:=A4 a9;obtain⟨u0,u1,ah⟩:=hh a0 (bA a9);obtain⟨vm,S⟩:=id ae;refine G8 ?_;refine Rn bG aG rfl rfl zF rfl zF rfl rfl rfl rfl rfl ?_
  refine G5 ?_
  refine A (A1 aJ zF rfl rfl (by grind:a0.text[1]? =some u1) (i:=1)) ?_
  refine G2 ?_;refine A (Gh (v:=y) (enc:=iN) bI gG rfl S rfl rfl (λte U W=>Axh U W)) ?_
  refine G5 ?_
  refine⟨bc,SL,Z,Z,Z,m.put u1 y,iH,by rw[aa,ak,I4,Z2 ah]⟩
 ·have bj:f.hyps.length<=y:=Z
  have bp:I4 f.hyps 0 []=m:=by rw[aa,cv bj];rfl
  subst bp;refine G3 ?_;refine A (Cd (n:=O J+2) Vb Q) ?_;refine G3 ?_;refine Bo λan=>?_
  refine XX 1 (l:=[]) trivial ?_;refine G4 ?_
  refine V (A1 aJ zF rfl rfl (by grind:f.text[0]? =some k) (i:=0)) ?_
  refine G2 ?_
  refine DT (Bj (n:=O J+3) bG (fN Q)) (DT (By (ad:=O J+3) (off:=0) (vs:=zR) (vs':=[sV f.label,sV k,nS,.bool false]) (cs:=[sV f.label,sV k,nS,.bool false]) aG rfl rfl rfl (by simp only[F.cells];rw[a5,if_pos Z];rfl) rfl) ?_)
  refine G ?_
  refine⟨(by intro e he;simp at he;rcases he with rfl|rfl<;>first|exact .refl|exact K4 an),?_⟩
  refine G5 ?_;refine A (Uu (enc:=e1) aJ zF rfl rfl Z) ?_
  refine G3 ?_
  have er:∃d j g,(((o.new (.map 9 [] 0)).new (.cells zR)).set (O J+3) (.cells [sV f.label,sV k,nS,.bool false])).get (O J+3)=some (.cells [sV f.label,sV k,g,.bool false])/\aW (((o.new (.map 9 [] 0)).new (.cells zR)).set (O J+3) (.cells [sV f.label,sV k,nS,.bool false])) (O J+4) cL 3 j g/\Fi (((o.new (.map 9 [] 0)).new (.cells zR)).set (O J+3) (.cells [sV f.label,sV k,nS,.bool false])) (O J+2) d/\B8 iN (((o.new (.map 9 [] 0)).new (.cells zR)).set (O J+3) (.cells [sV f.label,sV k,nS,.bool false])) (O J+1) (I4 f.hyps 0 [])/\(((o.new (.map 9 [] 0)).new (.cells zR)).set (O J+3) (.cells [sV f.label,sV k,nS,.bool false])).get (O J)=some (.cells zR)/\(∀b,b<O J->(((o.new (.map 9 [] 0)).new (.cells zR)).set (O J+3) (.cells [sV f.label,sV k,nS,.bool false])).get b=J.get b)/\O J+4<=O (((o.new (.map 9 [] 0)).new (.cells zR)).set (O J+3) (.cells [sV f.label,sV k,nS,.bool false]))/\j.length<=0/\axP (I4 f.hyps 0 []) f.hyps (f.text.drop 1) [] []=axP (I4 f.hyps 0 []) f.hyps ((f.text.drop 1).drop 0) d j:=by
   have N:∀b,b<O J+2->(((o.new (.map 9 [] 0)).new (.cells zR)).set (O J+3) (.cells [sV f.label,sV k,nS,.bool false])).get b=o.get b:=Z;refine⟨[],[],nS,Z,.nil,⟨0,?_⟩,ae.of_get (N _ z),(N _ z).trans ai,λb hb=>(N b z).trans (al b hb),Z,Y,rfl⟩
   rw[aU,if_neg z,a5,if_neg Z,a5,if_pos Q.symm];rfl
  refine G ?_;refine Bz (f.text.drop 1).length (λT=>[(1,.pv (eF f)),(2,.pr (O J) 0),(4,.mp (O J+1)),(7,.mp (O J+2)),(8,.pr (O J+3) 0),(39,aD e1 1 (f.text.drop 1)),(40,D (.ofNat (f.text.drop 1).length)),(41,D (.ofNat T))]) (λT s=>∃d j g,s.get (O J+3)=some (.cells [sV f.label,sV k,g,.bool false])/\aW s (O J+4) cL 3 j g/\Fi s (O J+2) d/\B8 iN s (O J+1) (I4 f.hyps 0 [])/\s.get (O J)=some (.cells zR)/\(∀b,b<O J->s.get b=J.get b)/\O J+4<=O s/\j.length<=T/\axP (I4 f.hyps 0 []) f.hyps (f.text.drop 1) [] []=axP (I4 f.hyps 0 []) f.hyps ((f.text.drop 1).drop T) d j) SL er ?_
  rintro T s aw ⟨d,j,g,h8,bf,R,P,w,ac,af,ax,x⟩;refine G5 ?_;refine Ab rfl ?_ ?_<;>intro h2
  ·have bv:T<(f.text.drop 1).length:=Z;obtain⟨q,aj⟩:=Ar bv;have L:=A4 aj;obtain⟨vm,S⟩:=id R
   iterate 13 refine G ?_
   refine A (vY (enc:=iN) bI gG rfl P rfl) ?_
   iterate 14 refine G ?_
   refine Ab rfl ?_ ?_<;>intro h3
   ·have p:(I4 f.hyps 0 []).get q=none:=by simpa using h3
    have bn:(j.length+[(⟨q,[],0⟩:Pt)].length)*(40+1)<=az:=by have C:=bv;rw[oV]at C;simp[az];omega
    obtain⟨X,U1,K,r,c,_⟩:=iS (by':=40) (enc:=cL) (sz:=3) zF af bf [(⟨q,[],0⟩:Pt)] bn
    have E:U1.get (O J+3)=some (.cells [sV f.label,sV k,g,.bool false]):=(c.2 _ z).trans h8;refine G3 ?_
    refine A (Ac (u:=.pr (O J+3) 2) (cs:=[g,.bool false]) aG rfl (by simp only[Em,F.cells,h8];rfl) rfl) ?_
    refine G2 ?_;refine Cx (Ai aJ bM rfl rfl rfl) (Dv (len:=1)) rfl rfl (A (Av aJ rfl bF rfl rfl rfl (new:=cL (⟨q,[],0⟩:Pt)) rfl K) ?_);refine G ?_
    refine A (By (ad:=O J+3) (off:=2) (vs:=[sV f.label,sV k,g,.bool false]) (vs':=[sV f.label,sV k,X,.bool false]) (cs:=[X]) aG rfl rfl (oJ r) (by simp only[F.cells,E]) rfl) ?_
    refine G6 ?_
    refine⟨bv,SL,d,j++[(⟨q,[],0⟩:Pt)],X,Z,r.mono Z Z,(R.of_get (c.2 _ z)).set z,(P.of_get (c.2 _ z)).set z,by rw[aU,if_neg z,c.2 _ z];exact w,λb hb=>by rw[aU,if_neg z,c.2 b z];exact ac b hb,by rw[Aq];exact bD af c.1,Z,by rw[x,L,axP,p]⟩
   ·obtain⟨B,p⟩:∃B,(I4 f.hyps 0 []).get q=some B:=gV.1 Z
    have am:B<f.hyps.length:=by have:=Ajd (l:=f.hyps) (n:=0) (m:=[]) (λ_ _ h=>by cases h) q B p;omega
    obtain⟨hI,a8⟩:=Ar am;obtain⟨u0,u1,ah⟩:=hh hI (bA a8)
    rw[show((SM.get (I4 f.hyps 0 []) q).map iN).getD (.int .i64 0)=iN B by rw[p];rfl]
    refine G4 ?_;refine A (De bI Vb rfl R rfl) ?_;refine G2 ?_;refine Ab rfl ?_ ?_<;>intro h4
    ·refine G3 ?_
     refine A (By (ad:=O J) (off:=0) (vs:=zR) (vs':=zR) (cs:=zR) aG rfl rfl rfl (by simp only[F.cells,w]) rfl) ?_
     refine G2 ?_
     have hF:Hs f=none:=by unfold Hs;rw[x,L,axP,p];grind
     refine G ?_
     exact⟨[.agg zR,.bool false],Am (aG (t:=202)) rfl (by simp only[F.cells];rw[aU,if_pos rfl]) rfl (Ba rfl rfl),yx none,J,bL hw ⟨Z,Z⟩,Y,.tup (.cons (.agg (.cons (.same rfl) (.cons (.same rfl) (.cons Ex (.cons (.same rfl) .nil))))) (.cons (.same rfl) .nil)),by rw[hF],rfl⟩
    ·have nj:aW (s.set (O J+2) (.map 9 (Cn bV (d.put q true)) (vm+1))) (O J+4) cL 3 j g:=bf.mono Z Z;have a7:(s.set (O J+2) (.map 9 (Cn bV (d.put q true)) (vm+1))).get (O J+3)=some (.cells [sV f.label,sV k,g,.bool false]):=Z
     have bn:(j.length+[(⟨[],u0,Int.ofNat B⟩:Pt)].length)*(40+1)<=az:=by have C:=bv;rw[oV]at C;simp[az];omega
     obtain⟨X,U1,K,r,c,_⟩:=iS (by':=40) (enc:=cL) (sz:=3) zF Z nj [(⟨[],u0,Int.ofNat B⟩:Pt)] bn
     have E:U1.get (O J+3)=some (.cells [sV f.label,sV k,g,.bool false]):=(c.2 _ z).trans a7;refine G5 ?_
     refine A (Gh (v:=true) bI Vb rfl S rfl rfl (λte U W=>by first|exact I0 U W|exact I1 U W|exact I2 U W|exact Jn U W|exact H6 U W rfl)) ?_
     refine G ?_;refine XS (l:=[]) trivial ?_;refine G ?_
     refine V (Ac (u:=.pr (O J+3) 2) (cs:=[g,.bool false]) aG rfl (by simp only[Em,F.cells,a7];rfl) rfl) ?_
     refine G6 ?_
     refine V (A1 aJ zF rfl rfl (by grind:hI.text[0]? =some u0) (i:=0)) ?_
     refine G3 ?_;refine V (Ai aJ bM rfl rfl rfl) (DT (Av aJ rfl bF rfl rfl rfl (new:=cL (⟨[],u0,Int.ofNat B⟩:Pt)) rfl K) ?_);refine G ?_
     refine DT (By (ad:=O J+3) (off:=2) (vs:=[sV f.label,sV k,g,.bool false]) (vs':=[sV f.label,sV k,X,.bool false]) (cs:=[X]) aG rfl rfl (oJ r) (by simp only[F.cells,E]) rfl) ?_
     refine G5 ?_
     refine⟨bv,SL,d.put q true,j++[(⟨[],u0,Int.ofNat B⟩:Pt)],X,Z,r.mono Z Z,B8.set (B8.of_get iH (c.2 _ z)) z,B8.set (B8.of_get (P.set z) (c.2 _ z)) z,by rw[aU,if_neg z,c.2 _ z,aU,if_neg z];exact w,λb hb=>by rw[aU,if_neg z,c.2 b z,aU,if_neg z];exact ac b hb,by rw[Aq];exact bD Z c.1,Z,by rw[x,L,axP,p];simp only[];rw[if_neg Z,NP,a8];grind⟩
  ·have ba:(f.text.drop 1).length<=T:=Z
   have ap:axP (I4 f.hyps 0 []) f.hyps (f.text.drop 1) [] []=some j:=by rw[x,cv ba];rfl
   refine G3 ?_
   refine A (Ac (u:=.pr (O J+3) 0) (cs:=[sV f.label,sV k,g,.bool false]) aG rfl (by simp only[Em,F.cells,h8];rfl) rfl) ?_
   refine A (By (ad:=O J) (off:=0) (vs:=zR) (vs':=[sV f.label,sV k,g,.bool false]) (cs:=[sV f.label,sV k,g,.bool false]) aG rfl rfl rfl (by simp only[F.cells,w]) rfl) ?_
   refine G2 ?_
   have hF:Hs f=some ⟨f.label,k,j,false⟩:=by unfold Hs;grind
   refine G ?_
   exact⟨[.agg [sV f.label,sV k,g,.bool false],.bool true],Am (aG (t:=202)) rfl (by simp only[F.cells];rw[aU,if_pos rfl]) rfl (Ba rfl rfl),yx (some ⟨f.label,k,j,false⟩),J,bL hw ⟨Z,Z⟩,Y,.tup (.cons (.agg (.cons (.same rfl) (.cons (.same rfl) (.cons (bf.mono Z Z|>.fz zF (λa ha=>hw.none z) (A2 DZ _)) (.cons (.same rfl) .nil))))) (.cons (.same rfl) .nil)),by rw[hF],rfl⟩
end Go.AM

