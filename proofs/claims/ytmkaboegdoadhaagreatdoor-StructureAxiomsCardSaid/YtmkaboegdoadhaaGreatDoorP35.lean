/- A part of the proof; shortened by program. -/
import Derived.Test.YtmkaboegdoadhaaGreatDoorP34
set_option maxRecDepth 100000
set_option maxHeartbeats 4000000
set_option linter.all false
namespace Go.AM
open Go Go.Proofs
theorem Bcc{d}(n:Ea d=0){v a}(c:(Il (Bt d) []).get v=some a){f}(N:f∈d.frames){h}(r:h∈f.hyps)(q:h.floating=true)(b:bS h=v):a.label=h.label/\a.text=h.text:=by
 obtain⟨j,_,_⟩:=rZ n
 rcases A1u c with⟨e,o⟩|e
 ·unfold Bt at e;rw[if_pos j]at e;unfold Fa at e;rw[if_neg Z]at e
  split at e
  ·cases e
  ·rename_i s k
   cases i:W7 d.vars s d.vars.length [] []with
   |none=>rw[i]at e;cases e
   |some l=>
    rw[i]at e;obtain⟨w,m⟩:=A2q i Z a e;have p:=(CK j Z k).1 w a m;obtain⟨_,g⟩:=A1v k λf N=>(Vh j N).2
    have:=g f N h (by rw[Vi];grind)
    rw[b,<-o,p.1,m]at this;unfold kw sK at this;simp only[bg]at this;exact⟨of_decide_eq_true this.1.1,of_decide_eq_true this.2⟩
 ·cases e
theorem Bef{d}(K:(aM d).2=0){f}(N:f∈d.frames){k R}(Q:k::R∈f.text::H8 f.hyps){s}(x:AT (aM d).1 R s){r}(W:F4 (aM d).1.rules s=some r)(J:r.var=true):∃h∈f.hyps,h.floating=true/\h.label=s/\r.sort=h.text.headD []:=by
 obtain⟨E,g,H,o⟩:=yK K;obtain⟨G,_,_⟩:=rZ E;obtain⟨T,i,X,u⟩:=x
 have t:r=T:=by
  obtain⟨n,S⟩:=List.getElem?_of_mem i;have:=O6 (Yc d).nd S
  grind
 subst t
 have p:r∈g.rules:=by
  rcases(O7 o).2 r i with q|⟨U,_,q,_⟩
  ·exact q
  ·rw[PH q]at J;cases J
 rcases A2r H r p with q|⟨v,j,a,L,e⟩
 ·cases q
 ·have l:=(MT G v j).2;obtain⟨b,c⟩:=u ⟨v,[],0⟩ Z rfl
  have C:v∈R:=by
   have c:v=R.getD b []:=c;rw[List.getD_eq_getElem?_getD]at c;cases y:R[b]? with
   |none=>rw[y]at c;have c:v=[]:=c;rw[c]at l;exact absurd l zD
   |some w=>rw[y]at c;have c:v=w:=c;rw[c];exact bA y
  obtain⟨h,P,m,B⟩:=Z0 G N Q (ch _ C) j;obtain⟨k1,k2⟩:=Bcc E L N P m B
  grind
theorem JN{d}(i:(aM d).2=0){f}(N:f∈d.frames):(∃l m,f.text=l::m)/\∀h∈f.hyps,h.floating=true->∃a b,h.text=[a,b]:=by
 obtain⟨e,_,_⟩:=rZ (yK i).1;obtain⟨n,g,_,j⟩:=To (rJ e) f N
 exact⟨NA j,λh k c=>((Vh e N).1 h (by simp[Fr.all,k]) c).1⟩
structure qV (d:Db)(km:SM Int)(l:List Hp)(b:lE):Prop where
 fl:b.fl=l.filter (·.floating)
 ix:∀i,(i∈b.bd\/i∈b.ot)↔i<b.fl.length
 kb:∀i∈b.bd,∃h,b.fl[i]? =some h/\kd km (h.text.headD [])=1
 ko:∀i∈b.ot,∃h,b.fl[i]? =some h/\kd km (h.text.headD [])≠1
 nb:b.ot.Nodup
 hy:∀t∈b.hy,∃h∈l,h.floating=false/\B1 d h.text=(t,0)
 hl:b.hy.length<=l.length
theorem qX{C:Type}{l}{x a:C}{i:Nat}(h:l[i]? =some a):(l++[x])[i]? =some a:=Z
theorem Bdh{d o l b h}(Q:qV d o l b)(p:(d6 d o b h).e=0):qV d o (l++[h]) (d6 d o b h)/\b.e=0:=by
 have f:b.e=0:=Classical.byContradiction λq=>by unfold d6 at p;grind
 refine⟨?_,f⟩;obtain⟨w,m,n,r,j,y,B⟩:=Q;have e:∀t∈b.hy,∃x∈l++[h],x.floating=false/\B1 d x.text=(t,0):=Z;have c:b.hy.length<=(l++[h]).length:=Z;unfold d6 at p⊢;rw[if_neg (λq=>q f)]at p⊢
 split
 ·rename_i g
  have a:b.fl++[h]=(l++[h]).filter (·.floating):=Z;have C:(b.fl++[h]).length=b.fl.length+1:=Z;have E:(b.fl++[h])[b.fl.length]? =some h:=Z;have J:∀i,i∈b.bd\/i∈b.ot->i≠b.fl.length:=Z
  split
  ·rename_i v
   refine⟨a,λi=>?_,λi k=>?_,λi k=>?_,j,e,c⟩
   ·grind
   ·grind
   grind
  ·rename_i v
   refine⟨a,λi=>?_,λi k=>?_,λi k=>?_,?_,e,c⟩
   ·grind
   ·grind
   ·grind
   grind
 ·rename_i g
  have g:h.floating=false:=Z;have a:b.fl=(l++[h]).filter (·.floating):=Z;rw[if_neg Z]at p
  split
  ·rename_i u
   rw[if_pos u]at p
   split
   ·grind
   ·rename_i s
    have s:(B1 d h.text).2=0:=Classical.byContradiction s;refine⟨a,m,n,r,j,λt G=>?_,Z⟩
    grind
  ·exact⟨a,m,n,r,j,e,c⟩
theorem MY{d km}{l:List Hp}{i h}(a:l[i]? =some h):dD d km (l.take (i+1))=d6 d km (dD d km (l.take i)) h:=by
 unfold dD;rw[Fw a,List.foldl_append];rfl
theorem Bc4{d o}:∀(n:Nat) (l:List Hp),l.length=n->(dD d o l).e=0->qV d o l (dD d o l)
 |0,l,a,_=>by
  rw[oD a]
  exact⟨rfl,λi=>⟨λq=>(by rcases q with q|q<;>cases q),λq=>absurd q (zW _)⟩,λi c=>(by cases c),λi c=>(by cases c),kQ,λt j=>(by cases j),Y⟩
 |n+1,l,a,b=>by
  obtain⟨h,e⟩:=Ar (show n<l.length by omega)
  have k:l=l.take n++[h]:=by rw[<-Fw e,<-a,List.take_length]
  have g:dD d o l=d6 d o (dD d o (l.take n)) h:=by rw[<-MY e,<-a,List.take_length]
  rw[g]at b⊢
  have f:(dD d o (l.take n)).e=0:=Classical.byContradiction λq=>by unfold d6 at b;grind
  have:=(Bdh (Bc4 n (l.take n) Z f) b).1
  grind
theorem wy{d s f g}(Q:cO (aM d) s=0)(N:f∈d.frames)(B:f.hyps.length<1000000)(p:(dD d (bZ (aM d).1 s).km f.hyps).e=0)(ht:(B1 d f.text).2=0)(c:(dD d (bZ (aM d).1 s).km f.hyps).bd.length<=6)(k:0<=g)(U:g<=100000):fX (bZ (aM d).1 s) (rT d (bZ (aM d).1 s).km f g):=by
 have w:(aM d).2=0:=by
  unfold cO at Q
  grind
 obtain⟨E,L,P,R,S,T,b7⟩:=Bc4 f.hyps.length f.hyps rfl p;have J:(dD d (bZ (aM d).1 s).km f.hyps).fl.length<=f.hyps.length:=Z
 have u:∀(l:List aH) (t:Ax),l∈f.text::H8 f.hyps->B1 d l=(t,0)->(∃q,ev (aM d).1.rules t=some q)/\M6 t<=100000/\∀v r,eE v t=true->F4 (aM d).1.rules v=some r->r.var=true->∃h∈(dD d (bZ (aM d).1 s).km f.hyps).fl,h.label=v/\r.sort=h.text.headD []:=λl t B W=>by
  have C:=A4s W
  refine⟨gV.1 C.fm,by have:=C.cn;omega,λv r X hr hv=>?_⟩
  obtain⟨t0,K,e,y⟩:=C.tx;rw[e]at B;obtain⟨h,o,m,n,G⟩:=Bef w N B (y v X) hr hv
  grind
 refine⟨?_,L,λi x=>?_,λi x=>?_,S,c,λh o=>?_,λt j=>?_,by show(dD d _ f.hyps).fl.length<_;omega,by show(dD d _ f.hyps).hy.length<_;omega,k,U⟩
 ·show((dD d (bZ (aM d).1 s).km f.hyps).fl.map (·.label)).Nodup
  rw[E];exact VD w N
 ·obtain⟨h,m,n⟩:=P i x;rw[zZ m];exact n
 ·obtain⟨h,m,n⟩:=R i x;rw[zZ m];exact n
 ·have o:h∈(dD d (bZ (aM d).1 s).km f.hyps).fl:=o;rw[E]at o;have:=gS.1 o;obtain⟨a,b,e⟩:=(JN w N).2 h this.1 Z;rw[e];simp
 ·rcases j with j|rfl
  ·obtain⟨h,m,n,G⟩:=T t j;exact u _ _ (TT m n) G
  ·exact u _ _ (cX ..) (Prod.ext rfl ht)
theorem SP{E nt B df Q f J h N r R Rr id ops}(c e i j){oe s l}{t x y t' x' y'}{a b p q C}(hm:E.P.follows .mixedOrders=true)(hR:Bk E Rr)(hl:ops.toList.length=c.length)(hd:ops.toList.all (λo=>B0 nt o.dst)=true)(L:(Eu ops (Region.before ops).toList&&Fo ops)=true)
  (W:A8 E ops.toList 0=[e,i,j])(aa:ops.toList[e]? =some oe)(ac:ops.toList[i]? =some s)(ae:ops.toList[j]? =some l)(u:((Region.before ops).toList.getD i 0).testBit e=true)(P:((Region.before ops).toList.getD j 0).testBit i=false)
  (a8:s.op=.store t x y)(a9:l.op=.store t' x' y')(n:oe.guard=none)(X:s.guard=none)(w:l.guard=none)(a7:Nat.beq i j=false)(G:a≠b)(S:e<=ops.toList.length)(m:i<=ops.toList.length)(g:j<=ops.toList.length)
  (h2:As E Rr oe.op (Lb ops.toList c f e) J C h)(h3:As E Rr s.op (Lb ops.toList c f i) h An N)(h4:As E Rr l.op (Lb ops.toList c f j) h An r)(h5:As E Rr l.op (Lb ops.toList c f j) N An R)
  (hx:Ah E (Lb ops.toList c f i) x=some (.pr a p))(ak:Ah E (Lb ops.toList c f j) x'=some (.pr b q))(ah:c.getD e .any=C)(K:I.beq C C=true)(ai:c.getD i .any=An)(aj:c.getD j .any=An)
  (cy:∀k,k<ops.toList.length->([e,i,j]:List Nat).contains k=false->∀U:F,(U=J\/((Region.before ops).toList.getD e 0).testBit k=false)->∃o v U',ops.toList[k]? =some o/\o.guard=none/\As E Rr o.op (Lb ops.toList c f k) U v U'/\c.getD k .any=v/\I.beq v v=true)
  (dc:∀(s1 s2 s3 s4 s5:F),([((⟨[],s1,[]⟩:Nd),[e]),(⟨[e],s2,[]⟩,[i,j]),(⟨[i,e],s3,[]⟩,[j]),(⟨[j,e],s4,[]⟩,[i]),(⟨[j,i,e],s5,[]⟩,[])]:NL).all (Vs ops.toList.length (Region.before ops).toList [e,i,j])=true)
  (cw:∀(s1 s2 s3 s4:F),(([((⟨[],s1,[]⟩:Nd),[e]),(⟨[e],s2,[]⟩,[i,j]),(⟨[i,e],s3,[]⟩,[j]),(⟨[j,e],s4,[]⟩,[i])]:NL).all λx=>([e,i,j]:List Nat).any λe=> !x.1.D.contains e)=true)
  (k:Q .normal (Lb ops.toList c f ops.toList.length) R):T E nt df B (.region id ops true) Q f J:=by
 refine Q4 c hm hR hl hd L (λtl d=>?_) k
 rw[W];have e2:=Rz (T:=λk=>tl.getD k .e) (V:=λk=>c.getD k .any) aa n (d e S) ah K h2
 have e3:=O5 (ops:=ops.toList) X (d i m) h3;have e4:=O5 (ops:=ops.toList) w (d j g) h4;have e5:=O5 (ops:=ops.toList) w (d j g) h5
 have ag:Nat.beq a b=false:=by cases hh:Nat.beq a b with|true=>exact absurd (bK hh) G|false=>rfl
 have hu:I.beq An An=true:=by rfl
 have ip:N2 E ops.toList Rr (λk=>tl.getD k .e) (λk=>c.getD k .any) i j [e] h=some ([(⟨[e],h,[]⟩,[i,j]),(⟨[i,e],N,[]⟩,[j]),(⟨[j,e],r,[]⟩,[i])],R):=by
  unfold N2;simp only[ac,ae,e3,e4,e5,a8,a9,(d i m).opd hx,(d j g).opd ak,ai,aj,a7,ag,hu,tF,dR,cond_true]
 refine⟨[(⟨[],J,[]⟩,[e]),(⟨[e],h,[]⟩,[i,j]),(⟨[i,e],N,[]⟩,[j]),(⟨[j,e],r,[]⟩,[i])],⟨[j,i,e],R,[]⟩,?_,rfl,λx hx k hk hc af=>?_,dc _ _ _ _ _,cw _ _ _ _⟩
 ·simp only[Ne,u,P,e2,ip]
  rfl
 ·have al:x.1.J=J\/((Region.before ops).toList.getD e 0).testBit k=false:=by
   have he:e∈x.1.D->((Region.before ops).toList.getD e 0).testBit k=false:=λhm=>by
    unfold Sz at af
    grind
   grind
  obtain⟨o,v,U',q1,q2,q3,q4,q5⟩:=cy k hk hc _ al;exact FY q1 q2 (d k (q' hk)) q4 q5 q3
section
variable {E:aZ}{ρ:Ad}{J:F}{Rr:bP}{t kt r a:Nat}{x y w:Operand}{u:I}{κ α:Type}[DecidableEq κ][KE κ]{enc:α->I}{m:GM κ α}{s:κ}
theorem HA(s:κ):aQ.eq (KE.k s) (KE.k s)=true:=by rw[KE.eq];simp
def jK(a:α->I)(U:I)(m:GM κ α)(s:κ):List (aQ×I):=match m.get s with|some _=>Hi a m|none=>Nx (KE.k s) U (Hi a m)
theorem WZ{U T a e}(L:cq E.P t=some (kt,U,T,e))(W:Ah E ρ x=some (.mp r))(K:J.get r=some (.map kt (Hi enc m) a))(B:Ah E ρ y=some u)(X:D4 E.P kt u=some (KE.k s)):
  As E Rr (.mapEntry t x y) ρ J (.tup [((m.get s).map enc).getD U,.stp (O J)]) ((J.set r (.map kt (jK enc U m s) (a+1))).new (.stamp r (a+1) (KE.k s))):=λn h=>by
 obtain⟨l,g,k,b,c,d,f,i,j⟩:=mI L;simp only[bB,Aw,b,c,d,f,h.opd W,h.opd B,X,Q8,K,cb,Ak,Rt,jK]
 grind
theorem Kh{U T d e v}(L:cq E.P t=some (kt,U,T,e))(W:Ah E ρ x=some (.mp r))(B:Ah E ρ y=some (.stp a))(i:Ah E ρ w=some (enc v))(N:∀f:TI,f.size=T->f.isAgg=e->Je f (enc v)=true)
  (c:J.get a=some (.stamp r d (KE.k s)))(K:J.get r=some (.map kt (jK enc U m s) d)):As E Rr (.entryStore t x y w) ρ J An (J.set r (.map kt (Hi enc (m.put s v)) (d+1))):=λtm h=>by
 obtain⟨X,R,f,k,l,q,S,C,G⟩:=mI L
 have j:∃u,D5 (KE.k s) (jK enc U m s)=some u:=by
  unfold jK
  split
  ·rename_i u b;rw[Rt,b];grind
  ·rename_i b
   have:∀g,D5 (KE.k s) (Nx (KE.k s) U g)=some U\/∃u,D5 (KE.k s) g=some u:=by
    intro g
    induction g with
    |nil=>left;simp[Nx,D5,HA]
    |cons p r P=>
     obtain⟨n,Q⟩:=p;simp only[Nx];cases l:aQ.lt (KE.k s) n with
     |true=>left;simp[D5,HA]
     |false=>
      simp only[cond_false,D5];cases k:aQ.eq (KE.k s) n with
      |true=>exact .inr ⟨Q,rfl⟩
      |false=>exact P
   rcases this (Hi enc m)with h|⟨u,h⟩
   ·grind
   ·rw[Rt,b]at h;cases h
 have o:Ph (KE.k s) (enc v) (jK enc U m s)=Hi enc (m.put s v):=by
  unfold jK GM.put
  split
  ·rename_i u b;rw[HM,b]
  ·rename_i b;rw[Ae1 (HA s) (by rw[Rt,b];rfl),Aiw,b]
 obtain⟨u,j⟩:=j;simp only[bB,Aw,k,l,q,h.opd W,h.opd B,h.opd i,Mf,c,K,cb,N f C G,dR,Ak,j,o]
end
theorem Ds.cellK{J a}(i:bY J)(l:bY a)(S:O a=O J)(H:∀x d,a.get x=some d->J.get x=some d){b o f}(Q:J.get b=some (.cells o))(N:∀U:F,O U=O J->(∀x,x≠b->a.get x=none->U.get x=none)->cH J U o f):Ds J (a.set b (.cells f)):=by
 have c:O (a.set b (.cells f))=O J:=Z;refine⟨Z,λx d g=>?_⟩
 rw[aU]at g
 split at g
 ·rename_i e
  subst e;cases g
  exact⟨by rw[c];exact(i _ _ Q).1,_,Q,.cells (N _ c Z)⟩
 ·rename_i u
  obtain⟨t,n,v⟩:=l x d g;rw[S]at t n;refine⟨Z,d,H x d g,?_⟩;cases d with
  |cells o=>exact .cells (jg (by rw[c];exact n))
  |map q p h=>exact .map (Oi .same (by rw[c];exact n))
  |stamp m h k=>exact .stamp Z
  |loop w=>exact .loop
  |iter m h left s=>
   refine .iter Z ?_;cases m with
   |none=>trivial
   |some r=>
    intro q p j;rw[c,<-S];refine v q p ?_;rw[aU]at j
    split at j
    ·cases j
    ·exact j
theorem PE{l:List Rl}{r:Rl}{s:aH}(S:F4 l r.label=none):F4 (l++[r]) s=if s=r.label then some r else F4 l s:=by
 unfold F4 at *
 grind
theorem Sv{l:List Rl}(S:(l.map (·.label)).Nodup){i:Nat}{r:Rl}(h:l[i]? =some r):F4 (l.take i) r.label=none:=by
 unfold F4;rw[List.find?_eq_none];intro x f e;simp only[decide_eq_true_eq]at e;obtain⟨j,a⟩:=List.getElem?_of_mem f;rw[tJ]at a
 split at a
 ·rename_i d
  have c:(l.map (·.label))[j]? =some r.label:=Z;have b:(l.map (·.label))[i]? =some r.label:=Z;have g:=(bQ.1 b).1;have:=(List.getElem?_inj z S).1 (c.trans b.symm);omega
 ·cases a
theorem PW{E:aZ}{f:Ad}{J:F}{a:bP}{t n T:Nat}{x:Operand}{v:I}{e:Bool}{cs:List I}(L:gN E.P t=some (T,e))(W:Ah E f x=some v)(P:v.cellsN T=some cs)(S:O J=n):As E a (.box t x) f J (.pr n 0) (J.new (.cells cs)):=by subst S;exact zi L W P
section
variable {d:Db}{s:cA}{km km':SM Int}{rm rm':SM Rl}{sm:SM Sy}{a k r y:Nat}{J:F}{O:AO}
theorem fH.setK(h:fH d s km rm sm a k r y J)(u:a≠k)(j:r≠k)(t:y≠k)(K:B8 D (J.set k O) k km'):fH d s km' rm sm a k r y (J.set k O):=by
 obtain⟨e,f,⟨b,g⟩,⟨c,i⟩⟩:=h;exact⟨Z,K,⟨b,Z⟩,⟨c,Z⟩⟩
theorem fH.setR(h:fH d s km rm sm a k r y J)(u:a≠r)(j:k≠r)(t:y≠r)(K:B8 zQ (J.set r O) r rm'):fH d s km rm' sm a k r y (J.set r O):=by
 obtain⟨e,⟨b,f⟩,g,⟨c,i⟩⟩:=h;exact⟨Z,⟨b,Z⟩,K,⟨c,Z⟩⟩
end
theorem OX(d:Db)(s:cA)(J:F)(hD:nE d)(ao:d.vars.length+d.frames.length<1000000)(dg:s.sorts.length<1000000)(ey:s.syms.length<1000000)(aw:∀y∈s.syms,y.vals.length<1000000)(d4:(aM d).1.sorts.length<1000000):Al M 87 [fy d,iE s] J λv J'=>(∃p,v=.tup [p,D (cO (aM d) s)]/\Below (O J) J J'/\(cO (aM d) s=0->p=.pr (O J+3) 0/\∃t,(∀l,t.get l=F4 (aM d).1.rules l)/\fH d s (bZ (aM d).1 s).km t (bZ (aM d).1 s).sm (O J+3) (O J) (O J+1) (O J+2) J')):=by
 have hG:=Yc d;have cx:=hG.len;refine Aj Tryz.func87 rfl rfl λhw gz=>?_
 refine cD ?_;refine Ca (PJ d _ hD ao) ?_;refine cG ?_;refine Ab rfl ?_ ?_<;>intro h1
 ·skip
  refine G6 ?_
  have f:cO (aM d) s=(aM d).2:=by unfold cO;grind
  have c:(aM d).2≠(0:Int):=Z;refine G ?_
  exact⟨_,rfl,_,_,a_ hw Y zN,Y,.same rfl,_,by rw[f];rfl,mE,λh=>absurd (f▸h) c⟩
 ·have bx:(aM d).2=0:=Z;refine G8 ?_;refine cJ 3 ?_ (λH=>?_) ?_
  rotate_left
  ·iterate 3 refine Gn H ?_
   exact Ez
  refine G ?_;refine Ab rfl ?_ ?_<;>intro h2
  ·have ai:(decide (s.size<1)||decide (3<s.size))=true:=h2
   refine G5 ?_
   have f:cO (aM d) s=3:=by unfold cO;grind
   have c:3≠(0:Int):=by decide
   refine G ?_
   exact⟨_,rfl,_,_,a_ hw Y zN,Y,.same rfl,_,by rw[f];rfl,mE,λh=>absurd (f▸h) c⟩
  ·have ai:(decide (s.size<1)||decide (3<s.size))=false:=h2
   have al:1<=s.size:=Z;have am:s.size<=3:=Z;refine G5 ?_;refine A (Cd (n:=O J) gG rfl) (A (Cd (n:=O J+1) zX (fN rfl)) (A (Cd (n:=O J+2) wC (fN (fN rfl))) ?_));refine G ?_;refine A (PW (n:=O J+3) (cs:=dI d s (O J) (O J+1) (O J+2)) aG rfl rfl (fN (fN (fN rfl)))) ?_;refine fJ ?_
   refine Bz s.sorts.length (λi0=>[(3,.pv (mF s)),(6,.pv [Af (aM d).1.sorts,aD eR 4 (aM d).1.rules]),(8,.pr (O J+3) 0),(41,aD kC 2 s.sorts),(42,D (.ofNat s.sorts.length)),(43,D (.ofNat i0))]) (λi0 X=>∃a,fH d s a [] [] (O J+3) (O J) (O J+1) (O J+2) X/\Below (O J) J X/\Ba6 (aM d).1.sorts s.sorts []=Ba6 (aM d).1.sorts (s.sorts.drop i0) a) SL ⟨[],⟨Z,⟨0,by rw[a5,if_neg Z,a5,if_neg Z,a5,if_neg Z,a5,if_pos rfl];rfl⟩,⟨0,by rw[a5,if_neg Z,a5,if_neg Z,a5,if_pos (by rw[Ao])];rfl⟩,⟨0,by rw[a5,if_neg Z,a5,if_pos Z];rfl⟩⟩,⟨Z,Z⟩,rfl⟩ ?_
   rintro i0 X d5 ⟨a,j,i,Q⟩;refine G5 ?_;refine Ab rfl ?_ ?_<;>intro h3
   ·have bc:i0<s.sorts.length:=Z;obtain⟨m,af⟩:=Ar bc;have ag:=A4 af;have o:=j.cl;obtain⟨vk,ap⟩:=id j.ks;rw[ag,Ba6]at Q;refine fJ ?_;refine XS (l:=[(15,[Af (aM d).1.sorts,sV m.code],X,.bool ((aM d).1.sorts.any λy=>decide (m.code=y)),X)]) ⟨pQ (aM d).1.sorts m.code X z,trivial⟩ ?_
    refine G7 ?_;refine kV 8 (!decide (kd a m.code=0)) (λH=>?_) (λ_=>?_)
    ·refine G3 ?_;refine Xn (lO o) ?_;refine G2 ?_;refine Xn (kD bI gG rfl j.ks rfl) ?_;refine G ?_;exact iX
    refine G ?_;refine kV 3 (decide (m.kind<1)) (λH=>?_) (λ_=>?_)
    ·refine G3 ?_;exact iX
    refine G ?_;refine kV 3 (decide (3<m.kind)) (λH=>?_) (λ_=>?_)
    ·refine G3 ?_;exact iX
    refine G ?_;refine kV 8 (decide (m.code=[119,102,102])&& !decide (m.kind=3)) (λH=>?_) (λ_=>?_)
    ·refine G2 ?_;refine Xn (H5 (q:=[119,102,102]) aV rfl rfl) ?_;refine G ?_;refine xI 3 (!decide (m.kind=3)) (λbz=>?_) (λ_=>?_)
     ·refine G3 ?_;exact iX
     exact iX
    refine G ?_;refine Ab rfl ?_ ?_<;>intro h4
    ·refine Bo λe=>?_
     have a7:qG (aM d).1.sorts a m=true:=h4;rw[if_pos a7]at Q
     have hK:(jo (aM d).1 s).1=380:=by unfold jo;rw[Q]
     refine G5 ?_
     have f:cO (aM d) s=380:=by unfold cO;grind
     have c:380≠(0:Int):=by decide
     refine G ?_
     exact⟨_,rfl,_,_,a_ e Y zN,i.1,.same rfl,_,by rw[f];rfl,i,λh=>absurd (f▸h) c⟩
    ·have a7:qG (aM d).1.sorts a m=false:=h4;refine G ?_;refine XS (l:=[]) trivial ?_;refine G3 ?_;refine V (E8 o aG rfl (show Cz 1 false ((dI d s (O J) (O J+1) (O J+2)).drop 6)=some (.mp (O J))from rfl)) ?_
     refine G4 ?_
     refine DT (Gh (v:=m.kind) bI gG rfl ap rfl rfl (λte E K=>by first|exact I0 E K|exact I1 E K|exact I2 E K|exact Jn E K|exact H6 E K rfl)) ?_
     refine G5 ?_
     refine⟨bc,SL,a.put m.code m.kind,j.setK z z z iH,⟨by rw[Aq];exact i.1,λb W=>by rw[aU,if_neg z];exact i.2 b W⟩,Z⟩
   ·have bj:s.sorts.length<=i0:=Z
    have hK:jo (aM d).1 s=(0,a):=by unfold jo;rw[Q,cv bj];rfl
    have o:=j.cl;refine G3 ?_;refine X0 ?_;refine G3 ?_;refine V (E8 o aG rfl (show Cz 1 false ((dI d s (O J) (O J+1) (O J+2)).drop 6)=some (.mp (O J))from rfl)) (V (FR gG rfl j.ks) ?_)
    refine G5 ?_;refine⟨rfl,rfl,?_⟩;refine Ab rfl ?_ ?_<;>intro h4
    ·refine Bo λe=>?_
     have aj:decide (Int.ofNat a.length<Int.ofNat (aM d).1.sorts.length)=true:=h4;refine G5 ?_
     have f:cO (aM d) s=380:=by unfold cO;grind
     have c:380≠(0:Int):=by decide
     refine G ?_
     exact⟨_,rfl,_,_,a_ e Y zN,i.1,.same rfl,_,by rw[f];rfl,i,λh=>absurd (f▸h) c⟩
    ·have aj:decide (Int.ofNat a.length<Int.ofNat (aM d).1.sorts.length)=false:=h4
     iterate 14 refine G ?_
     refine Bz (aM d).1.rules.length (λC=>[(3,.pv (mF s)),(8,.pr (O J+3) 0),(11,D (.ofNat (jf ((aM d).1.rules.take C)).length)),(102,aD eR 4 (aM d).1.rules),(103,D (.ofNat (aM d).1.rules.length)),(104,D (.ofNat C))]) (λC J2=>∃t,fH d s a t [] (O J+3) (O J) (O J+1) (O J+2) J2/\Below (O J) J J2/\∀l,t.get l=F4 ((aM d).1.rules.take C) l) SL ⟨[],j,i,λ_=>rfl⟩ ?_
     rintro C J2 d9 ⟨t,x,w,B⟩;refine G5 ?_;refine Ab rfl ?_ ?_<;>intro h5
     ·have bv:C<(aM d).1.rules.length:=Z;obtain⟨a2,N⟩:=Ar bv;have ay:=A4 N;have a9:=x.cl;obtain⟨vr,aq⟩:=id x.rs;have ac:=Sv hG.nd N
      have P:(jf ((aM d).1.rules.take (C+1))).length=(jf ((aM d).1.rules.take C)).length+if(!a2.var)=true then 1 else 0:=by
       unfold jf
       grind
      have iw:(jf ((aM d).1.rules.take C)).length<=C:=bD (lI _ _) Z;refine cD ?_;refine XS (l:=[]) trivial ?_;refine G3 ?_;refine V (E8 a9 aG rfl (show Cz 1 false ((dI d s (O J) (O J+1) (O J+2)).drop 7)=some (.mp (O J+1))from rfl)) ?_
      refine G3 ?_
      refine DT (Gh (v:=a2) bI zX rfl aq rfl rfl (λte E K=>by first|exact I0 E K|exact I1 E K|exact I2 E K|exact Jn E K|exact H6 E K rfl)) ?_
      refine G7 ?_;refine Ab rfl ?_ ?_<;>intro h6
      ·rw[if_pos h6]at P;refine G9 ?_
       refine⟨bv,⟨rfl,rfl,(by rw[P];rfl),rfl,rfl,rfl,trivial⟩,t.put a2.label a2,x.setR z z z iH,⟨by rw[Aq];exact w.1,λb W=>by rw[aU,if_neg z];exact w.2 b W⟩,λl=>by rw[dP,Fw N,PE ac,B]⟩
      ·rw[if_neg Z,oE]at P;refine G5 ?_
       refine⟨bv,⟨rfl,rfl,(by rw[P];rfl),rfl,rfl,rfl,trivial⟩,t.put a2.label a2,x.setR z z z iH,⟨by rw[Aq];exact w.1,λb W=>by rw[aU,if_neg z];exact w.2 b W⟩,λl=>by rw[dP,Fw N,PE ac,B]⟩
     ·have ba:(aM d).1.rules.length<=C:=Z;rw[dG ba]at B;rw[dG ba];refine cD ?_;refine Bz s.syms.length (λi4=>[(8,.pr (O J+3) 0),(11,D (.ofNat (jf (aM d).1.rules).length)),(122,aD eD 3 s.syms),(123,D (.ofNat s.syms.length)),(124,D (.ofNat i4))]) (λi4 J4=>∃k,fH d s a t k (O J+3) (O J) (O J+1) (O J+2) J4/\Below (O J) J J4/\A82 ⟨(aM d).1.rules,a,[],s.size⟩ s.syms []=A82 ⟨(aM d).1.rules,a,[],s.size⟩ (s.syms.drop i4) k) SL ⟨[],x,w,rfl⟩ ?_
      rintro i4 J4 db ⟨k,g,r,R⟩;refine G5 ?_;refine Ab rfl ?_ ?_<;>intro h6
      ·have dy:i4<s.syms.length:=Z;obtain⟨u,a8⟩:=Ar dy;have ah:=A4 a8;refine Bo λar=>?_
       have ij:=(ar _ _ g.cl).1;rw[ah,A82]at R;have au:=aw u (bA a8)
       iterate 13 refine G ?_
       refine Az rfl rfl rfl rfl (HH d s (aM d).1 ⟨(aM d).1.rules,a,k,s.size⟩ t u (O J+3) (O J) (O J+1) (O J+2) _ hG rfl rfl al am B g au) ?_;rintro _ U ⟨rfl,an,S,aa⟩;have T:Below (O J) J U:=⟨bD r.1 an,λb W=>(S b Z z).trans (r.2 b W)⟩
       refine G7 ?_;refine Ab rfl ?_ ?_<;>intro h7
       ·refine Bo λe=>?_
        have L:¬eG ⟨(aM d).1.rules,a,k,s.size⟩ u=0:=Z;rw[if_neg L]at R
        have hY:(A82 ⟨(aM d).1.rules,a,[],s.size⟩ s.syms []).1=eG ⟨(aM d).1.rules,a,k,s.size⟩ u:=by rw[R]
        refine G6 ?_
        have f:cO (aM d) s=eG ⟨(aM d).1.rules,a,k,s.size⟩ u:=by unfold cO;grind
        have c:eG ⟨(aM d).1.rules,a,k,s.size⟩ u≠(0:Int):=L;refine G ?_
        exact⟨_,rfl,_,_,a_ e Y zN,T.1,.same rfl,_,by rw[f];rfl,T,λh=>absurd (f▸h) c⟩
       ·have L:eG ⟨(aM d).1.rules,a,k,s.size⟩ u=0:=Z;rw[if_pos L]at aa;have ae:fH d s a t (k.put u.label u) (O J+3) (O J) (O J+1) (O J+2) U:=⟨(S _ Z z).trans g.cl,g.ks.imp λv h=>(S _ z z).trans h,g.rs.imp λv h=>(S _ z z).trans h,aa⟩
        refine G5 ?_;refine⟨dy,SL,k.put u.label u,ae,T,Z⟩
      ·have jn:s.syms.length<=i4:=Z
       have hY:A82 ⟨(aM d).1.rules,a,[],s.size⟩ s.syms []=(0,k):=by rw[R,cv jn];rfl
       have ax:bZ (aM d).1 s=⟨(aM d).1.rules,a,k,s.size⟩:=by unfold bZ;grind
       refine G7 ?_;refine A (E8 g.cl aG rfl (show Cz 1 false ((dI d s (O J) (O J+1) (O J+2)).drop 8)=some (.mp (O J+2))from rfl)) (A (FR wC rfl g.ss) ?_)
       refine G3 ?_;refine Ab rfl ?_ ?_<;>intro h7
       ·refine Bo λe=>?_
        have ak:decide (Int.ofNat k.length<Int.ofNat (jf (aM d).1.rules).length)=true:=h7;refine G5 ?_
        have f:cO (aM d) s=381:=by unfold cO;grind
        have c:381≠(0:Int):=by decide
        refine G ?_
        exact⟨_,rfl,_,_,a_ e Y zN,r.1,.same rfl,_,by rw[f];rfl,r,λh=>absurd (f▸h) c⟩
       ·refine Bo λe=>?_
        have ak:decide (Int.ofNat k.length<Int.ofNat (jf (aM d).1.rules).length)=false:=h7;refine G7 ?_
        have f:cO (aM d) s=0:=by unfold cO;grind
        refine G ?_
        exact⟨_,rfl,_,_,a_ e Y zN,r.1,.same (by show(I.und (O J4) (.pr (O J+3) 0)&&(true&&true))=true;rw[show I.und (O J4) (.pr (O J+3) 0)=true from Ce (e _ _ g.cl).1];rfl),_,by rw[f];rfl,r,λ_=>⟨rfl,t,B,Z⟩⟩
end Go.AM
