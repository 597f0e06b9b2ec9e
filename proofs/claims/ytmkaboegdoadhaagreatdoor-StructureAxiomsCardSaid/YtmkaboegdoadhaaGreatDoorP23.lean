/- A part of the proof; shortened by program. -/
import Derived.Test.YtmkaboegdoadhaaGreatDoorP22
set_option maxRecDepth 100000
set_option maxHeartbeats 4000000
set_option linter.all false
namespace Go.AM
open Go Go.Proofs
def eY(k:List Pt):Nat:=(k.filter λp=>decide (p.sort≠[])).length
theorem zf{ps}:eY ps<=ps.length:=lI _ _
theorem MK{k:List Pt}{i}{p:Pt}(h:k[i]? =some p):eY (k.take (i+1))=if p.sort=[]then eY (k.take i)else eY (k.take i)+1:=by
 have e:k.take (i+1)=k.take i++[p]:=by rw[List.take_add_one,h];rfl
 unfold eY
 grind
theorem TB(n):rep [.str [],.int .i64 0,.int .i64 0] n=(List.replicate n kF).flatMap c7:=by
 induction n with
 |zero=>rfl
 |succ n a=>rw[List.replicate_succ,ej,<-a];rfl
theorem O3{f J a t n T b x y U}(L:fM M.P t=some (T,b,some U))(W:Ah M f x=some (nV n))(B:Ah M f y=some (nV n))(d:n*(b+1)<=az)(q:Nat.beq U.length T=true:=by rfl):As M a (.makeSlice t x y) f J (.sr (O J) 0 T n (some n)) (J.new (.cells (rep U n))):=λm h=>by
 unfold fM at L
 split at L
 ·rename_i r g
  split at L
  ·rename_i e p
   split at L
   ·rename_i l c
    simp only[bH,cE]at L;obtain⟨rfl,rfl,k⟩:=L
    have o:(Nat.ble n n&&Nat.ble (n*(l.bytes+1)) az)=true:=by
     rw[dS (Nat.le_refl n),dS d];rfl
    have i:opd M m x=nV n:=h.opd W;have j:opd M m y=nV n:=h.opd B;simp only[bB,Aw,g,p,c,k,q,i,j]
    show cond (Nat.ble n n&&Nat.ble (n*(l.bytes+1)) az) _ _=_
    rw[o];rfl
   ·cases L
  ·cases L
 ·cases L
theorem QS{N}(k):I.unds N [aD cL 3 k]=true:=by
 have:=Vj (N:=N) ⟨[],[],k,false⟩;simp only[eR,I.unds,bg]at this⊢
 grind
def ND(P r t n k a:Nat)(b:List Pt):I:=.fn (.func 190) [] [.pv [.pr P 0],.pv [nV r],.pv [nV t],.pv [aD cL 3 b],.pv [.sr k 0 3 n (some n)],.pv [nV a]]
theorem Apz{N P r t n k a b}(d:P<N)(e:k<N):I.und N (ND P r t n k a b)=true:=by
 have c:(I.und N (aD cL 3 b)&&true)=true:=QS b;rw[Bool.and_true]at c
 show(true&&((Nat.blt P N&&true)&&(true&&(true&&((I.und N (aD cL 3 b)&&true)&&((Nat.blt k N&&true)&&(true&&true)))))))=true
 rw[c,Ce d,Ce e];rfl
theorem CT{g R k X P mN mT W J r w}(h:ee g R k X P mN mT W J)(E:g.rules[r]? =some w)(hR:g.rules.length<=1000000)(i:w.parts.length<1000000)(a t):Al M 156 [.pr P 0,nV r,nV a,nV t] J λv m=>v=ND P r t (eY w.parts) (O J) a w.parts/\m.get (O J)=some (.cells ((List.replicate (eY w.parts) kF).flatMap c7))/\O m=O J+1/\∀b,b<O J->m.get b=J.get b:=by
 obtain⟨f,c⟩:=zE (J.new (.cells (rep [.str [],.int .i64 0,.int .i64 0] (eY w.parts))));have n1:O f=O J+1:=Z;have Q:∀b,b<O J->f.get b=J.get b:=Z
 have u:f.get (O J)=some (.cells ((List.replicate (eY w.parts) kF).flatMap c7)):=by rw[<-c,a5,if_pos rfl,TB]
 refine Aj Tryz.func156 rfl rfl λhw U=>?_
 refine G8 ?_;refine Gz 9 [nS] [aD cL 3 w.parts] [] (QS w.parts) rfl (λy=>?_) ?_
 ·refine XX 1 (l:=[]) trivial ?_;refine G3 ?_;refine V (lO h.pk) ?_;refine G3 ?_;refine V (lO h.cl) ?_;refine G3 ?_
  refine V (Ac aG rfl rfl (Z7 w _)) (DT (Bu bG) (DT (sO (cs:=[nS]) (cs':=[aD cL 3 w.parts]) (by rw[a5,if_pos rfl])) ?_))
  refine G ?_
  exact⟨(by intro e K;simp at K;rcases K with rfl|rfl<;>first|exact .refl|exact K4 y),trivial,sb,rfl,rfl⟩
 refine cG ?_;refine Bz w.parts.length (λd=>[(4,.pv [.pr P 0]),(5,.pv [nV r]),(6,.pv [nV a]),(7,.pv [nV t]),(9,.pv [aD cL 3 w.parts]),(10,nV (eY (w.parts.take d))),(26,aD cL 3 w.parts),(27,nV w.parts.length),(28,nV d)]) (λd C=>C=J) SL rfl ?_
 rintro d C S j;subst j;refine G5 ?_;refine Ab rfl ?_ ?_<;>intro h1
 ·have o:d<w.parts.length:=Z;obtain⟨p,L⟩:=Ar o;have qa:=zf (ps:=w.parts.take d);rw[gC]at qa;refine G6 ?_;refine A (Ac aG rfl rfl (A6 (Jy p) _)) (Ho bG aG rfl zF rfl (A7 (Jy p)) rfl rfl ?_)
  refine G4 ?_;refine A (Ac aG rfl rfl (Tt p)) (A (Ko (q:=[]) aV rfl rfl) ?_);refine G ?_;refine Ab rfl ?_ ?_<;>intro h2
  ·have s:p.sort≠[]:=Z;refine G9 ?_
   refine⟨o,⟨rfl,rfl,rfl,rfl,rfl,by rw[MK L,if_neg s];rfl,rfl,rfl,rfl,trivial⟩,rfl⟩
  ·have s:p.sort=[]:=Z;refine G5 ?_
   refine⟨o,⟨rfl,rfl,rfl,rfl,rfl,by rw[MK L,if_pos s];rfl,rfl,rfl,rfl,trivial⟩,rfl⟩
 ·have N:w.parts.length<=d:=Z;have x:w.parts.take d=w.parts:=dG N;rw[x];have T:=zf (ps:=w.parts);refine G4 ?_
  refine A (O3 (n:=eY w.parts) aJ rfl rfl (by simp only[az];omega)) ?_
  refine G2 ?_;rw[c];refine G5 ?_;refine Bo λB=>?_
  refine G ?_
  exact⟨_,rfl,_,_,a_ B Y zN,by omega,.same (Apz (by have:=h.lt.1;omega) z),rfl,u,n1,Q⟩
theorem HS{y L}(hL:L∈y){g text D X P mN mT aK r t}{w:Rl}{α I aA st}(B:qC y L g text D X P mN mT aK (eY w.parts) I aA st)(E:g.rules[r]? =some w)(hG:∀p∈w.parts,p.sort≠[]->∃j:Nat,p.arg=Int.ofNat j/\j<eY w.parts)(hR:g.rules.length<=1000000)(a8:w.parts.length<=1000000-1)(N:text.length<=1000000)(ht:t<=text.length)(K:aK≠mT)(a)(f:α)(o J)(ha:a<=text.length)(v:I f o J)(hF:∀b,o b->b<O J)(R:aK<O J)(hk:J.get aK=some (.cells ((List.replicate (eY w.parts) kF).flatMap c7))):
  Hl M y 190 (.yl L.aY::[.pv [.pr P 0],.pv [nV r],.pv [nV t],.pv [aD cL 3 w.parts],.pv [.sr aK 0 3 (eY w.parts) (some (eY w.parts))],.pv [nV a]]) J λ_ q=>match foM st (Qx g D text r a t) f with
   |some c=>∃m,I c m q/\iA mT aK o J m q
   |none=>O J<=O q/\∃x,x≠.normal/\aA x q:=by
 have S:du g r=w.parts:=by unfold du;rw[E]
 have qe:Qx g D text r a t=wyP D text t w.parts a (List.replicate (eY w.parts) kF):=by unfold Qx;rw[S];rfl
 obtain⟨lv,k⟩:=B.pk _ _ _ v;obtain⟨l1,l2,l3,l4⟩:=k.lt;have a7:=zf (ps:=w.parts);obtain⟨d,l⟩:∃d,(J.bump.new (.cells [.nil .nilFunc])).set (O J+1) (.cells [qY P r t (eY w.parts) aK w.parts L (O J+1)])=d:=⟨_,rfl⟩;have n2:O d=O J+2:=Z;have s:∀b,b<O J->d.get b=J.get b:=Z;have e:d.get (O J+1)=some (.cells [qY P r t (eY w.parts) aK w.parts L (O J+1)]):=Z;have C:I f o d:=B.stb _ _ _ _ v z (λb Q _ _=>s b Q) (k.rs.of_get (s mT l4))
 refine Mo Tryz.func190 (Ke _ _ Tryz.func190) rfl rfl λhw a9=>?_
 iterate  6 refine G ?_
 refine A (Bj (n:=O J+1) bG (Bm J)) ?_
 iterate  4 refine G ?_
 refine A (sO (cs:=[.nil .nilFunc]) (cs':=[qY P r t (eY w.parts) aK w.parts L (O J+1)]) (by rw[a5,if_pos (Bm J).symm])) ?_
 refine G ?_;rw[l];refine Oo ?_;refine Er ?_;refine Gm 2 λdf=>?_
 refine A (lO e) ?_
 iterate  2 refine G ?_
 refine L5 (λ_ _=>rfl) rfl rfl rfl rfl rfl (f191 (aF:=O J+1) hL B E hG hR z N ht z ⟨by omega,by omega,K⟩ w.parts 0 a _ f o d rfl (bU _) ha (kA ..) C Z ⟨by omega,by omega⟩ ((s aK R).trans hk) e) λu J3 i hn=>?_
 refine G ?_;intro T
 refine⟨[],rfl,_,_,a_ T Y (λ_ _=>rfl),by omega,.same rfl,?_⟩
 rw[qe];unfold Tu at i;cases h:foM st (wyP D text t w.parts a (List.replicate (eY w.parts) kF)) f with
 |none=>
  rw[h]at i
  exact⟨by omega,i.2.2⟩
 |some c=>
  rw[h]at i;obtain⟨_,m,K',U,W,_⟩:=i;exact⟨m,U,(iA.of z λb Q _ _=>s b Q).trans W⟩
def fQ(w:Wy):List I:=[nV w.rule,aD eN 1 w.kids]
def cQ(x:cN):List I:=[sV x.sp.1,nV x.sp.2.1,nV x.sp.2.2,aD fQ 2 x.ways]
def fV(o:List cN):I:=.agg [aD cQ 4 o]
theorem Gq(w):(fQ w).length=2:=rfl
theorem Mw(w):(cQ w).length=4:=rfl
theorem OW{N}(w):I.unds N (fQ w)=true:=by
 have:I.unds N (w.kids.flatMap eN)=true:=A2 (λx=>vM x) _
 simp only[fQ,I.unds,I.und,aD,this,dR,Bool.and_true];rfl
theorem Vp{N}(x):I.unds N (cQ x)=true:=by
 have:I.unds N (x.ways.flatMap fQ)=true:=A2 OW _;simp only[cQ,I.unds,I.und,aD,this,dR,Bool.and_true,sV];rfl
inductive Pg where
 |r1
 |r2
 |f
 |tot
 |nd
 |w
 |lv
 |wv
 |nv
 |kv
 deriving DecidableEq
structure Px where
 r1:Nat
 r2:Nat
 f:Nat
 tot:Nat
 nd:Option Nat
 w:Option Nat
 lv:I
 wv:I
 nv:I
 kv:I
def Px.loc(J:Px):Pg->Option Nat
 |.r1=>some J.r1
 |.r2=>some J.r2
 |.f=>some J.f
 |.tot=>some J.tot
 |.nd=>J.nd
 |.w=>J.w
 |.lv=>bm J.lv
 |.wv=>bm J.wv
 |.nv=>bm J.nv
 |.kv=>bm J.kv
structure Pc where
 g:Gr
 text:List aH
 D:List Sp
 X:Cp
 P:Nat
 mN:Nat
 mT:Nat
 N0:Nat
 M:Nat
 rv:SM I
 J0:F
structure Xe (c:Pc):Prop where
 lt:c.P<c.N0/\c.X.c<c.N0/\c.X.mD<c.N0/\c.mT<c.N0
 ne:c.mN≠c.X.mD/\c.mN≠c.mT
 M:c.M<=c.P/\c.M<=c.mN/\c.M<=c.mT/\c.M<=c.N0
 rl:∀a,(a=c.X.mR\/∃s v,c.rv.get s=some v/\bm v=some a)->a<c.N0/\a≠c.P/\a≠c.mN/\a≠c.mT
structure rP (g:Gr)(rv:SM I)(mR:Nat)(J:F):Prop where
 map:B8 (λv:I=>v) J mR rv
 get:∀s,match rv.get s with|none=>E5 g s=[]|some v=>aW J 0 eN 1 (E5 g s) v
theorem rP.of_get{g l c J U}(h:rP g l c J)(S:O J<=O U)(H:∀a,(a=c\/∃s v,l.get s=some v/\bm v=some a)->U.get a=J.get a):rP g l c U:=by
 refine⟨h.map.of_get (H _ (.inl rfl)),λs=>?_⟩
 have:=h.get s;cases b:l.get s with
 |none=>rw[b]at this;exact this
 |some v=>rw[b]at this;exact this.of_get S λa d=>H a (.inr ⟨s,v,b,d⟩)
structure PS (c:Pc)(Y:Px)(L:List Sp)(total:Nat)(nodes:List cN)(s:Sp)(ws:List Wy)(r:Nat)(ks:List Nat)(J:F):Prop where
 inj:∀t u a,Y.loc t=some a->Y.loc u=some a->t=u
 lo:∀t a,Y.loc t=some a->c.N0<=a/\a<O J
 pkb:ee c.g c.text c.D c.X c.P c.mN c.mT Y.lv J
 pkl:oU L c.N0 c.mN Y.lv J
 rl:rP c.g c.rv c.X.mR J
 r1:J.get Y.r1=some (.cells [nS])
 r2:J.get Y.r2=some (.cells [.bool false])
 f:J.get Y.f=some (.cells [Y.nv])
 nv:aW J c.N0 cQ 4 nodes Y.nv
 tot:J.get Y.tot=some (.cells [nV total])
 nd:∀a,Y.nd=some a->J.get a=some (.cells [sV s.1,nV s.2.1,nV s.2.2,Y.wv])
 wv:aW J c.N0 fQ 2 ws Y.wv
 w:∀a,Y.w=some a->J.get a=some (.cells [nV r,Y.kv])
 kv:aW J c.N0 eN 1 ks Y.kv
 blw:Below c.M c.J0 J
theorem Ry{c b:Pg->Option Nat}{t0 N}(d:∀t u a,c t=some a->c u=some a->t=u)(j:∀t a,c t=some a->a<N)(h:∀t,t≠t0->b t=c t)(f:∀a,b t0=some a->c t0=some a\/N<=a):∀t u a,b t=some a->b u=some a->t=u:=by
 intro t u a g i
 by_cases e:t=t0
 ·grind
 grind
section
variable {c:Pc}{Y:Px}{L:List Sp}{total:Nat}{nodes:List cN}{s:Sp}{ws:List Wy}{r:Nat}{ks:List Nat}{J U:F}
theorem PS.ltn(h:PS c Y L total nodes s ws r ks J):c.N0<=O J:=h.pkl.lt.2
theorem PS.keep(h:PS c Y L total nodes s ws r ks J)(f:Xe c)(S:O J<=O U)(H:∀b,b<c.N0->b≠c.mT->U.get b=J.get b)(m:∀t a,Y.loc t=some a->U.get a=J.get a)(w:Vo c.g c.D c.text U c.mT):PS c Y L total nodes s ws r ks U:=by
 have g:=h.pkb.ne;have i:=f.lt;have k:=f.M;refine⟨h.inj,λt a e=>⟨(h.lo t a e).1,cC (h.lo t a e).2 S⟩,⟨(H _ i.1 g.1).trans h.pkb.pk,(H _ i.2.1 g.2.1).trans h.pkb.cl,h.pkb.dn.of_get (H _ i.2.2.1 g.2.2),w,?_⟩,h.pkl.of_get S (H _ h.pkl.lt.1 f.ne.2) (λa d=>m .lv a d),h.rl.of_get S (λa d=>H a (f.rl a d).1 (f.rl a d).2.2.2),(m .r1 _ rfl).trans h.r1,(m .r2 _ rfl).trans h.r2,(m .f _ rfl).trans h.f,h.nv.of_get S (λa d=>m .nv a d),(m .tot _ rfl).trans h.tot,λa d=>(m .nd a d).trans (h.nd a d),h.wv.of_get S (λa d=>m .wv a d),λa d=>(m .w a d).trans (h.w a d),h.kv.of_get S (λa d=>m .kv a d),bD h.blw.1 S,λb j=>(H b z z).trans (h.blw.2 b j)⟩
 have:=h.pkb.lt;omega
theorem PS.news(h:PS c Y L total nodes s ws r ks J)(f:Xe c)(S:O J<=O U)(H:∀b,b<O J->U.get b=J.get b):PS c Y L total nodes s ws r ks U:=
 h.keep f S (λb e _=>H b (cC e h.ltn)) (λt a d=>H a (h.lo t a d).2) (h.pkb.rs.of_get (H _ h.pkb.lt.2.2.2))
theorem PS.meet(h:PS c Y L total nodes s ws r ks J)(j:Xe c)(x)(w:L.length<=30000000):
  ∃d U,Al M 155 [.pr c.P 0,.agg (c7 x)] J (λu G=>u=nV (D2 L x).1/\G=U)/\PS c { Y with lv:=d } (D2 L x).2 total nodes s ws r ks U/\O J<=O U/\(∀b,b<O J->b≠c.P->b≠c.mN->(∀t,Y.loc t≠some b)->U.get b=J.get b)/\(∀t a,({ Y with lv:=d }:Px).loc t=some a->(∃u,Y.loc u=some a)\/O J<=a):=by
 obtain⟨d,U,C,B,v,f⟩:=wQ h.pkb h.pkl j.lt j.ne x w;have Q:=j.lt.1;have P:=h.pkl.lt.1;have H:∀b,b<O J->c.N0<=b->bm Y.lv≠some b->U.get b=J.get b:=λb k o l=>f.g b k z z l
 have E:∀t a,({ Y with lv:=d }:Px).loc t=some a->(∃u,Y.loc u=some a)\/O J<=a:=λt a q=>by
  by_cases e:t=.lv
  ·subst e
   rcases f.a a q with q|q
   ·exact .inl ⟨.lv,q⟩
   grind
  ·exact .inl ⟨t,by cases t<;>first|exact q|exact absurd rfl e⟩
 refine⟨d,U,C,?_,f.n,λb k o l y=>f.g b k o l (y .lv),E⟩
 have g:∀t a,t≠.lv->Y.loc t=some a->U.get a=J.get a:=λt a n i=>H a (h.lo t a i).2 (h.lo t a i).1 λe=>n (h.inj t .lv a i e)
 have m:∀b,b<c.N0->b≠c.P->b≠c.mN->U.get b=J.get b:=λb k o l=>f.g b (cC k h.ltn) o l λe=>by have:=(h.lo .lv b e).1;omega
 have p:∀t,t≠Pg.lv->({ Y with lv:=d }:Px).loc t=Y.loc t:=λt n=>by cases t<;>first|rfl|exact absurd rfl n
 have K:=j.M
 refine⟨Ry (t0:=.lv) (N:=O J) h.inj (λt a q=>(h.lo t a q).2) p (λa q=>f.a a q),λt a q=>?_,B,v,h.rl.of_get f.n (λa q=>m a (j.rl a q).1 (j.rl a q).2.1 (j.rl a q).2.2.1),(g .r1 _ zS rfl).trans h.r1,(g .r2 _ zS rfl).trans h.r2,(g .f _ zS rfl).trans h.f,h.nv.of_get f.n (λa q=>g .nv a zS q),(g .tot _ zS rfl).trans h.tot,λa q=>(g .nd a zS q).trans (h.nd a q),h.wv.of_get f.n (λa q=>g .wv a zS q),λa q=>(g .w a zS q).trans (h.w a q),h.kv.of_get f.n (λa q=>g .kv a zS q),bD h.blw.1 f.n,λb q=>(m b z z z).trans (h.blw.2 b q)⟩
 by_cases e:t=.lv
 ·subst e;exact v.lst.adr_lt q
 ·rw[p t e]at q;have:=h.lo t a q;have:=f.n;omega
theorem PS.kid(h:PS c Y L total nodes s ws r ks J)(x:Xe c){a}(i:Y.w=some a)(k)(G:ks.length<=30000000):
  ∃d,B6 J 1 8 Y.kv 1 (eN k)=some (.sr (O J) 0 1 (ks.length+1) none,d)/\d.get a=some (.cells [nV r,Y.kv])/\O d=O J+1/\
   PS c { Y with kv:=.sr (O J) 0 1 (ks.length+1) none } L total nodes s ws r (ks++[k]) (d.set a (.cells [nV r,.sr (O J) 0 1 (ks.length+1) none]))/\(∀b,b<O J->b≠a->bm Y.kv≠some b->(d.set a (.cells [nV r,.sr (O J) 0 1 (ks.length+1) none])).get b=J.get b):=by
 obtain⟨d,u,w,v,B⟩:=jB (by':=8) Ep h.ltn h.kv k (by simp only[az];omega)
 have m:Y.loc .w=some a:=i;have p:=h.lo .w a m
 have o:bm Y.kv≠some a:=λe=>by cases h.inj .kv .w a e m
 have H:∀b,b<O J->b≠a->bm Y.kv≠some b->(d.set a (.cells [nV r,.sr (O J) 0 1 (ks.length+1) none])).get b=J.get b:=Z;refine⟨d,u,(B a p.2 o).trans (h.w a i),w,?_,H⟩;have l:O J<=O (d.set a (.cells [nV r,.sr (O J) 0 1 (ks.length+1) none])):=Z;have g:∀t b,t≠.kv->t≠.w->Y.loc t=some b->(d.set a (.cells [nV r,.sr (O J) 0 1 (ks.length+1) none])).get b=J.get b:=λt b E w j=>H b (h.lo t b j).2 (λe=>w (h.inj t .w b j Z)) λe=>E (h.inj t .kv b j e)
 have f:∀b,b<c.N0->(d.set a (.cells [nV r,.sr (O J) 0 1 (ks.length+1) none])).get b=J.get b:=λb C=>H b (cC C h.ltn) z λe=>by have:=(h.lo .kv b e).1;omega
 have y:∀t,t≠Pg.kv->({ Y with kv:=.sr (O J) 0 1 (ks.length+1) none }:Px).loc t=Y.loc t:=λt n=>by cases t<;>first|rfl|exact absurd rfl n
 have K:=x.M;have P:=x.lt
 refine⟨Ry (t0:=.kv) (N:=O J) h.inj (λt a q=>(h.lo t a q).2) y (λb q=>.inr (by cases q;grind)),λt b q=>?_,h.pkb.of_get l (λb q=>f b Z),h.pkl.of_get l (f _ h.pkl.lt.1) (λb q=>g .lv b zS zS q),h.rl.of_get l (λb q=>f b (x.rl b q).1),(g .r1 _ zS zS rfl).trans h.r1,(g .r2 _ zS zS rfl).trans h.r2,(g .f _ zS zS rfl).trans h.f,h.nv.of_get l (λb q=>g .nv b zS zS q),(g .tot _ zS zS rfl).trans h.tot,λb q=>(g .nd b zS zS q).trans (h.nd b q),h.wv.of_get l (λb q=>g .wv b zS zS q),λb q=>?_,v.of_get Z (λb q=>?_),bD h.blw.1 l,λb q=>(f b z).trans (h.blw.2 b q)⟩
 ·by_cases e:t=.kv
  ·subst e;cases q;grind
  ·rw[y t e]at q;have:=h.lo t b q;omega
 ·grind
 ·cases q;grind
theorem PS.noway(h:PS c Y L total nodes s ws r ks J)(j:Xe c)(S:O U=O J)(H:∀b,Y.w≠some b->bm Y.kv≠some b->U.get b=J.get b):PS c { Y with w:=none,kv:=nS } L total nodes s ws 0 [] U:=by
 have i:∀t a,({ Y with w:=none,kv:=nS }:Px).loc t=some a->Y.loc t=some a/\t≠.w/\t≠.kv:=λt a q=>by cases t<;>first|exact⟨q,by simp,by simp⟩|cases q
 have g:∀t a,t≠.w->t≠.kv->Y.loc t=some a->U.get a=J.get a:=λt a k l q=>H a (λe=>k (h.inj t .w a q e)) (λe=>l (h.inj t .kv a q e))
 have f:∀b,b<c.N0->U.get b=J.get b:=λb p=>H b (λe=>by have:=(h.lo .w b e).1;omega) (λe=>by have:=(h.lo .kv b e).1;omega)
 have o:=j.M;have v:=j.lt
 have d:O J<=O U:=by omega
 exact⟨λt u a m n=>h.inj t u a (i t a m).1 (i u a n).1,λt a q=>by have:=h.lo t a (i t a q).1;omega,h.pkb.of_get d (λb q=>f b Z),h.pkl.of_get d (f _ h.pkl.lt.1) (λb q=>g .lv b zS zS q),h.rl.of_get d (λb q=>f b (j.rl b q).1),(g .r1 _ zS zS rfl).trans h.r1,(g .r2 _ zS zS rfl).trans h.r2,(g .f _ zS zS rfl).trans h.f,h.nv.of_get d (λb q=>g .nv b zS zS q),(g .tot _ zS zS rfl).trans h.tot,λb q=>(g .nd b zS zS q).trans (h.nd b q),h.wv.of_get d (λb q=>g .wv b zS zS q),λb q=>(by cases q),.nil,bD h.blw.1 d,λb q=>(f b z).trans (h.blw.2 b q)⟩
theorem PS.nonode(h:PS c Y L total nodes s ws r ks J)(j:Xe c)(S:O U=O J)(H:∀b,Y.nd≠some b->bm Y.wv≠some b->U.get b=J.get b)(o):PS c { Y with nd:=none,wv:=nS } L total nodes o [] r ks U:=by
 have i:∀t a,({ Y with nd:=none,wv:=nS }:Px).loc t=some a->Y.loc t=some a/\t≠.nd/\t≠.wv:=λt a q=>by cases t<;>first|exact⟨q,by simp,by simp⟩|cases q
 have g:∀t a,t≠.nd->t≠.wv->Y.loc t=some a->U.get a=J.get a:=λt a k l q=>H a (λe=>k (h.inj t .nd a q e)) (λe=>l (h.inj t .wv a q e))
 have f:∀b,b<c.N0->U.get b=J.get b:=λb v=>H b (λe=>by have:=(h.lo .nd b e).1;omega) (λe=>by have:=(h.lo .wv b e).1;omega)
 have p:=j.M;have w:=j.lt
 have d:O J<=O U:=by omega
 exact⟨λt u a m n=>h.inj t u a (i t a m).1 (i u a n).1,λt a q=>by have:=h.lo t a (i t a q).1;omega,h.pkb.of_get d (λb q=>f b Z),h.pkl.of_get d (f _ h.pkl.lt.1) (λb q=>g .lv b zS zS q),h.rl.of_get d (λb q=>f b (j.rl b q).1),(g .r1 _ zS zS rfl).trans h.r1,(g .r2 _ zS zS rfl).trans h.r2,(g .f _ zS zS rfl).trans h.f,h.nv.of_get d (λb q=>g .nv b zS zS q),(g .tot _ zS zS rfl).trans h.tot,λb q=>(by cases q),.nil,λb q=>(g .w b zS zS q).trans (h.w b q),h.kv.of_get d (λb q=>g .kv b zS zS q),bD h.blw.1 d,λb q=>(f b z).trans (h.blw.2 b q)⟩
theorem PS.way(h:PS c Y L total nodes s ws r ks J)(x:Xe c){a}(i:Y.nd=some a)(k)(K:ws.length<=30000000):
  ∃d,B6 J 2 32 Y.wv 1 (fQ k)=some (.sr (O J) 0 2 (ws.length+1) none,d)/\d.get a=some (.cells [sV s.1,nV s.2.1,nV s.2.2,Y.wv])/\O d=O J+1/\
   PS c { Y with wv:=.sr (O J) 0 2 (ws.length+1) none } L total nodes s (ws++[k]) r ks (d.set a (.cells [sV s.1,nV s.2.1,nV s.2.2,.sr (O J) 0 2 (ws.length+1) none]))/\(∀b,b<O J->b≠a->bm Y.wv≠some b->(d.set a (.cells [sV s.1,nV s.2.1,nV s.2.2,.sr (O J) 0 2 (ws.length+1) none])).get b=J.get b):=by
 obtain⟨d,u,w,v,B⟩:=jB (by':=32) Gq h.ltn h.wv k (by simp only[az];omega)
 have m:Y.loc .nd=some a:=i;have p:=h.lo .nd a m
 have o:bm Y.wv≠some a:=λe=>by cases h.inj .wv .nd a e m
 generalize P:AO.cells [sV s.1,nV s.2.1,nV s.2.2,.sr (O J) 0 2 (ws.length+1) none]=C
 have H:∀b,b<O J->b≠a->bm Y.wv≠some b->(d.set a C).get b=J.get b:=Z;refine⟨d,u,(B a p.2 o).trans (h.nd a i),w,?_,H⟩;have l:O J<=O (d.set a C):=Z;have g:∀t b,t≠.wv->t≠.nd->Y.loc t=some b->(d.set a C).get b=J.get b:=λt b G w j=>H b (h.lo t b j).2 (λe=>w (h.inj t .nd b j Z)) λe=>G (h.inj t .wv b j e)
 have f:∀b,b<c.N0->(d.set a C).get b=J.get b:=λb E=>H b (cC E h.ltn) z λe=>by have:=(h.lo .wv b e).1;omega
 have y:∀t,t≠Pg.wv->({ Y with wv:=.sr (O J) 0 2 (ws.length+1) none }:Px).loc t=Y.loc t:=λt n=>by cases t<;>first|rfl|exact absurd rfl n
 have Q:=x.M;have R:=x.lt
 refine⟨Ry (t0:=.wv) (N:=O J) h.inj (λt a q=>(h.lo t a q).2) y (λb q=>.inr (by cases q;grind)),λt b q=>?_,h.pkb.of_get l (λb q=>f b Z),h.pkl.of_get l (f _ h.pkl.lt.1) (λb q=>g .lv b zS zS q),h.rl.of_get l (λb q=>f b (x.rl b q).1),(g .r1 _ zS zS rfl).trans h.r1,(g .r2 _ zS zS rfl).trans h.r2,(g .f _ zS zS rfl).trans h.f,h.nv.of_get l (λb q=>g .nv b zS zS q),(g .tot _ zS zS rfl).trans h.tot,λb q=>?_,v.of_get Z (λb q=>?_),λb q=>(g .w b zS zS q).trans (h.w b q),h.kv.of_get l (λb q=>g .kv b zS zS q),bD h.blw.1 l,λb q=>(f b z).trans (h.blw.2 b q)⟩
 ·by_cases e:t=.wv
  ·subst e;cases q;grind
  ·rw[y t e]at q;have:=h.lo t b q;omega
 ·grind
 ·cases q;grind
theorem PS.node(h:PS c Y L total nodes s ws r ks J)(v:Xe c)(k)(E:nodes.length<=30000000):
  ∃d,B6 J 4 56 Y.nv 1 (cQ k)=some (.sr (O J) 0 4 (nodes.length+1) none,d)/\d.get Y.f=some (.cells [Y.nv])/\O d=O J+1/\
   PS c { Y with nv:=.sr (O J) 0 4 (nodes.length+1) none } L total (nodes++[k]) s ws r ks (d.set Y.f (.cells [.sr (O J) 0 4 (nodes.length+1) none])):=by
 obtain⟨d,o,u,p,x⟩:=jB (by':=56) Mw h.ltn h.nv k (by simp only[az];omega)
 have m:=h.lo .f _ rfl
 have l:bm Y.nv≠some Y.f:=λe=>by cases h.inj .nv .f Y.f e rfl
 generalize G:AO.cells [I.sr (O J) 0 4 (nodes.length+1) none]=C
 have H:∀b,b<O J->b≠Y.f->bm Y.nv≠some b->(d.set Y.f C).get b=J.get b:=Z;refine⟨d,o,(x _ m.2 l).trans h.f,u,?_⟩;have j:O J<=O (d.set Y.f C):=Z
 have g:∀t b,t≠.nv->t≠.f->Y.loc t=some b->(d.set Y.f C).get b=J.get b:=λt b B u i=>H b (h.lo t b i).2 (λe=>u (h.inj t .f b i (by rw[e];rfl))) λe=>B (h.inj t .nv b i e)
 have f:∀b,b<c.N0->(d.set Y.f C).get b=J.get b:=λb y=>H b (cC y h.ltn) z λe=>by have:=(h.lo .nv b e).1;omega
 have w:∀t,t≠Pg.nv->({ Y with nv:=.sr (O J) 0 4 (nodes.length+1) none }:Px).loc t=Y.loc t:=λt n=>by cases t<;>first|rfl|exact absurd rfl n
 have K:=v.M;have P:=v.lt
 refine⟨Ry (t0:=.nv) (N:=O J) h.inj (λt a q=>(h.lo t a q).2) w (λb q=>.inr (by cases q;grind)),λt b q=>?_,h.pkb.of_get j (λb q=>f b Z),h.pkl.of_get j (f _ h.pkl.lt.1) (λb q=>g .lv b zS zS q),h.rl.of_get j (λb q=>f b (v.rl b q).1),(g .r1 _ zS zS rfl).trans h.r1,(g .r2 _ zS zS rfl).trans h.r2,Z,p.of_get Z (λb q=>?_),(g .tot _ zS zS rfl).trans h.tot,λb q=>(g .nd b zS zS q).trans (h.nd b q),h.wv.of_get j (λb q=>g .wv b zS zS q),λb q=>(g .w b zS zS q).trans (h.w b q),h.kv.of_get j (λb q=>g .kv b zS zS q),bD h.blw.1 j,λb q=>(f b z).trans (h.blw.2 b q)⟩
 ·by_cases e:t=.nv
  ·subst e;cases q;grind
  ·rw[w t e]at q;have:=h.lo t b q;omega
 ·cases q;grind
theorem PS.tota(h:PS c Y L total nodes s ws r ks J)(i:Xe c)(n):PS c Y L n nodes s ws r ks (J.set Y.tot (.cells [nV n])):=by
 have j:=h.lo .tot _ rfl;have f:O J<=O (J.set Y.tot (.cells [nV n])):=Z
 have d:∀t b,t≠.tot->Y.loc t=some b->(J.set Y.tot (.cells [nV n])).get b=J.get b:=λt b k g=>by rw[aU,if_neg (λe=>k (h.inj t .tot b g (by rw[e];rfl)))]
 have a:∀b,b<c.N0->(J.set Y.tot (.cells [nV n])).get b=J.get b:=Z;have l:=i.M;have m:=i.lt
 exact⟨h.inj,λt b q=>by have:=h.lo t b q;grind,h.pkb.of_get f (λb q=>a b Z),h.pkl.of_get f (a _ h.pkl.lt.1) (λb q=>d .lv b zS q),h.rl.of_get f (λb q=>a b (i.rl b q).1),(d .r1 _ zS rfl).trans h.r1,(d .r2 _ zS rfl).trans h.r2,(d .f _ zS rfl).trans h.f,h.nv.of_get f (λb q=>d .nv b zS q),Z,λb q=>(d .nd b zS q).trans (h.nd b q),h.wv.of_get f (λb q=>d .wv b zS q),λb q=>(d .w b zS q).trans (h.w b q),h.kv.of_get f (λb q=>d .kv b zS q),bD h.blw.1 f,λb q=>(a b z).trans (h.blw.2 b q)⟩
theorem PS.nway(h:PS c Y L total nodes s ws 0 [] J)(j:Xe c)(i:Y.w=none)(X:Y.kv=nS)(S:O U=O J+1)(H:∀b,b<O J->U.get b=J.get b)(r)(P:U.get (O J)=some (.cells [nV r,nS])):PS c { Y with w:=some (O J) } L total nodes s ws r [] U:=by
 have d:=h.news j z H
 have f:∀t,t≠Pg.w->({ Y with w:=some (O J) }:Px).loc t=Y.loc t:=λt n=>by cases t<;>first|rfl|exact absurd rfl n
 have g:=h.ltn
 refine⟨Ry (t0:=.w) (N:=O J) h.inj (λt a q=>(h.lo t a q).2) f (λb q=>.inr (by cases q;grind)),λt b q=>?_,d.pkb,d.pkl,d.rl,d.r1,d.r2,d.f,d.nv,d.tot,d.nd,d.wv,λb q=>?_,by rw[show({ Y with w:=some (O J) }:Px).kv=Y.kv from rfl,X];exact .nil,d.blw⟩
 ·by_cases e:t=.w
  ·subst e;cases q;omega
  ·rw[f t e]at q;exact d.lo t b q
 grind
theorem PS.nnode(h:PS c Y L total nodes s [] r ks J)(k:Xe c)(i:Y.nd=none)(X:Y.wv=nS)(S:O U=O J+1)(H:∀b,b<O J->U.get b=J.get b)(f)(P:U.get (O J)=some (.cells [sV f.1,nV f.2.1,nV f.2.2,nS])):PS c { Y with nd:=some (O J) } L total nodes f [] r ks U:=by
 have d:=h.news k z H
 have g:∀t,t≠Pg.nd->({ Y with nd:=some (O J) }:Px).loc t=Y.loc t:=λt n=>by cases t<;>first|rfl|exact absurd rfl n
 have j:=h.ltn
 refine⟨Ry (t0:=.nd) (N:=O J) h.inj (λt a q=>(h.lo t a q).2) g (λb q=>.inr (by cases q;grind)),λt b q=>?_,d.pkb,d.pkl,d.rl,d.r1,d.r2,d.f,d.nv,d.tot,λb q=>?_,by rw[show({ Y with nd:=some (O J) }:Px).wv=Y.wv from rfl,X];exact .nil,d.w,d.kv,d.blw⟩
 ·by_cases e:t=.nd
  ·subst e;cases q;omega
  ·rw[g t e]at q;exact d.lo t b q
 grind
end
theorem KG:∀(a b L:List Sp) (o:List Nat),True->Ct L (a++b) o=Ct (Ct L a o).2 b (Ct L a o).1
 |[],b,L,o,_=>rfl
 |x::a,b,L,o,_=>by
  show Ct (D2 L x).2 (a++b) (o++[(D2 L x).1])=_
  rw[KG a b _ _ trivial];rfl
def BS(c:Pc)(J:Px)(S:Nat):Nat->Prop:=λb=>b=c.P\/b=c.mN\/b=S\/∃t,J.loc t=some b
structure Fx (Z Y:Px):Prop where
 r1:Y.r1=Z.r1
 r2:Y.r2=Z.r2
 f:Y.f=Z.f
 tot:Y.tot=Z.tot
 nd:Y.nd=Z.nd
structure PI (c:Pc)(Z:Px)(nodes:List cN)(s:Sp)(aY aK:Nat)(acc:Pk)(b:Nat->Prop)(U:F)(Y:Px):Prop where
 ps:PS c Y acc.list acc.total nodes s acc.ways 0 [] U
 fx:Fx Z Y
 w:Y.w=none
 kv:Y.kv=nS
 b:b=BS c Y aY
 y:U.get aY=some (.loop .ready)
 dj:∀t a,Y.loc t=some a->a≠aY/\a≠aK
 lt:aY≠aK/\c.N0<=aY/\c.N0<=aK/\aY<O U/\aK<O U
 b1:acc.list.length<=4000
 b2:acc.total<=40000
 b3:acc.ways.length<=acc.total
def JPk(c:Pc)(a:Px)(S:Nat)(x:XE)(U:F):Prop:=x=.ret/\U.get S=some (.loop (H2 .ret))/\U.get a.r1=some (.cells [nS])/\U.get a.r2=some (.cells [.bool false])/\Below c.M c.J0 U/\a.r1≠S/\a.r2≠S/\c.M<=S
structure ra (c:Pc)(Y:Px)(aY:Nat)(U:F)(Y':Px)(J:F):Prop where
 n:O U<=O J
 f:∀t a,Y'.loc t=some a->(∃u,Y.loc u=some a)\/O U<=a
 g:∀b,b<O U->b≠c.P->b≠c.mN->b≠aY->(∀t,Y.loc t≠some b)->J.get b=U.get b
 y:J.get aY=some (.loop .busy)
theorem ra.step{c g i Y'' S U J υ}(h:ra c g S U i J)(d:c.P<c.N0/\c.mN<c.N0)(B:c.N0<=S/\S<O U/\∀t,g.loc t≠some S)(q:O J<=O υ)(N:∀t a,Y''.loc t=some a->(∃u,i.loc u=some a)\/O J<=a)(H:∀b,b<O J->b≠c.P->b≠c.mN->(∀t,i.loc t≠some b)->υ.get b=J.get b):ra c g S U Y'' υ:=by
 have f:∀b,b<O U->(∀t,g.loc t≠some b)->∀t,i.loc t≠some b:=λb r k t l=>by
  rcases h.f t b l with⟨u,e⟩|e
  ·exact k u e
  ·omega
 refine⟨bD h.n q,λt a l=>?_,λb j m n p o=>?_,?_⟩
 ·rcases N t a l with⟨u,e⟩|e
  ·grind
  ·exact .inr (bD h.n e)
 ·rw[H b (cC j h.n) m n (f b j o),h.g b j m n p o]
 ·rw[H S (cC B.2.1 h.n) z z (f S B.2.1 B.2.2)];exact h.y
def Pl(n:Nat)(l:List Sp):Prop:=∀x∈l,x.2.1<=n/\x.2.2<=n
theorem Alr{k R v n}(m:v<=n):∀(b:List Pt) (a:Nat) (K:List Sp),Pl n K->∀l∈wyP k R v b a K,Pl n l
 |[],a,K,c,l,h=>by
  unfold wyP at h
  grind
 |p::b,a,K,c,l,h=>by
  unfold wyP at h
  split at h
  ·cases h
  ·split at h
   ·exact Alr m b _ _ c l h
   ·obtain⟨e,f,h⟩:=List.mem_flatMap.1 h
    split at h
    ·simp only[List.mem_range'_1]at f;refine Alr m b _ _ (λx d=>?_) l h
     rcases List.mem_or_eq_of_mem_set d with d|rfl
     ·exact c x d
     grind
    ·cases h
theorem VC{g k R r a v n}(m:v<=n):∀l∈Qx g k R r a v,Pl n l:=λl h=>Alr m _ _ _ (λx b=>by
 rw[List.eq_of_mem_replicate b];exact⟨bU _,bU _⟩) l h
theorem Asr{n L s}(h:Pl n L)(j:s.2.1<=n/\s.2.2<=n):Pl n (D2 L s).2:=by
 unfold D2
 split
 ·exact h
 ·intro x a
  rcases dW.1 a with a|a
  ·exact h x a
  grind
theorem Afp{n}:∀{l L:List Sp} {o:List Nat},Pl n L->Pl n l->Pl n (Ct L l o).2
 |[],_,_,h,_=>h
 |x::l,_,_,h,a=>Afp (l:=l) (Asr h (a x (cX ..))) λy b=>a y (ch _ b)
theorem XQ{n x P Q}(h:Pl n P.list)(W:Pl n x.2)(i:F7 x P=some Q):Pl n Q.list:=by
 unfold F7 at i
 split at i
 ·cases i
 ·cases i;exact Afp h W
theorem Ass{n r}:∀{l:List (List Sp)} {P Q:Pk},Pl n P.list->(∀x∈l,Pl n x)->foM (λP l=>F7 (r,l) P) l P=some Q->Pl n Q.list
 |[],_,_,h,_,a=>by cases a;exact h
 |x::l,P,Q,h,c,a=>by
  rw[foM]at a;cases b:F7 (r,x) P with
  |none=>simp only[b]at a;cases a
  |some e=>simp only[b]at a;exact Ass (XQ h (c x (cX ..)) b) (λy d=>c y (ch _ d)) a
theorem Ans{r}:∀{l:List (List Sp)} {P Q:Pk},foM (λP l=>F7 (r,l) P) l P=some Q->P.list.length<=Q.list.length
 |[],_,_,a=>by cases a;grind
 |x::l,P,Q,a=>by
  rw[foM]at a;cases b:F7 (r,x) P with
  |none=>simp only[b]at a;cases a
  |some c=>
   simp only[b]at a;refine bD ?_ (Ans a);unfold F7 at b
   split at b
   ·cases b
   ·cases b;exact(Xa x P.list [] Z).2.1
theorem Ajt{r m}:∀{l:List (List Sp)} {P:Pk},Pj (l.map (λx=>(r,x))++m) P=match foM (λP l=>F7 (r,l) P) l P with|none=>none|some a=>Pj m a
 |[],P=>rfl
 |x::l,P=>by
  rw[fG,dL,Pj,foM];cases b:F7 (r,x) P with
  |none=>simp only
  |some a=>simp only;exact Ajt
theorem Aju{L}{K:List Sp}{i x}(h:K[i]? =some x):Ct L (K.take (i+1)) []=((Ct L (K.take i) []).1++[(D2 (Ct L (K.take i) []).2 x).1],(D2 (Ct L (K.take i) []).2 x).2):=by
 have e:K.take (i+1)=K.take i++[x]:=by rw[List.take_add_one,h];rfl
 rw[e,KG _ _ _ _ trivial];rfl
theorem Acv{L}:∀{K:List Sp} {o:List Nat},(Ct L K o).2.length<=L.length+K.length/\(Ct L K o).1.length=o.length+K.length
 |[],o=>⟨Y,rfl⟩
 |x::K,o=>by
  have a:(D2 L x).2.length<=L.length+1:=by unfold D2;split<;>simp
  obtain⟨b,c⟩:=Acv (L:=(D2 L x).2) (K:=K) (o:=o++[(D2 L x).1]);refine⟨?_,?_⟩
  ·show(Ct (D2 L x).2 K (o++[(D2 L x).1])).2.length<=_
   grind
  ·show(Ct (D2 L x).2 K (o++[(D2 L x).1])).1.length=_
   grind
end Go.AM

