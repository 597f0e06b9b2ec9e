/- A part of the proof; shortened by program. -/
import Derived.Test.YtmkaboegdoadhaaGreatDoorP32
set_option maxRecDepth 100000
set_option maxHeartbeats 4000000
set_option linter.all false
namespace Go.AM
open Go Go.Proofs
structure eA where
 a:Nat
 kq:Nat
 rq:Nat
 yq:Nat
 A:Nat
 q:Nat
 pq:Nat
def nM:Ax->List Ax|.node _ k=>k
theorem WY(t):En t=.agg [sV (fL t),aD eT 2 (nM t)]:=by cases t;rw[Cg];rfl
def GJ(R:b9)(a:Nat)(h:Int)(b K:Bool)(x c:I):List I:=[D h,D R.fuel,aD eH 3 R.fl,aD cK 1 R.bd,aD cK 1 R.ot,aD eT 2 R.hy,sV (fL R.go),aD eT 2 (nM R.go),.mp a,.bool b,.bool K,x,c]
def cp(R:b9)(X:eA)(k:Nat)(h:Int)(a K:Bool)(x b:I):List I:=gH X.a X.q k++GJ R X.pq h a K x b
def QF(J:F)(l:List Int)(v:I):Prop:=(v=nS/\l=[])\/∃o,v=.sr o 0 1 l.length (some l.length)/\J.get o=some (.cells (l.flatMap eI))
structure yU (M:cF)(V:aH->Prop)(q:Nat)(J:F):Prop where
 ex:∃m:SM (cT×I),B8 eM J q m/\∀s',V s'->∃v,m.get s'=some (M.of s',v)/\QF J (M.of s').vals v
structure gT (d:Db)(s:cA)(W:Wd)(rm:SM Rl)(R:b9)(X:eA)(M:cF)(V:aH->Prop)(cnt:Int)(sp rf:Bool)(vf ve:I)(J:F):Prop where
 w:fH d s W.km rm W.sm X.a X.kq X.rq X.yq J
 m:J.get X.A=some (.cells (cp R X M.k cnt sp rf vf ve))
 of:yU M V X.q J
 p:eW 289 bE J X.pq R.pr
section
variable {d:Db}{s:cA}{W:Wd}{rm:SM Rl}{R:b9}{X:eA}{M:cF}{V:aH->Prop}{cnt:Int}{sp rf:Bool}{vf ve:I}{J U:F}
theorem yU.of_get(h:yU M V X.q J)(i:bY J)(H:∀b,b<O J->U.get b=J.get b):yU M V X.q U:=by
 obtain⟨m,c,e⟩:=h;refine⟨m,c.of_get (H _ (c.lt i)),λj f=>?_⟩
 obtain⟨v,g,a⟩:=e j f;refine⟨v,g,?_⟩
 rcases a with a|⟨o,a,d⟩
 ·exact .inl a
 ·exact .inr ⟨o,a,(H o (i _ _ d).1).trans d⟩
theorem gT.of_get(h:gT d s W rm R X M V cnt sp rf vf ve J)(i:bY J)(H:∀b,b<O J->U.get b=J.get b):gT d s W rm R X M V cnt sp rf vf ve U:=by
 obtain⟨⟨a,c,e,f⟩,g,k,j⟩:=h;exact⟨⟨(H _ (i _ _ a).1).trans a,c.of_get (H _ (c.lt i)),e.of_get (H _ (e.lt i)),f.of_get (H _ (f.lt i))⟩,(H _ (i _ _ g).1).trans g,k.of_get i H,j.of_get (H _ (j.lt i))⟩
theorem gT.mn(h:gT d s W rm R X M V cnt sp rf vf ve J):oC d s W rm M V (GJ R X.pq cnt sp rf vf ve) X.a X.kq X.rq X.yq X.A X.q J:=by
 obtain⟨m,a,b⟩:=h.of;refine⟨h.w,h.m,m,a,λg c=>?_⟩
 obtain⟨v,e,f⟩:=b g c;exact⟨v,e,f.elim (λk=>.inr (.inl k)) λk=>.inr (.inr k)⟩
end
theorem yd(i k):D4 M.P 289 (.agg [D i,D k])=some (KE.k (i,k)):=Kr
theorem GW{R X k h a K x b J}(e:J.get X.A=some (.cells (cp R X k h a K x b)))(i:0<=h)(j:h<=100000):
  Al M 201 [.pr X.A 3] J λv f=>v=.bool (decide (h+1<=R.fuel))/\f=J.set X.A (.cells (cp R X k (h+1) a K x b)):=by
 refine Aj Tryz.func201 rfl rfl λl g=>?_
 have c:(J.set X.A (.cells (cp R X k (h+1) a K x b))).get X.A=some (.cells (cp R X k (h+1) a K x b)):=Z;refine G9 ?_;refine A (E8 e aG rfl (show Cz 1 false ((cp R X k h a K x b).drop 3)=some (D h)from rfl)) (A (rH (p:=h) (q:=1) aV rfl rfl z z) ?_)
 refine G2 ?_;refine A (sO (cs':=cp R X k (h+1) a K x b) e) ?_;refine G2 ?_;refine X0 ?_;refine G3 ?_;refine V (E8 c aG rfl (show Cz 1 false ((cp R X k (h+1) a K x b).drop 3)=some (D (h+1))from rfl)) ?_
 refine G3 ?_;refine V (E8 c aG rfl (show Cz 1 false ((cp R X k (h+1) a K x b).drop 4)=some (D R.fuel)from rfl)) (V (Hn aV rfl rfl) ?_)
 refine G2 ?_;refine⟨rfl,rfl,?_⟩;refine Bo λd=>?_
 refine G ?_;exact⟨_,rfl,_,_,a_ d Y zN,Z,.same rfl,rfl,rfl⟩
theorem pB{R X k a f K j g J}(o:J.get X.A=some (.cells (cp R X k a f K j g))){m}(d:B8 eM J X.q m){i h}(s:R.fl[i]? =some h){x b}(H:m.get h.label=some (x,b))(p:I.und (O J) b=true):
  Cv 236 [nV i,.pv [.pr X.A 0]] J (.agg [sV x.var,D x.obj,b]):=by
 refine Aj Tryz.func236 rfl rfl λn q=>?_
 have r:=(n _ _ o).1;have u:=d.lt n;have c:(J.new (.cells jR)).get X.A=some (.cells (cp R X k a f K j g)):=Z;have e:B8 eM (J.new (.cells jR)) X.q m:=d.of_get Z;refine G2 ?_;refine A (Bu bG) ?_;refine G2 ?_;refine XS (l:=[]) trivial ?_;refine G4 ?_;refine V (E8 c aG rfl (show Cz 1 false ((cp R X k a f K j g).drop 1)=some (.mp X.q)from rfl)) ?_
 refine G3 ?_;refine V (E8 c aG rfl (show Cz 1 false ((cp R X k a f K j g).drop 5)=some (aD eH 3 R.fl)from rfl)) ?_
 refine G4 ?_
 refine V (Nr (v:=(x,b)) bI pT rfl e rfl H) (DT (sO (cs:=jR) (cs':=[sV x.var,D x.obj,b]) (by rw[a5,if_pos rfl];rfl)) ?_)
 refine G2 ?_
 refine⟨[.agg [sV x.var,D x.obj,b]],Am (vs:=[sV x.var,D x.obj,b]) (aG (t:=186)) rfl (by simp only[F.cells];grind) rfl rfl,_,J,bL n ⟨Z,Z⟩,Y,.same ?_,rfl,rfl⟩
 show(true&&(true&&(I.und (O J) b&&true)))=true
 rw[p];rfl
theorem YF{a b:List Int}(h:a.map D=b.map D):a=b:=(List.map_inj_right λx y e=>by cases e;rfl).1 h
theorem PB{n k w E}(S:1<=n)(X:k<=6)(d:Int.ofNat w.length=n ^ k)(u:ff n E):∃i:Nat,dU n (E.take k)=Int.ofNat i/\w[i]? =some (vA n k w E):=by
 obtain⟨b,a⟩:=KY (W:=⟨[],[],[],n⟩) S u X;have a:dU n (E.take k)<n ^ k:=a;rw[<-d]at a;refine⟨(dU n (E.take k)).toNat,(Int.toNat_of_nonneg b).symm,?_⟩
 obtain⟨v,c⟩:=Ar (show(dU n (E.take k)).toNat<w.length by simp only[ep]at a;have:0<=dU n (E.take k):=b;omega)
 unfold vA;rw[c];rfl
theorem f237{d s W rm R X E am Q sp rf vf ve J}(hS:gT d s W rm R X E am Q sp rf vf ve J)(g1:1<=s.size)(g3:s.size<=3)(r:E.k<=6){o w}(hv:J.get o=some (.cells (w.flatMap eI)))(hl:Int.ofNat w.length=s.size ^ E.k){c}(hc:c<6):
  Cv 237 [.pr X.A 0,.sr o 0 1 w.length (some w.length),nV c] J (.bool (fC s.size E.k w c)):=by
 refine sg ?_;refine Mo Tryz.func237 (Ke _ _ Tryz.func237) rfl rfl λhw d9=>?_
 have hA:X.A<O J:=(hw _ _ hS.m).1;have ho:o<O J:=(hw _ _ hv).1;obtain⟨f,hf⟩:∃f:List Int->Unit->Bool×Unit,f=λj _=>(decide (vA s.size E.k w j=vA s.size E.k w (j.set c 0)),()):=⟨_,rfl⟩
 have bz:fC s.size E.k w c= !(jE s.size E.k f ()).1:=by rw[hf];rfl
 have a7:∀{ρ:Ad} {U:F} {ok:Bool},Ad.at ρ 6=some (.pr (O J+1) 0)->U.get (O J+1)=some (.cells [.bool ok])->O J<=O U->(∀b,b<O J->U.get b=J.get b)->ok=fC s.size E.k w c->jI M Tryz.f237 (O J) (λv J'=>v=.bool (fC s.size E.k w c)/\J'=J) ρ U:=by
  intro ρ U ok p6 q6 hn H he
  exact⟨[.bool ok],Am (vs:=[.bool ok]) (aG (t:=4)) p6 (by simp only[F.cells];rw[q6]) rfl rfl,.bool ok,J,bL hw ⟨hn,H⟩,Y,.same rfl,by rw[he],rfl⟩
 obtain⟨g,ai⟩:∃g,J.bump.new (.cells [.bool false])=g:=⟨_,rfl⟩;have n1:O g=O J+2:=Z;have a8:∀b,b<O J->g.get b=J.get b:=Z;have c6:g.get (O J+1)=some (.cells [.bool false]):=Z
 iterate  5 refine G ?_
 refine A (Bj (n:=O J+1) bG (Bm J)) ?_;refine G ?_;rw[ai]
 iterate  4 refine G ?_
 refine Ca (qF (E:=X.A) (J:=g) z) ?_;refine G ?_;obtain⟨i,ap⟩:∃i,O g+1=i:=⟨_,rfl⟩;obtain⟨K,aj⟩:∃K,g.bump.new (.loop .ready)=K:=⟨_,rfl⟩;have n7:O K=O g+2:=Z;have g7:∀b,b<O g->K.get b=g.get b:=Z;have y7:K.get i=some (.loop .ready):=Z;have aa:gT d s W rm R X E am Q sp rf vf ve K:=hS.of_get hw λb q=>(g7 b z).trans (a8 b q)
 refine G ?_;refine L6 rfl (λtm ay=>?_)
 rw[aj,ap];refine mB (f268 (L:=⟨i,tm,Tryz.f237.ntmps,_,_,_⟩) (I:=λ_ U=>U.get i=some (.loop .ready)/\U.get (O J+1)=some (.cells [.bool false])/\O K<=O U/\∀b,b<O J->U.get b=J.get b) (aA:=λx _ U=>x=.ret/\U.get i=some (.loop (H2 .ret))/\U.get (O J+1)=some (.cells [.bool true])/\O K<=O U/\∀b,b<O J->U.get b=J.get b) (f:=f) (cX ..) aa.w.cl aa.m g1 g3 r () ⟨Z,?ext,?jx,?y⟩ ⟨y7,Z,Y,λb q=>(g7 b z).trans (a8 b q)⟩) ?post
 case ext=>
  rintro u U U' ⟨h1,h2,h3,h4⟩ hn H
  exact⟨Z,Z,by omega,Z⟩
 case jx=>
  rintro x u U U' ⟨h0,h1,h2,h3,h4⟩ hn H
  exact⟨h0,Z,Z,by omega,Z⟩
 case y=>
  rintro l u U p ⟨ah,ax,d4,ar⟩ cx;have m:=vK p
  have k:ff s.size (l.set c 0):=p.set (e:=0) (by simp;omega)
  have ac:=vK k;obtain⟨i1,au,ae⟩:=PB g1 r hl p;obtain⟨i2,aw,af⟩:=PB g1 r hl k;obtain⟨P,ak⟩:∃P,U.set i (.loop .busy)=P:=⟨_,rfl⟩;have bx:O P=O U:=Z;have an:∀b,b≠i->P.get b=U.get b:=Z;obtain⟨a,al⟩:∃a,((P.new (.cells [.int .i64 0,.int .i64 0,.int .i64 0,.int .i64 0,.int .i64 0,.int .i64 0])).set (O U) (.cells (l.map D))).set (O U) (.cells ((l.set c 0).map D))=a:=⟨_,rfl⟩;have db:O a=O U+1:=Z;have c4:a.get (O U)=some (.cells ((l.set c 0).map D)):=Z;have ao:∀b,b<O U->a.get b=P.get b:=Z;have g4:∀b,b<O U->b≠i->a.get b=U.get b:=λb q B=>(ao b q).trans (an b B)
  have a9:gT d s W rm R X E am Q sp rf vf ve a:=hS.of_get hw λb q=>(g4 b z z).trans (ar b q)
  have ag:a.get o=some (.cells (w.flatMap eI++[])):=Z;have y4:a.get i=some (.loop .busy):=Z;have N:=λ{j:List Int} (h:ff s.size j)=>qS d s X.a X.kq X.rq X.yq X.A X.q E.k j a a9.w.cl a9.m g1 g3 h r
  have S:[I.pr X.A 0,.agg ((l.set c 0).map D)]=[.pr X.A 0,.agg (l.map D)]->D (dU s.size (l.take E.k))=D (dU s.size ((l.set c 0).take E.k)):=λe=>by
   rw[YF (show(l.set c 0).map D=l.map D by simpa using e)]
  refine Tk ay rfl Kr Kr Kr ah Z ?_;refine G ?_;refine Mp bG aG rfl (λ_=>rfl) rfl (A7 m) rfl ?_
  refine G ?_;refine⟨ah,?_⟩;rw[show U.set i (.loop .busy)=P from ak]
  iterate  3 refine G ?_
  refine A (Ac aG rfl rfl (Wz m)) (A (Bj (n:=O U) bG bx) (A (G1 (cs:=[.int .i64 0,.int .i64 0,.int .i64 0,.int .i64 0,.int .i64 0,.int .i64 0]) (cs':=l.map D) Z aG rfl rfl (A7 m) (Hh m)) ?_))
  iterate  4 refine G ?_
  refine A (Bp (v:=.pr (O U) (0+c*1)) rD rfl rfl hc rfl) (A (G1 (cs:=l.map D) (cs':=(l.set c 0).map D) Z aG rfl rfl rfl (by rw[dE,lT,BL Z,List.map_set];rfl)) ?_)
  refine G ?_;rw[al];refine G ?_;refine Dy λdf=>XI (l:=[(267,[.pr X.A 0,.agg (l.map D)],a,D (dU s.size (l.take E.k)),a),(267,[.pr X.A 0,.agg ((l.set c 0).map D)],a,D (dU s.size ((l.set c 0).take E.k)),a)]) ⟨N p,N k,trivial⟩ ?_
  iterate  4 refine G ?_
  refine V (Ac aG rfl rfl (Wz m)) ?_;refine G ?_;refine V (Br aJ rfl (congrArg (λx=>some (I.int .i64 x)) au) (bQ.1 ae).1) ?_
  refine V (Dg (enc:=eI) (l:=w) (tl:=[]) (λ_=>rfl) aG rfl ag ae (λ_=>rfl)) ?_
  iterate  4 refine G ?_
  refine V (E8 c4 aG rfl (Wz ac)) (DT (Bq rfl rfl (vN S)) ?_);refine V (Br aJ rfl (congrArg (λx=>some (I.int .i64 x)) aw) (bQ.1 af).1) ?_
  refine V (Dg (enc:=eI) (l:=w) (tl:=[]) (λ_=>rfl) aG rfl ag af (λ_=>rfl)) ?_
  iterate  2 refine G ?_
  refine⟨rfl,by simp,?_⟩
  refine A0 rfl ?_ ?_<;>intro h2
  ·have B:(f l u).1=false:=Z
   iterate  2 refine G ?_
   refine A (G1 (cs':=[.bool true]) ((g4 _ z z).trans ax) aG rfl rfl rfl rfl) ?_
   iterate  2 refine G ?_
   refine⟨Z,λb h1 h2=>?_,?_⟩
   ·grind
   grind
  ·have B:(f l u).1=true:=Z;refine G ?_;refine⟨y4,λb h1 h2=>?_,?_⟩
   ·grind
   ·rw[if_pos B]
    exact⟨rfl,by rw[aU,if_pos rfl];rfl,Z,Z,Z⟩
 case post=>
  rintro u J' ⟨d5,C⟩;cases q:(jE s.size E.k f ()).1 with
  |true=>
   rw[if_pos q]at C;obtain⟨T,q6,_,aq⟩:=C;refine⟨.normal,T,?_⟩
   iterate  2 refine G ?_
   refine A (G1 (cs':=[.bool false]) (by rw[dF,if_neg z];exact q6) aG rfl rfl rfl rfl) ?_
   iterate  2 refine G ?_
   exact a7 rfl (by rw[aU,if_pos rfl]) Z Z Z
  |false=>
   rw[if_neg Z]at C;obtain⟨x,_,rfl,T,q6,_,aq⟩:=C;refine⟨.ret,T,?_⟩
   exact a7 rfl (by rw[dF,if_neg z];exact q6) Z Z Z
theorem xL{a n l tl y J}(c:J.get a=some (.cells (l.flatMap eI++tl)))(S:l.length=n)(Q:n<1000000):Cv 91 [.sr a 0 1 n y] J (aD eI 1 l):=by
 subst S;refine Aj Tryz.func91 rfl rfl λb g=>?_
 obtain⟨v,U,e,d,f,_⟩:=iS (enc:=eI) (sz:=1) (l:=([]:List Int)) (by':=8) (N:=O J) (λs=>rfl) Y (aW.emp (enc:=eI) (sz:=1)) l (by simp[az];omega)
 refine G8 ?_;refine A (KO bF rfl) ?_;refine G ?_;refine Ab rfl Z (λh=>?_)
 refine G3 ?_;refine A (Ai aJ bM rfl rfl rfl) ?_;refine G ?_;refine A (Av aJ rfl bF rfl rfl rfl (kH (enc:=eI) zF c) e) ?_
 refine G3 ?_;exact⟨_,rfl,aD eI 1 l,J,bL b f,Y,(show aW U (O J) eI 1 l v from d).fz zF (λa c=>b.none c) (A2 (enc:=eI) zF l),rfl,rfl⟩
def mX(W:Wd)(E:cF)(c:aH->Prop)(t:Ax):Prop:=(∃q,ev W.g t=some q)/\M6 t<=100000/\kY W E t/\∀a b,eE a t=true->F4 W.g a=some b->b.var=true->c a
theorem Bdg{l:List Int}(k):(l.map D:List I)=(l.take k).flatMap eI++(l.drop k).map D:=by
 have:∀l:List Int,(l.map D:List I)=l.flatMap eI:=λl=>by
  induction l with
  |nil=>rfl
  |cons x l a=>rw[fG,a];rfl
 rw[<-this,<-iG,gK]
theorem f203{d:Db}{s:cA}{W:Wd}{rm:SM Rl}{R:b9}{X:eA}{E:cF}{a8:aH->Prop}{h:Int}{r K:Bool}{w T:I}{J:F}{g:Gr}(hS:gT d s W rm R X E a8 h r K w T J)(hG:gU g)(db:W.g=g.rules)(hW:jN W)(hn:W.n=s.size)(jc:∀l,rm.get l=F4 g.rules l)(ac:E.k<=6)(lq:R.hy.length<1000000)(hy:∀t∈R.hy,mX W E a8 t)(gz:mX W E a8 R.go):
  Al M 203 [.pr X.A 0] J λv J'=>v=.bool (jX W R E).isNone/\O J<=O J'/\(∀b,b<O J->b≠X.A->J'.get b=J.get b)/\J'.get X.A=some (.cells (cp R X E.k h r K w (match jX W R E with|none=>T|some e=>aD eI 1 e))):=by
 have g1:1<=s.size:=by rw[<-hn];exact hW.n1
 have g3:s.size<=3:=by rw[<-hn];exact hW.n3
 refine sg ?_;refine Mo Tryz.func203 (Ke _ _ Tryz.func203) rfl rfl λhw ln=>?_
 have hA:X.A<O J:=(hw _ _ hS.m).1
 have aj:∀{t:Ax} {U:F} {l:List Int},mX W E a8 t->gT d s W rm R X E a8 h r K w T U->ff s.size l->Cv 239 [.pr X.A 0,En t,.agg (l.map D)] U (D (cU W E t l)):=λ{t U l} ht l8 hl=>by
  obtain⟨⟨q0,h1⟩,h2,h3,h4⟩:=ht;exact DJ d s g W rm E a8 _ X.a X.kq X.rq X.yq X.A X.q hG db hn hW jc ac t q0 l U h4 h1 h3 Z l8.mn h2
 have al:∀{ρ:Ad} {U:F} {ok:Bool},bY U->Ad.at ρ 2=some (.pr (O J+1) 0)->U.get (O J+1)=some (.cells [.bool ok])->O J+1<=O U->(∀b,b<O J->b≠X.A->U.get b=J.get b)->U.get X.A=some (.cells (cp R X E.k h r K w (match jX W R E with|none=>T|some e=>aD eI 1 e)))->ok=(jX W R E).isNone->
   jI M Tryz.f203 (O J) (λv J'=>v=.bool (jX W R E).isNone/\O J<=O J'/\(∀b,b<O J->b≠X.A->J'.get b=J.get b)/\J'.get X.A=some (.cells (cp R X E.k h r K w (match jX W R E with|none=>T|some e=>aD eI 1 e)))) ρ U:=by
  intro ρ U ok l5 p2 q2 hn H ey he
  exact⟨[.bool ok],Am (vs:=[.bool ok]) (aG (t:=4)) p2 (by simp only[F.cells];rw[q2]) rfl rfl,.bool ok,U,a_ l5 Y (λ_ _=>rfl),by omega,.same rfl,by rw[he],by omega,H,ey⟩
 obtain⟨J1,ay⟩:∃J1,J.bump.new (.cells [.bool false])=J1:=⟨_,rfl⟩;have n1:O J1=O J+2:=Z;have aq:∀b,b<O J->J1.get b=J.get b:=Z;have c2:J1.get (O J+1)=some (.cells [.bool false]):=Z;have d9:gT d s W rm R X E a8 h r K w T J1:=hS.of_get hw aq;refine Oo ?_
 iterate  3 refine G ?_
 refine A (Bj (n:=O J+1) bG (Bm J)) ?_;refine G ?_;rw[ay]
 iterate  6 refine G ?_
 refine A (E8 d9.m aG rfl (show Cz 1 false ((cp R X E.k h r K w T).drop 8)=some (aD eT 2 R.hy)from rfl)) ?_
 iterate  4 refine G ?_
 refine Hz (λi:Nat=>[(1,.pv [.pr X.A 0]),(2,.pr (O J+1) 0),(10,aD eT 2 R.hy),(11,nV R.hy.length),(12,nV i)]) (λi U=>i<=R.hy.length/\(R.hy.take i).any (lG W E)=false/\U.get (O J+1)=some (.cells [.bool false])/\O J+2<=O U/\∀b,b<O J->U.get b=J.get b) (λi=>R.hy.length-i) 0 SL ⟨bU _,rfl,c2,by omega,aq⟩ ?_
 rintro i0 U ⟨li,ax,t2,lj,ai⟩
 iterate  5 refine G ?_
 refine A0 rfl ?_ ?_<;>intro h1
 ·have bc:i0<R.hy.length:=Int.ofNat_lt.1 (of_decide_eq_true h1);obtain⟨t,ht⟩:=Ar bc;have kf:=hy t (bA ht);obtain⟨f,hf⟩:∃f:List Int->Unit->Bool×Unit,f=λah _=>(decide (cU W E t ah≠0),()):=⟨_,rfl⟩
  have l7:lG W E t= !(jE s.size E.k f ()).1:=by unfold lG;rw[hn,hf]
  iterate  5 refine G ?_
  refine A (A1 aJ Dh rfl rfl ht) (A (Ac aG rfl rfl (A6 (Dh t) _)) (Mp bG aG rfl (λ_=>rfl) rfl (A7 (Dh t)) rfl ?_))
  iterate  4 refine G ?_
  refine Ca (qF (E:=X.A) (J:=U) z) ?_;refine G ?_;obtain⟨a,an⟩:∃a,O U+1=a:=⟨_,rfl⟩;obtain⟨m,ag⟩:∃m,U.bump.new (.loop .ready)=m:=⟨_,rfl⟩;have n7:O m=O U+2:=Z;have g7:∀b,b<O U->m.get b=U.get b:=Z;have y7:m.get a=some (.loop .ready):=Z;have a9:gT d s W rm R X E a8 h r K w T m:=hS.of_get hw λb p=>(g7 b z).trans (ai b p)
  refine G ?_;refine L6 rfl (λtm ap=>?_)
  rw[ag,an];refine mB (f268 (L:=⟨a,tm,Tryz.f203.ntmps,_,_,_⟩) (I:=λ_ c=>c.get a=some (.loop .ready)/\c.get (O J+1)=some (.cells [.bool false])/\O m<=O c/\∀b,b<O J->c.get b=J.get b) (aA:=λx _ c=>x=.ret/\c.get a=some (.loop (H2 .ret))/\c.get (O J+1)=some (.cells [.bool true])/\O m<=O c/\∀b,b<O J->c.get b=J.get b) (f:=f) (cX ..) a9.w.cl a9.m g1 g3 ac () ⟨Z,?ext,?jx,?y⟩ ⟨y7,Z,Y,λb p=>(g7 b z).trans (ai b p)⟩) ?post
  case ext=>
   rintro u U c ⟨h1,h2,h3,h4⟩ hn H
   exact⟨Z,Z,by omega,Z⟩
  case jx=>
   rintro x u U c ⟨h0,h1,h2,h3,h4⟩ hn H
   exact⟨h0,Z,Z,by omega,Z⟩
  case y=>
   rintro l u j C ⟨af,aw,iw,ao⟩ d5;have a7:=vK C;obtain⟨P,ak⟩:∃P,j.set a (.loop .busy)=P:=⟨_,rfl⟩;have l9:O P=O j:=Z;have am:∀b,b≠a->P.get b=j.get b:=Z;have y1:P.get a=some (.loop .busy):=Z;have B:gT d s W rm R X E a8 h r K w T P:=hS.of_get hw λb p=>(am b z).trans (ao b p)
   refine Tk ap rfl Kr Kr Kr af Z ?_;refine G ?_;refine Mp bG aG rfl (λ_=>rfl) rfl (A7 a7) rfl ?_
   refine G ?_;refine⟨af,?_⟩;rw[show j.set a (.loop .busy)=P from ak]
   iterate  2 refine G ?_
   refine Dy λdf=>XS (l:=[(239,[.pr X.A 0,En t,.agg (l.map D)],P,D (cU W E t l),P)]) ⟨aj kf B C,trivial⟩ ?_
   iterate  4 refine G ?_
   refine V (Ac aG rfl rfl (Wz a7)) ?_
   iterate  3 refine G ?_
   refine A0 rfl ?_ ?_<;>intro h2
   ·have au:(f l u).1=false:=Z
    iterate  2 refine G ?_
    refine A (G1 (cs':=[.bool true]) ((am _ z).trans aw) aG rfl rfl rfl rfl) ?_
    iterate  2 refine G ?_
    refine⟨Z,λb h1 h2=>?_,?_⟩
    ·grind
    grind
   ·have au:(f l u).1=true:=Z;refine G ?_;refine⟨y1,λb h1 h2=>?_,?_⟩
    ·grind
    ·rw[if_pos au]
     exact⟨rfl,by rw[aU,if_pos rfl];rfl,Z,Z,Z⟩
  case post=>
   rintro u J' ⟨j0,k⟩;cases p:(jE s.size E.k f ()).1 with
   |true=>
    rw[if_pos p]at k;obtain⟨N,q6,_,aa⟩:=k;refine⟨.normal,N,?_⟩
    iterate  4 refine G ?_
    refine⟨i0+1,by omega,SL,bc,?_,Z,Z,Z⟩
    rw[Fw ht,List.any_append,ax,yR,l7,p];rfl
   |false=>
    rw[if_neg Z]at k;obtain⟨x,_,rfl,N,q6,_,aa⟩:=k
    have dg:jX W R E=none:=by
     unfold jX
     grind
    refine⟨.ret,N,λae=>?_⟩
    exact al ae rfl (by rw[dF,if_neg z];exact q6) Z Z (by rw[dF,if_neg z,aa _ hA,dg];exact hS.m) Z
 ·have bj:R.hy.length<=i0:=dQ.1 (Int.not_lt.1 (λq=>of_decide_eq_false h1 q))
  rw[dG bj]at ax
  have Q:jX W R E=mL W E R.go:=by unfold jX;grind
  obtain⟨f,hf⟩:∃f:List Int->Option (List Int)->Bool×Option (List Int),f=λah _=>if cU W E R.go ah=0 then(false,some (ah.take E.k))else(true,none):=⟨_,rfl⟩
  have l6:mL W E R.go=(jE s.size E.k f none).2:=by unfold mL;rw[hn,hf]
  rw[l6]at Q
  iterate  5 refine G ?_
  refine Ca (qF (E:=X.A) (J:=U) z) ?_;refine G ?_;obtain⟨a,an⟩:∃a,O U+1=a:=⟨_,rfl⟩;obtain⟨m,ag⟩:∃m,U.bump.new (.loop .ready)=m:=⟨_,rfl⟩;have n7:O m=O U+2:=Z;have g7:∀b,b<O U->m.get b=U.get b:=Z;have y7:m.get a=some (.loop .ready):=Z;have a9:gT d s W rm R X E a8 h r K w T m:=hS.of_get hw λb p=>(g7 b z).trans (ai b p)
  refine G ?_;refine L6 rfl (λtm ap=>?_)
  rw[ag,an];refine mB (f268 (L:=⟨a,tm,Tryz.f203.ntmps,_,_,_⟩) (I:=λu c=>u=none/\c.get a=some (.loop .ready)/\c.get (O J+1)=some (.cells [.bool false])/\O m<=O c/\∀b,b<O J->c.get b=J.get b) (aA:=λx u c=>x=.ret/\c.get a=some (.loop (H2 .ret))/\c.get (O J+1)=some (.cells [.bool false])/\O m<=O c/\(∀b,b<O J->b≠X.A->c.get b=J.get b)/\∃e,u=some e/\c.get X.A=some (.cells (cp R X E.k h r K w (aD eI 1 e)))) (f:=f) (cX ..) a9.w.cl a9.m g1 g3 ac none ⟨Z,?ext2,?jx2,?y2⟩ ⟨rfl,y7,Z,Y,λb p=>(g7 b z).trans (ai b p)⟩) ?post2
  case ext2=>
   rintro u U c ⟨h0,h1,h2,h3,h4⟩ hn H
   exact⟨h0,Z,Z,by omega,Z⟩
  case jx2=>
   rintro x u U c ⟨h0,h1,h2,h3,h4,e,h5,h6⟩ hn H
   exact⟨h0,Z,Z,by omega,Z,e,h5,Z⟩
  case y2=>
   rintro l u j C ⟨rfl,af,aw,iw,ao⟩ d5;have a7:=vK C;obtain⟨P,ak⟩:∃P,j.set a (.loop .busy)=P:=⟨_,rfl⟩;have l9:O P=O j:=Z;have am:∀b,b≠a->P.get b=j.get b:=Z;obtain⟨o,bz⟩:∃o,(j.new (.cells [.int .i64 0,.int .i64 0,.int .i64 0,.int .i64 0,.int .i64 0,.int .i64 0])).set (O j) (.cells (l.map D))=o:=⟨_,rfl⟩;have lw:O o=O j+1:=Z;have d4:∀b,b<O j->o.get b=j.get b:=Z;have lc:o.get (O j)=some (.cells (l.map D)):=Z;obtain⟨U4,bx⟩:∃U4,o.set a (.loop .busy)=U4:=⟨_,rfl⟩;have lu:O U4=O j+1:=Z;have g4:∀b,b<O j->b≠a->U4.get b=j.get b:=Z;have c4:U4.get (O j)=some (.cells (l.map D)):=Z;have y4:U4.get a=some (.loop .busy):=Z;have B:gT d s W rm R X E a8 h r K w T U4:=hS.of_get hw λb p=>(g4 b z z).trans (ao b p)
   refine Tk ap rfl Kr Kr Kr af Z ?_;refine G ?_;refine A (Bj (n:=O j) bG rfl) (A (G1 (cs:=[.int .i64 0,.int .i64 0,.int .i64 0,.int .i64 0,.int .i64 0,.int .i64 0]) (cs':=l.map D) Z aG rfl rfl (A7 a7) (Hh a7)) ?_);refine G ?_;rw[bz];refine⟨show o.get a=_ from(d4 a z).trans af,?_⟩
   rw[show o.set a (.loop .busy)=U4 from bx]
   have S:=aj gz B C;rw[WY]at S
   iterate  2 refine G ?_
   refine Dy λdf=>XS (l:=[(239,[.pr X.A 0,.agg [sV (fL R.go),aD eT 2 (nM R.go)],.agg (l.map D)],U4,D (cU W E R.go l),U4)]) ⟨S,trivial⟩ ?_
   iterate  6 refine G ?_
   refine V (E8 B.m aG rfl (show Cz 2 true ((cp R X E.k h r K w T).drop 9)=some (.agg [sV (fL R.go),aD eT 2 (nM R.go)])from rfl)) (V (E8 c4 aG rfl (Wz a7)) ?_)
   iterate  3 refine G ?_
   refine A0 rfl ?_ ?_<;>intro h2
   ·have h2:cU W E R.go l=0:=Z;have ar:f l none=(false,some (l.take E.k)):=Z;have ij:(l.take E.k).length=E.k:=Z
    have cx:U4.get (O j)=some (.cells ((l.take E.k).flatMap eI++(l.drop E.k).map D)):=by rw[<-Bdg];exact c4
    refine G ?_;refine Dy λdf=>L4 (anns:=[⟨.read,0,1⟩,⟨.read,0,0⟩,⟨.pure,0,0⟩,⟨.pure,0,0⟩,⟨.pure,0,0⟩,⟨.read,0,0⟩,⟨.read,0,0⟩,⟨.eff,0,1⟩,⟨.pure,1,1⟩,⟨.pure,1,1⟩,⟨.eff,1,2⟩]) Di (Bw (l:=[(91,[.sr (O j) 0 1 E.k (some 6)],U4,aD eI 1 (l.take E.k),U4)]) ⟨xL cx ij z,trivial⟩) Kr ?_
    iterate  5 refine G ?_
    refine V (E8 B.m aG rfl (show Cz 1 false ((cp R X E.k h r K w T).drop 2)=some (nV E.k)from rfl)) (V (zl rD rfl c4 (by simp[C.1]) rfl rfl rfl (rG ac)) ?_)
    iterate  3 refine G ?_
    refine DT (sO (cs':=cp R X E.k h r K w (aD eI 1 (l.take E.k))) B.m) ?_;refine G ?_
    refine⟨⟨(λs hs=>⟨_,Ac (aG (t:=280)) rfl rfl rfl⟩),(λs hs=>⟨_,Ac (aG (t:=280)) rfl rfl rfl⟩),trivial,trivial,trivial,(λs hs=>by obtain rfl:=cI.1 hs;exact⟨_,E8 B.m (aG (t:=3)) rfl (show Cz 1 false ((cp R X E.k h r K w T).drop 2)=some (nV E.k)from rfl)⟩),(λs hs=>by obtain rfl:=cI.1 hs;exact⟨_,zl rD rfl c4 (by simp[C.1]) rfl rfl rfl (rG ac)⟩),trivial,trivial,trivial,trivial,trivial⟩,?_⟩
    iterate  2 refine G ?_
    refine A (G1 (cs:=[.bool false]) (cs':=[.bool false]) Z aG rfl rfl rfl rfl) ?_
    iterate  2 refine G ?_
    refine⟨Z,λb h1 h2=>?_,?_⟩
    ·grind
    grind
   ·have h2:¬cU W E R.go l=0:=Z;have ar:f l none=(true,none):=Z;refine G ?_;refine⟨y4,λb h1 h2=>?_,?_⟩
    ·grind
    ·rw[ar,if_pos rfl]
     exact⟨rfl,rfl,by rw[aU,if_pos rfl];rfl,Z,Z,Z⟩
  case post2=>
   rintro u J' ⟨j0,k⟩;cases p:(jE s.size E.k f none).1 with
   |true=>
    rw[if_pos p]at k;obtain⟨kr,N,q6,_,aa⟩:=k;rw[kr]at Q;refine⟨.normal,N,?_⟩
    iterate  2 refine G ?_
    refine A (G1 (cs':=[.bool true]) (by rw[dF,if_neg z];exact q6) aG rfl rfl rfl rfl) ?_
    iterate  2 refine G ?_
    intro ae
    exact al ae rfl (by rw[aU,if_pos rfl]) Z Z (by rw[aU,if_neg z,dF,if_neg z,aa _ hA,Q];exact hS.m) Z
   |false=>
    rw[if_neg Z]at k;obtain⟨x,_,rfl,N,q6,_,aa,e,he,lg⟩:=k;rw[he]at Q;refine⟨.ret,N,λae=>?_⟩
    exact al ae rfl (by rw[dF,if_neg z];exact q6) Z Z Z Z
theorem MN{q:List Hp}{m:SM (cT×I)}{i k:Nat}{h c:Hp}{x y:cT}{a b p:I}(u:q[i]? =some h)(r:q[k]? =some c)(t:m.get h.label=some (x,a))(d:m.get c.label=some (y,b))(e:[nV k,p]=[nV i,p]):I.agg [sV x.var,D x.obj,a]=.agg [sV y.var,D y.obj,b]:=by
 have e:(k:Int)=i:=by simpa[nV,D]using e
 grind
theorem Bbo:∀{a b:List Int},a.flatMap eI=b.flatMap eI->a=b
 |[],[],_=>rfl
 |[],y::b,e=>by cases e
 |x::a,[],e=>by cases e
 |x::a,y::b,e=>by
  rw[ej,ej]at e;have e:D x::a.flatMap eI=D y::b.flatMap eI:=e
  injection e with c d
  cases c;rw[Bbo d]
theorem ZD{J:F}{n:Int}{k c o o':Nat}{p:I}{a b:List Int}(u:J.get o=some (.cells (a.flatMap eI)))(r:J.get o'=some (.cells (b.flatMap eI)))(e:[p,I.sr o' 0 1 b.length (some b.length),nV c]=[p,.sr o 0 1 a.length (some a.length),nV c]):I.bool (fC n k a c)=.bool (fC n k b c):=by
 have e:o'=o:=Z;subst e;have:=u.symm.trans r
 injection this with this
 injection this with this
 rw[Bbo this]
def yh(n:Int)(R:b9)(E:cF)(a:aH->Prop):Prop:=∀i∈R.ot,∃h,R.fl[i]? =some h/\a h.label/\Int.ofNat (E.of h.label).vals.length=n ^ E.k
def wW(R:b9)(E:cF)(a:aH->Prop):Prop:=∀k∈R.bd,∃h,R.fl[k]? =some h/\a h.label/\0<=(E.of h.label).obj/\(E.of h.label).obj<6
theorem IC{d:Db}{s:cA}{W:Wd}{rm:SM Rl}{R:b9}{X:eA}{E:cF}{ak:aH->Prop}{g:Int}{sp rf:Bool}{vf ve:I}{J:F}(n:gT d s W rm R X E ak g sp rf vf ve J)(g1:1<=s.size)(g3:s.size<=3)(a7:E.k<=6)(d5:R.ot.length<1000000)(cx:R.bd.length<1000000)(hO:yh s.size R E ak)(hB:wW R E ak):
  Cv 202 [.pr X.A 0] J (.bool (Bb6 s.size R E [] R.ot)):=by
 obtain⟨m,a8,ah⟩:=n.of
 have ai:∀i∈R.ot,∃(h:Hp) (o:Nat),R.lab i=h.label/\(R.fl[i]? =some h/\m.get h.label=some (E.of (R.lab i),.sr o 0 1 (E.of (R.lab i)).vals.length (some (E.of (R.lab i)).vals.length)))/\J.get o=some (.cells ((E.of (R.lab i)).vals.flatMap eI))/\Int.ofNat (E.of (R.lab i)).vals.length=s.size ^ E.k:=λi hi=>by
  obtain⟨h,P,h2,B⟩:=hO i hi
  have hl:R.lab i=h.label:=by unfold b9.lab;rw[P];rfl
  obtain⟨v,k1,k2⟩:=ah _ h2;rw[hl]
  rcases k2 with⟨_,k2⟩|⟨o,rfl,k3⟩
  ·rw[k2]at B;have:=(Bci g1 g3 E.k).1
   grind
  grind
 refine Aj Tryz.func202 rfl rfl λhw d9=>?_
 have am:∀k∈R.bd,∃(h:Hp) (c:Nat) (av:I),R.lab k=h.label/\(R.fl[k]? =some h/\m.get h.label=some (E.of (R.lab k),av))/\I.und (O J) av=true/\(E.of (R.lab k)).obj=Int.ofNat c/\(E.of (R.lab k)).obj.toNat<6:=λk N=>by
  obtain⟨h,P,h2,B,h4⟩:=hB k N
  have hl:R.lab k=h.label:=by unfold b9.lab;rw[P];rfl
  obtain⟨v,k1,k2⟩:=ah _ h2;rw[hl];obtain⟨c,hc⟩:=Int.eq_ofNat_of_zero_le B
  refine⟨h,c,v,rfl,⟨P,k1⟩,?_,hc,by omega⟩
  rcases k2 with⟨rfl,_⟩|⟨o,rfl,k3⟩
  ·rfl
  ·exact Ce (hw _ _ k3).1
 iterate 16 refine G ?_
 refine A (E8 n.m aG rfl (show Cz 1 false ((cp R X E.k g sp rf vf ve).drop 7)=some (aD cK 1 R.ot)from rfl)) ?_
 refine G4 ?_;refine Bz R.ot.length (λa=>[(1,.pv [.pr X.A 0]),(3,.fn (.func 236) [] [.pv [.pr X.A 0]]),(15,aD cK 1 R.ot),(16,nV R.ot.length),(17,nV a)]) (λa J0=>J0=J/\Bb6 s.size R E (R.ot.take a) (R.ot.drop a)=Bb6 s.size R E [] R.ot) SL ⟨rfl,rfl⟩ ?_
 rintro a J0 ax ⟨rfl,b⟩;refine G5 ?_;refine Ab rfl ?_ ?_<;>intro P
 ·have bc:a<R.ot.length:=Int.ofNat_lt.1 (of_decide_eq_true P);obtain⟨i,hi⟩:=Ar bc;rw[A4 hi,Bb6]at b;obtain⟨fi,L,d4,r,K,ag⟩:=ai i (bA hi);have u:=pB n.m a8 r.1 r.2 (show I.und (O J0) (.sr L 0 1 (E.of (R.lab i)).vals.length (some (E.of (R.lab i)).vals.length))=true from Ce (hw _ _ K).1)
  iterate 17 refine G ?_
  refine A (E8 n.m aG rfl (show Cz 1 false ((cp R X E.k g sp rf vf ve).drop 6)=some (aD cK 1 R.bd)from rfl)) ?_
  refine G4 ?_;refine Bz R.bd.length (λi2=>[(1,.pv [.pr X.A 0]),(3,.fn (.func 236) [] [.pv [.pr X.A 0]]),(4,nV a),(5,nV i),(15,aD cK 1 R.ot),(16,nV R.ot.length),(17,nV a),(25,aD cK 1 R.bd),(26,nV R.bd.length),(27,nV i2)]) (λi2 y=>y=J0/\(R.bd.take i2).all (λk=> !(R.prB i k&&fC s.size E.k (E.of (R.lab i)).vals (E.of (R.lab k)).obj.toNat))=true) SL ⟨rfl,rfl⟩ ?_
  rintro i2 y ay ⟨rfl,T⟩;refine G5 ?_;refine Ab rfl ?_ ?_<;>intro h2
  ·have bv:i2<R.bd.length:=Int.ofNat_lt.1 (of_decide_eq_true h2);obtain⟨k,N⟩:=Ar bv;obtain⟨fk,ck,aa,aq,e,au,ao,an⟩:=am k (bA N);have j:=pB n.m a8 e.1 e.2 au;have ac:=f237 n g1 g3 a7 K ag an;refine cD ?_;refine XI (l:=[(236,[nV i,.pv [.pr X.A 0]],y,.agg [sV (E.of (R.lab i)).var,D (E.of (R.lab i)).obj,.sr L 0 1 (E.of (R.lab i)).vals.length (some (E.of (R.lab i)).vals.length)],y),(236,[nV k,.pv [.pr X.A 0]],y,.agg [sV (E.of (R.lab k)).var,D (E.of (R.lab k)).obj,aa],y),(237,[.pr X.A 0,.sr L 0 1 (E.of (R.lab i)).vals.length (some (E.of (R.lab i)).vals.length),nV (E.of (R.lab k)).obj.toNat],y,.bool (fC s.size E.k (E.of (R.lab i)).vals (E.of (R.lab k)).obj.toNat),y)]) ⟨u,j,ac,trivial⟩ ?_;refine G3 ?_;refine V (E8 n.m (aG (t:=286)) rfl (show Cz 1 false ((cp R X E.k g sp rf vf ve).drop 11)=some (.mp X.pq)from rfl)) ?_
   refine G2 ?_;refine V (G0 fS fW rfl rfl) (V (tB nN rfl n.p rfl (yd (Int.ofNat i) (Int.ofNat k))) ?_);refine G ?_;refine xI 10 (fC s.size E.k (E.of (R.lab i)).vals (E.of (R.lab k)).obj.toNat) (λH=>?_) (λ_=>?_)
   ·iterate 4 refine fD H ?_
    refine gR H (uP (cs:=[sV (E.of (R.lab i)).var,D (E.of (R.lab i)).obj,.sr L 0 1 (E.of (R.lab i)).vals.length (some (E.of (R.lab i)).vals.length)]) (cP (t:=186) (i:=2)) rfl rfl) ?_
    iterate 2 refine fD H ?_
    refine tG H (Bq rfl rfl (vN (MN r.1 e.1 r.2 e.2))) (gR H (uP (cs:=[sV (E.of (R.lab k)).var,D (E.of (R.lab k)).obj,aa]) (cP (t:=186) (i:=1)) rfl rfl) (tG H (Bq rfl (by show some [I.pr X.A 0,.sr L 0 1 (E.of (R.lab i)).vals.length (some (E.of (R.lab i)).vals.length),D (E.of (R.lab k)).obj]=some [I.pr X.A 0,.sr L 0 1 (E.of (R.lab i)).vals.length (some (E.of (R.lab i)).vals.length),nV (E.of (R.lab k)).obj.toNat];rw[ao];rfl) (Dw zD (Dw zD Bv))) ?_))
    exact iX
   refine G ?_
   refine⟨rfl,by simp,?_⟩
   refine Ab rfl ?_ ?_<;>intro B
   ·have ae:(R.prB i k&&fC s.size E.k (E.of (R.lab i)).vals (E.of (R.lab k)).obj.toNat)=true:=B
    have U:zA s.size R E i=false:=by
     unfold zA
     grind
    rw[U,Bool.false_and,Bool.false_and]at b;refine G5 ?_
    exact⟨_,rfl,_,_,a_ hw Y zN,Y,.same rfl,by rw[<-b];rfl,rfl⟩
   ·have w:(R.prB i k&&fC s.size E.k (E.of (R.lab i)).vals (E.of (R.lab k)).obj.toNat)=false:=B;refine G5 ?_
    refine⟨bv,SL,rfl,by rw[Fw N,List.all_append,T,gX,w];rfl⟩
  ·have ba:R.bd.length<=i2:=dQ.1 (Int.not_lt.1 (λq=>of_decide_eq_false h2 q))
   rw[dG ba]at T;have U:zA s.size R E i=true:=T;rw[U,Bool.true_and]at b;have aw:(R.ot.take a).length=a:=Z;refine G6 ?_;refine A (E8 n.m aG rfl (show Cz 1 false ((cp R X E.k g sp rf vf ve).drop 7)=some (aD cK 1 R.ot)from rfl)) ?_
   refine G ?_;refine A (Y4 aJ zF rfl rfl (q' bc)) ?_
   refine G4 ?_;refine Bz (R.ot.take a).length (λi4=>[(1,.pv [.pr X.A 0]),(3,.fn (.func 236) [] [.pv [.pr X.A 0]]),(5,nV i),(15,aD cK 1 R.ot),(16,nV R.ot.length),(17,nV a),(57,aD cK 1 (R.ot.take a)),(58,nV (R.ot.take a).length),(59,nV i4)]) (λi4 J4=>J4=y/\((R.ot.take a).take i4).all (nI s.size R E i)=true) SL ⟨rfl,rfl⟩ ?_
   rintro i4 J4 bx ⟨rfl,C⟩;refine G5 ?_;refine Ab rfl ?_ ?_<;>intro B
   ·have dy:i4<(R.ot.take a).length:=Int.ofNat_lt.1 (of_decide_eq_true B);obtain⟨k,N⟩:=Ar dy;have af:=bA N;obtain⟨fk,ok,aq,e,a9,ar⟩:=ai k (kJ af);have j:=pB n.m a8 e.1 e.2 (show I.und (O J4) (.sr ok 0 1 (E.of (R.lab k)).vals.length (some (E.of (R.lab k)).vals.length))=true from Ce (hw _ _ a9).1)
    iterate 15 refine G ?_
    refine A (E8 n.m aG rfl (show Cz 1 false ((cp R X E.k g sp rf vf ve).drop 11)=some (.mp X.pq)from rfl)) ?_
    refine G2 ?_;refine A (G0 fS fW rfl rfl) (A (tB nN rfl n.p rfl (yd (Int.ofNat i) (Int.ofNat k))) ?_);refine G2 ?_;refine Ab rfl ?_ ?_<;>intro h4
    ·have aj:R.prB i k=false:=by unfold b9.prB;simpa using h4
     have p:nI s.size R E i k=true:=by unfold nI;rw[aj];rfl
     refine G5 ?_
     refine⟨dy,SL,rfl,by rw[Fw N,List.all_append,C,gX,p];rfl⟩
    ·have aj:R.prB i k=true:=by unfold b9.prB;simpa using h4
     refine G7 ?_;refine A (E8 n.m aG rfl (show Cz 1 false ((cp R X E.k g sp rf vf ve).drop 2)=some (nV E.k)from rfl)) ?_
     refine G3 ?_;refine Bz E.k (λf=>[(1,.pv [.pr X.A 0]),(3,.fn (.func 236) [] [.pv [.pr X.A 0]]),(5,nV i),(9,nV k),(15,aD cK 1 R.ot),(16,nV R.ot.length),(17,nV a),(57,aD cK 1 (R.ot.take a)),(58,nV (R.ot.take a).length),(59,nV i4),(76,nV E.k),(77,nV f)]) (λf x=>x=J4/\(List.range f).all (λo=> !(fC s.size E.k (E.of (R.lab i)).vals o&&fC s.size E.k (E.of (R.lab k)).vals o))=true) SL ⟨rfl,rfl⟩ ?_
     rintro f x bz ⟨rfl,al⟩;refine G5 ?_;refine Ab rfl ?_ ?_<;>intro h5
     ·have m6:f<E.k:=Int.ofNat_lt.1 (of_decide_eq_true h5);have Q:=f237 n g1 g3 a7 K ag (c:=f) z;have S:=f237 n g1 g3 a7 a9 ar (c:=f) z;refine G9 ?_;refine XI (l:=[(236,[nV i,.pv [.pr X.A 0]],x,.agg [sV (E.of (R.lab i)).var,D (E.of (R.lab i)).obj,.sr L 0 1 (E.of (R.lab i)).vals.length (some (E.of (R.lab i)).vals.length)],x),(236,[nV k,.pv [.pr X.A 0]],x,.agg [sV (E.of (R.lab k)).var,D (E.of (R.lab k)).obj,.sr ok 0 1 (E.of (R.lab k)).vals.length (some (E.of (R.lab k)).vals.length)],x),(237,[.pr X.A 0,.sr L 0 1 (E.of (R.lab i)).vals.length (some (E.of (R.lab i)).vals.length),nV f],x,.bool (fC s.size E.k (E.of (R.lab i)).vals f),x),(237,[.pr X.A 0,.sr ok 0 1 (E.of (R.lab k)).vals.length (some (E.of (R.lab k)).vals.length),nV f],x,.bool (fC s.size E.k (E.of (R.lab k)).vals f),x)]) ⟨u,j,Q,S,trivial⟩ ?_;refine G4 ?_;refine V (uP (cs:=[sV (E.of (R.lab i)).var,D (E.of (R.lab i)).obj,.sr L 0 1 (E.of (R.lab i)).vals.length (some (E.of (R.lab i)).vals.length)]) (cP (t:=186) (i:=2)) rfl rfl) ?_;refine G ?_
      refine DT (Bq rfl rfl (Dw zD (Dw zD Bv))) ?_
      refine G ?_;refine xI 7 (fC s.size E.k (E.of (R.lab k)).vals f) (λH=>?_) (λ_=>?_)
      ·iterate 3 refine fD H ?_
       refine tG H (Bq rfl rfl (vN (MN r.1 e.1 r.2 e.2))) (gR H (uP (cs:=[sV (E.of (R.lab k)).var,D (E.of (R.lab k)).obj,.sr ok 0 1 (E.of (R.lab k)).vals.length (some (E.of (R.lab k)).vals.length)]) (cP (t:=186) (i:=2)) rfl rfl) ?_);refine fD H ?_
       refine tG H (Bq rfl rfl (Dw zD (Dw zD (vN (ZD K a9))))) ?_
       exact iX
      refine G ?_
      refine⟨rfl,by simp,?_⟩
      refine Ab rfl ?_ ?_<;>intro h6
      ·have ae:(fC s.size E.k (E.of (R.lab i)).vals f&&fC s.size E.k (E.of (R.lab k)).vals f)=true:=h6
       have p:nI s.size R E i k=false:=by
        unfold nI
        grind
       rw[(List.all_eq_false.2 ⟨k,af,Z⟩:(R.ot.take a).all (nI s.size R E i)=false),Bool.false_and]at b;refine G5 ?_
       exact⟨_,rfl,_,_,a_ hw Y zN,Y,.same rfl,by rw[<-b];rfl,rfl⟩
      ·have w:(fC s.size E.k (E.of (R.lab i)).vals f&&fC s.size E.k (E.of (R.lab k)).vals f)=false:=h6;refine G5 ?_;refine⟨m6,SL,rfl,Z⟩
     ·have p8:E.k<=f:=dQ.1 (Int.not_lt.1 (λq=>of_decide_eq_false h5 q))
      have ap:f=E.k:=by omega
      rw[ap]at al
      have p:nI s.size R E i k=true:=by unfold nI;grind
      refine G5 ?_
      refine⟨dy,SL,rfl,by rw[Fw N,List.all_append,C,gX,p];rfl⟩
   ·have jn:(R.ot.take a).length<=i4:=dQ.1 (Int.not_lt.1 (λq=>of_decide_eq_false B q))
    rw[dG jn]at C;rw[C,Bool.true_and]at b;refine G5 ?_
    refine⟨bc,SL,rfl,by rw[Fw hi];exact b⟩
 ·have bj:R.ot.length<=a:=dQ.1 (Int.not_lt.1 (λq=>of_decide_eq_false P q))
  rw[List.drop_of_length_le bj,Bb6]at b;refine G6 ?_
  exact⟨_,rfl,_,_,a_ hw Y zN,Y,.same rfl,by rw[<-b];rfl,rfl⟩
structure fX (W:Wd)(R:b9):Prop where
 nd:(R.fl.map (·.label)).Nodup
 ix:∀i,(i∈R.bd\/i∈R.ot)↔i<R.fl.length
 kb:∀i∈R.bd,kd W.km (R.srt i)=1
 ko:∀i∈R.ot,kd W.km (R.srt i)≠1
 nb:R.ot.Nodup
 n6:R.bd.length<=6
 tx:∀h∈R.fl,h.text≠[]
 tr:∀t,(t∈R.hy\/t=R.go)->(∃q,ev W.g t=some q)/\M6 t<=100000/\∀s r,eE s t=true->F4 W.g s=some r->r.var=true->∃h∈R.fl,h.label=s/\r.sort=h.text.headD []
 lf:R.fl.length<1000000
 lh:R.hy.length<1000000
 f0:0<=R.fuel
 f9:R.fuel<=100000
section
variable {W:Wd}{R:b9}{M:cF}
theorem jG{i h}(a:R.fl[i]? =some h):R.lab i=h.label:=by unfold b9.lab;rw[a];rfl
theorem zZ{i h}(a:R.fl[i]? =some h):R.srt i=h.text.headD []:=by unfold b9.srt;rw[a];rfl
theorem fX.at(x:fX W R){i}(L:i∈R.bd\/i∈R.ot):∃h,R.fl[i]? =some h:=Ar ((x.ix i).1 L)
theorem fX.inj(x:fX W R){i k}(L:i∈R.bd\/i∈R.ot)(X:k∈R.bd\/k∈R.ot)(e:R.lab i=R.lab k):i=k:=by
 obtain⟨a,c⟩:=x.at L;obtain⟨b,d⟩:=x.at X;rw[jG c,jG d]at e;refine(List.getElem?_inj Z x.nd).1 ?_
 grind
theorem fX.bo(x:fX W R){i}(Q:i∈R.bd):i∉R.ot:=λa=>x.ko i a (x.kb i Q)
theorem fX.lo(x:fX W R):R.ot.length<1000000:=by
 have:R.ot.length<=R.fl.length:=by
  have h:=Vl R.fl.length R.ot x.nb λi a=>(x.ix i).1 (.inr a)
  exact h
 have:=x.lf;omega
def gO(R:b9)(n:Nat)(s:aH):Prop:=(∃k∈R.bd,s=R.lab k)\/∃i∈R.ot.take n,s=R.lab i
structure kP (W:Wd)(R:b9)(n:Nat)(M:cF):Prop where
 k6:M.k<=6
 ot:∀i∈R.ot.take n,Int.ofNat (M.of (R.lab i)).vals.length=W.n ^ M.k/\∀v∈(M.of (R.lab i)).vals,0<=v/\v<bR W.n (kd W.km (R.srt i))
 bd:∀k∈R.bd,0<=(M.of (R.lab k)).obj/\(M.of (R.lab k)).obj<Int.ofNat M.k
 be:∀k∈R.bd,(M.of (R.lab k)).vals=[]
theorem yG{C:Type}{l:List C}{n a x}(c:l[n]? =some a):x∈l.take (n+1)↔x∈l.take n\/x=a:=by
 rw[Fw c,dW,cI]
theorem RI{l:List Nat}(d:l.Nodup){n i}(L:l[n]? =some i):i∉l.take n:=λh=>by
 obtain⟨j,a⟩:=List.getElem?_of_mem h;rw[tJ]at a
 split at a
 ·rename_i b
  have:=(List.getElem?_inj (bQ.1 a).1 d).1 (a.trans L.symm);omega
 ·cases a
theorem kP.put(x:fX W R){n i}(f:kP W R n M)(L:R.ot[n]? =some i){l}(d:Int.ofNat l.length=W.n ^ M.k)(w:kB (bR W.n (kd W.km (R.srt i))) l):kP W R (n+1) (M.put ⟨R.lab i,0,l⟩):=by
 have b:=bA L;have h:∀k∈R.bd,R.lab k≠R.lab i:=λk a e=>x.bo a (x.inj (.inl a) (.inr b) e▸b)
 refine⟨f.k6,λj c=>?_,λk a=>?_,λk a=>?_⟩
 ·rcases(yG L).1 c with c|rfl
  ·have g:R.lab j≠R.lab i:=λe=>RI x.nb L (x.inj (.inr (kJ c)) (.inr b) e▸c)
   show Int.ofNat (if R.lab j=R.lab i then _ else M.of (R.lab j)).vals.length=_/\∀v∈(if R.lab j=R.lab i then _ else M.of (R.lab j)).vals,_
   rw[if_neg g];exact f.ot j c
  ·show Int.ofNat (if R.lab j=R.lab j then(⟨R.lab j,0,l⟩:cT)else M.of (R.lab j)).vals.length=_/\∀v∈(if R.lab j=R.lab j then(⟨R.lab j,0,l⟩:cT)else M.of (R.lab j)).vals,_
   rw[if_pos rfl];exact⟨d,w⟩
 ·show 0<=(if R.lab k=R.lab i then _ else M.of (R.lab k)).obj/\(if R.lab k=R.lab i then _ else M.of (R.lab k)).obj<_
  rw[if_neg (h k a)];exact f.bd k a
 ·show(if R.lab k=R.lab i then _ else M.of (R.lab k)).vals=[]
  rw[if_neg (h k a)];exact f.be k a
theorem PX(x:fX W R)(f:kP W R R.ot.length M){t}(m:t∈R.hy\/t=R.go):mX W M (gO R R.ot.length) t:=by
 obtain⟨o,p,l⟩:=x.tr t m
 have e:∀h∈R.fl,∃i,R.fl[i]? =some h/\(i∈R.bd\/i∈R.ot):=λh d=>by
  obtain⟨i,b⟩:=List.getElem?_of_mem d;exact⟨i,b,(x.ix i).2 (bQ.1 b).1⟩
 refine⟨o,p,λs r g j k=>?_,λs r g j k=>?_⟩
 ·obtain⟨h,d,rfl,c⟩:=l s r g j k;obtain⟨i,b,a⟩:=e h d;rw[<-jG b];rw[<-zZ b]at c
  rcases a with a|a
  ·exact⟨λ_=>f.bd i a,λn=>absurd (by rw[c];exact x.kb i a) n⟩
  ·exact⟨λn=>absurd Z (x.ko i a),λ_=>by rw[c];exact f.ot i Z⟩
 ·obtain⟨h,d,rfl,_⟩:=l s r g j k;obtain⟨i,b,a⟩:=e h d;rw[<-jG b]
  rcases a with a|a
  ·exact .inl ⟨i,a,rfl⟩
  ·exact .inr ⟨i,Z,rfl⟩
theorem Ti(x:fX W R)(f:kP W R R.ot.length M):yh W.n R M (gO R R.ot.length):=λi b=>by
 obtain⟨h,a⟩:=x.at (.inr b)
 exact⟨h,a,.inr ⟨i,Z,(jG a).symm⟩,by rw[<-jG a];exact(f.ot i Z).1⟩
theorem WF(x:fX W R){n}(f:kP W R n M):wW R M (gO R n):=λk b=>by
 obtain⟨h,a⟩:=x.at (.inl b);have:=f.bd k b;have c:=f.k6;rw[jG a]at this;simp only[ep]at this
 exact⟨h,a,.inl ⟨k,b,(jG a).symm⟩,this.1,by omega⟩
end
def RT(s:dH):I:=match s.rf with|none=>nS|some x=>aD gE 3 x.1
def MI(s:dH):I:=match s.rf with|none=>nS|some x=>aD eI 1 x.2
def cB(R:b9)(X:eA)(k:Nat)(s:dH):List I:=cp R X k s.cnt s.sp s.rf.isSome (RT s) (MI s)
def jJ(R:b9)(s:dH):Prop:=s.sp=false/\s.rf=none/\0<=s.cnt/\s.cnt<=R.fuel
def lB(E:cF)(b:aH->Prop)(m:SM (cT×I))(B:Nat)(J:F):Prop:=∀a,b a->∃v,m.get a=some (E.of a,v)/\QF J (E.of a).vals v/\∀o,bm v=some o->o<B
theorem lB.of_get{E b m B J U}(h:lB E b m B J)(H:∀(l:List Int) o,o<B->J.get o=some (.cells (l.flatMap eI))->U.get o=J.get o):lB E b m B U:=λg f=>by
 obtain⟨v,e,a,c⟩:=h g f;refine⟨v,e,?_,c⟩
 rcases a with a|⟨o,a,d⟩
 ·exact .inl a
 ·exact .inr ⟨o,a,(H _ o (c o (by rw[a];rfl)) d).trans d⟩
end Go.AM
