/- A part of the proof; shortened by program. -/
import Derived.Test.YtmkaboegdoadhaaGreatDoorP23
set_option maxRecDepth 100000
set_option maxHeartbeats 4000000
set_option linter.all false
namespace Go.AM
open Go Go.Proofs
theorem WU(r):eY r.parts=Qw r:=by
 unfold eY Qw
 grind
theorem Jr{N a o}(h:a<N):I.und N (.pr a o)=true:=Ce h
def MM(o:Option (List cN)):I:=match o with|some a=>.tup [fV a,.bool true]|none=>.tup [.agg [nS],.bool false]
theorem f121{c}(ok:Xe c)(hG:gU c.g)(uh:c.text.length<=1000000)(w)(hw:w.2.1<=c.text.length/\w.2.2<=c.text.length){ah J}(tq:ah=nS)(Q:ee c.g c.text c.D c.X c.P c.mN c.mT ah J)(hl:oU [] c.N0 c.mN ah J)(ue:rP c.g c.rv c.X.mR J)(l5:Below c.M c.J0 J):
  Al M 121 [.pr c.P 0,.agg (c7 w)] J λv J'=>v=MM (Im c.g c.D c.text w)/\Below c.M c.J0 J':=by
 have hR:c.g.rules.length<=1000000:=by have:=hG.len;omega
 have tp:=ok.lt;have hM:=ok.M;have th:=hl.lt

 obtain⟨J1,r7⟩:∃J1,((J.bump.new (.cells [nS])).new (.cells [.bool false])).new (.cells [nS])=J1:=⟨_,rfl⟩;have n1:O J1=O J+4:=Z;have g1:∀b,b<O J->J1.get b=J.get b:=Z;have a1:J1.get (O J+1)=some (.cells [nS]):=Z;have a2:J1.get (O J+2)=some (.cells [.bool false]):=Z;have a3:J1.get (O J+3)=some (.cells [nS]):=Z;have wd:=Q.lt;have sw:ee c.g c.text c.D c.X c.P c.mN c.mT ah J1:=Q.of_get z λb q=>g1 b Z
 have tn:oU [] c.N0 c.mN ah J1:=hl.of_get z (g1 _ z) λa q=>g1 a (hl.lst.adr_lt q).2
 have tt:D2 [] w=(0,[w]):=rfl;obtain⟨iw,S,l6,d5,d9,dg⟩:=wQ sw tn ok.lt ok.ne w (bU _);rw[tt]at l6 d9;have wj:=dg.n
 have qi:∀b,bm ah≠some b:=λb e=>by rw[tq]at e;cases e
 have g2:∀b,b<O J1->b≠c.P->b≠c.mN->S.get b=J1.get b:=λb h1 h2 h3=>dg.g b h1 h2 h3 (qi b)
 obtain⟨J3,r8⟩:∃J3,(S.new (.cells [.int .i64 0])).set (O S) (.cells [nV 0])=J3:=⟨_,rfl⟩;have n3:O J3=O S+1:=Z;have g3:∀b,b<O S->J3.get b=S.get b:=Z;have a4:J3.get (O S)=some (.cells [nV 0]):=Z
 have na:∀a,bm iw=some a->O J1<=a:=λa ha=>by
  rcases dg.a a ha with q|q
  ·grind
  ·exact q
 have sh:PS c ⟨O J+1,O J+2,O J+3,O S,none,none,iw,nS,nS,nS⟩ [w] 0 [] kF [] 0 [] J3:=by
  have db:=d9.lst
  refine⟨λt u a ht hu=>?_,λt a ht=>?_,d5.of_get z λb q=>g3 b Z,d9.of_get z (g3 _ Z) λa q=>g3 a (db.adr_lt q).2,ue.of_get z λa q=>?_,?_,?_,?_,.nil,a4,λa q=>(by cases q),.nil,λa q=>(by cases q),.nil,⟨by have:=l5.1;omega,λb q=>?_⟩⟩
  ·have s8:∀t a,Px.loc ⟨O J+1,O J+2,O J+3,O S,none,none,iw,nS,nS,nS⟩ t=some a->(t=.r1/\a=O J+1)\/(t=.r2/\a=O J+2)\/(t=.f/\a=O J+3)\/(t=.tot/\a=O S)\/(t=.lv/\O J1<=a/\a<O S):=λt a q=>by
    cases t with
    |r1=>cases q;exact .inl ⟨rfl,rfl⟩
    |r2=>cases q;exact .inr (.inl ⟨rfl,rfl⟩)
    |f=>cases q;exact .inr (.inr (.inl ⟨rfl,rfl⟩))
    |tot=>cases q;exact .inr (.inr (.inr (.inl ⟨rfl,rfl⟩)))
    |lv=>exact .inr (.inr (.inr (.inr ⟨rfl,na a q,(db.adr_lt q).2⟩)))
    |_=>cases q
   rcases s8 t a ht with⟨rfl,h1⟩|⟨rfl,h1⟩|⟨rfl,h1⟩|⟨rfl,h1⟩|⟨rfl,h1⟩<;>rcases s8 u a hu with⟨rfl,h2⟩|⟨rfl,h2⟩|⟨rfl,h2⟩|⟨rfl,h2⟩|⟨rfl,h2⟩<;>first|rfl|(exfalso;omega)
  ·cases t with
   |r1=>have ht:O J+1=a:=gL ht;omega
   |r2=>have ht:O J+2=a:=gL ht;omega
   |f=>have ht:O J+3=a:=gL ht;omega
   |tot=>have ht:O S=a:=gL ht;omega
   |lv=>have:=db.adr_lt ht;omega
   |_=>cases ht
  ·have:=ok.rl a q
   grind
  ·grind
  ·grind
  ·grind
  ·rw[g3 b z,g2 b z z z,g1 b z];exact l5.2 b q
 refine sg (Mo Tryz.func121 (Ke _ _ Tryz.func121) rfl rfl λwa w8=>?_)
 iterate  4 refine G ?_
 refine A (Bj (n:=O J+1) bG (Bm J)) (A (Bj (n:=O J+2) bG Z) ?_)
 iterate  3 refine G ?_
 refine A (Bj (n:=O J+3) bG Z) ?_;refine G ?_;rw[r7]
 iterate  4 refine G ?_
 refine Ca l6 ?_
 iterate  3 refine G ?_
 refine A (Bu bG) (A (sO (cs:=[.int .i64 0]) (cs':=[nV 0]) (by rw[a5,if_pos rfl])) ?_)
 refine G ?_;rw[r8]
 iterate  6 refine G ?_
 refine Hz (λq:Nat×Nat×List Sp×List cN=>[(2,.pv [.pr c.P 0]),(4,.pr (O J+1) 0),(5,.pr (O J+2) 0),(6,.pr (O J+3) 0),(7,.pr (O S) 0),(8,nV q.1)]) (λq J0=>∃B,PS c B q.2.2.1 q.2.1 q.2.2.2 kF [] 0 [] J0/\(B.r1=O J+1/\B.r2=O J+2/\B.f=O J+3/\B.tot=O S/\B.nd=none/\B.wv=nS/\B.w=none/\B.kv=nS)/\q.1<=q.2.2.1.length/\q.2.2.2.length=q.1/\q.2.1<=40000/\q.2.2.1.length<=4000/\Pl c.text.length q.2.2.1/\Pf c.g c.D c.text (4002-q.1) q.1 q.2.1 q.2.2.1 q.2.2.2=Im c.g c.D c.text w/\O J3<=O J0) (λq=>4001-q.1) (0,0,[w],[]) SL ⟨_,sh,⟨rfl,rfl,rfl,rfl,rfl,rfl,rfl,rfl⟩,bU _,rfl,bU _,by simp,λx hx=>Z,rfl,Y⟩ ?_
 rintro⟨i,m,L,d⟩ J0 ⟨B,hY,⟨e1,e2,e3,e4,e5,e6,e7,e8⟩,l8,ln,j6,cx,ar,N,li⟩;have hY:PS c B L m d kF [] 0 [] J0:=hY;have l8:i<=L.length:=l8;have ln:d.length=i:=ln;have j6:m<=40000:=j6;have cx:L.length<=4000:=cx;have ar:Pl c.text.length L:=ar;have N:Pf c.g c.D c.text (4002-i) i m L d=Im c.g c.D c.text w:=N;have li:O J3<=O J0:=li;have bl:=hY.pkl.lst.lenA
 iterate  7 refine G ?_
 refine A (lO hY.pkb.pk) (A (Bf bF rfl bl.1 bl.2) ?_)
 iterate  2 refine G ?_
 refine A0 rfl ?_ ?_<;>intro h1
 ·have bc:i<L.length:=Int.ofNat_lt.1 (of_decide_eq_true h1);obtain⟨s,hs⟩:=Ar bc;obtain⟨uf,oo⟩:=ar s (bA hs);obtain⟨aL,tL,_,_,uj,t8⟩:=hY.pkl.lst.sr bc
  rw[show 4002-i=(4001-i)+1 by omega]at N
  have N:(match Pj (kL c.g c.D c.text s) ⟨m,L,[]⟩with|none=>none|some P=>Pf c.g c.D c.text (4001-i) (i+1) P.total P.list (d++[⟨s,P.ways⟩]))=Im c.g c.D c.text w:=by
   rw[<-N,Pf,hs];rfl
  iterate  8 refine G ?_
  refine A (lO hY.pkb.pk) ?_;refine G ?_;refine A (Br aJ (show _=some (I.sr aL 0 3 L.length none)from congrArg some uj) rfl bc) (A (Dg (enc:=c7) O2 aG rfl t8 hs λ_=>rfl) ?_)
  iterate  2 refine G ?_
  obtain⟨J4,r9⟩:∃J4,(J0.new (.cells [.str [],.int .i64 0,.int .i64 0,nS])).set (O J0) (.cells [sV s.1,nV s.2.1,nV s.2.2,nS])=J4:=⟨_,rfl⟩;have n4:O J4=O J0+1:=Z;have ak:=hY.nnode ok e5 e6 n4 Z s Z
  iterate  9 refine G ?_
  refine A (Bu bG) (A (sO (cs:=[.str [],.int .i64 0,.int .i64 0,nS]) (cs':=[sV s.1,nV s.2.1,nV s.2.2,nS]) (by rw[a5,if_pos rfl])) ?_)
  refine G ?_;rw[r9]
  obtain⟨v,ul,bf⟩:∃v,((c.rv.get s.1).map λv:I=>v).getD nS=v/\aW J4 0 eN 1 (E5 c.g s.1) v/\(0<(E5 c.g s.1).length->c.rv.get s.1=some v):=by
   have:=ak.rl.get s.1;cases hs:c.rv.get s.1 with
   |none=>rw[hs]at this;exact⟨_,rfl,by rw[this];exact .nil,Z⟩
   |some v=>rw[hs]at this;exact⟨v,rfl,this,λ_=>rfl⟩
  obtain⟨bf,w9⟩:=bf
  iterate  2 refine G ?_
  refine Dy λdf=>X0 ?_
  iterate  3 refine G ?_
  refine V (lO ak.pkb.pk) ?_
  iterate  2 refine G ?_
  refine V (lO ak.pkb.cl) ?_
  iterate  2 refine G ?_
  refine V (BD bI sS rfl ak.rl.map rfl ul) (V (Bf bF rfl bf.lenA.1 bf.lenA.2) ?_)
  iterate  2 refine G ?_
  refine⟨rfl,rfl,?_⟩;refine G ?_;refine Hz (λq:Nat×Pk=>[(2,.pv [.pr c.P 0]),(4,.pr (O J+1) 0),(5,.pr (O J+2) 0),(6,.pr (O J+3) 0),(7,.pr (O S) 0),(8,nV i),(9,.pv (c7 s)),(10,.pr (O J0) 0),(52,v),(53,nV (E5 c.g s.1).length),(54,nV q.1)]) (λq J5=>∃W,PS c W q.2.list q.2.total d s q.2.ways 0 [] J5/\(W.r1=O J+1/\W.r2=O J+2/\W.f=O J+3/\W.tot=O S/\W.nd=some (O J0)/\W.w=none/\W.kv=nS)/\q.1<=(E5 c.g s.1).length/\q.2.list.length<=4000/\q.2.total<=40000/\q.2.ways.length<=q.2.total/\Pl c.text.length q.2.list/\Pj (((E5 c.g s.1).drop q.1).flatMap λr=>(Qx c.g c.D c.text r s.2.1 s.2.2).map λl=>(r,l)) q.2=Pj (kL c.g c.D c.text s) ⟨m,L,[]⟩/\L.length<=q.2.list.length/\O J4<=O J5) (λq=>(E5 c.g s.1).length-q.1) (0,⟨m,L,[]⟩) SL ⟨_,ak,⟨e1,e2,e3,e4,rfl,e7,e8⟩,bU _,cx,j6,bU _,ar,rfl,Y,Y⟩ ?_
  rintro⟨j,k⟩ J5 ⟨W,hZ,⟨z1,z2,z3,z4,z5,z6,z7⟩,l9,j7,j8,j9,kd,C,jb,lj⟩;have hZ:PS c W k.list k.total d s k.ways 0 [] J5:=hZ;have l9:j<=(E5 c.g s.1).length:=l9;have j7:k.list.length<=4000:=j7;have j8:k.total<=40000:=j8;have j9:k.ways.length<=k.total:=j9;have kd:Pl c.text.length k.list:=kd;have C:Pj (((E5 c.g s.1).drop j).flatMap λr=>(Qx c.g c.D c.text r s.2.1 s.2.2).map λl=>(r,l)) k=Pj (kL c.g c.D c.text s) ⟨m,L,[]⟩:=C
  have jb:L.length<=k.list.length:=jb;have lj:O J4<=O J5:=lj
  iterate  5 refine G ?_
  refine A0 rfl ?_ ?_<;>intro h2
  ·have bv:j<(E5 c.g s.1).length:=Int.ofNat_lt.1 (of_decide_eq_true h2);obtain⟨r,hr⟩:=Ar bv
   have ni:aW J5 0 eN 1 (E5 c.g s.1) v:=by
    have:=hZ.rl.get s.1
    grind
   obtain⟨aR,tR,_,_,uk,t9⟩:=ni.sr bv;have qo:r<c.g.rules.length:=jW.1 (gS.1 (bA hr)).1;obtain⟨rl,ic⟩:=Ar qo;have o5:=bA ic;have vn:=hG.prt rl o5;have kz:=zf (ps:=rl.parts)
   have se:∀p∈rl.parts,p.sort≠[]->∃j:Nat,p.arg=Int.ofNat j/\j<eY rl.parts:=λp hp an=>by rw[WU];exact hG.arg rl o5 p hp an
   rw[A4 hr,ej,Ajt]at C
   iterate  5 refine G ?_
   refine A (Br aJ (show _=some (I.sr aR 0 1 (E5 c.g s.1).length none)from congrArg some uk) rfl bv) (A (Dg Ep aG rfl t9 hr λ_=>rfl) ?_)
   iterate  10 refine G ?_
   refine Az rfl rfl rfl rfl (CT hZ.pkb ic hR z s.2.1 s.2.2) ?_;rintro _ J6 ⟨rfl,w6,n6,g6⟩;refine G ?_;have si:=hZ.news ok z g6;refine G ?_;have w4:c.N0<=O J5:=hZ.ltn;obtain⟨E,su⟩:∃E,O J6+1=E:=⟨_,rfl⟩;obtain⟨aK,sq⟩:∃aK,O J5=aK:=⟨_,rfl⟩;obtain⟨J7,a9⟩:∃J7,J6.bump.new (.loop .ready)=J7:=⟨_,rfl⟩;have n7:O J7=O J6+2:=Z;have g7:∀b,b<O J6->J7.get b=J6.get b:=Z;have y7:J7.get E=some (.loop .ready):=Z;have ap:=si.news ok z g7;have al:c.P<c.N0/\c.mN<c.N0:=⟨tp.1,th.1⟩
   have sf:PI c W d s E aK k (BS c W E) J7 W:=⟨ap,⟨rfl,rfl,rfl,rfl,rfl⟩,z6,z7,rfl,y7,λt a q=>by have:=(hZ.lo t a q).2;omega,⟨by omega,by omega,by omega,by omega,by omega⟩,j7,j8,j9⟩
   have wo:=hZ.lo .r1 _ rfl;have wq:=hZ.lo .r2 _ rfl;refine Oo ?_;refine L6 rfl (λtm ui=>?_)
   rw[a9,su,sq];refine mB (HS (L:=⟨E,tm,Tryz.f121.ntmps,_,_,_⟩) (aK:=aK) (mT:=c.mT) (mN:=c.mN) (P:=c.P) (g:=c.g) (text:=c.text) (D:=c.D) (X:=c.X) (I:=λa j0 U=>∃B,PI c W d s E aK a j0 U B) (aA:=JPk c W E) (st:=λP l=>F7 (r,l) P) (cX ..) ⟨?pk,?ks,?stb,?y⟩ ic se hR z uh oo z s.2.1 k (BS c W E) J7 uf ⟨W,sf⟩ (λb Q=>?_) z ((g7 aK z).trans Z)) ?post
   case pk=>exact λa j0 U ⟨B,h⟩=>⟨B.lv,h.ps.pkb⟩
   case ks=>
    rintro a j0 U ⟨B,h⟩ hF;rw[h.b]at hF;have h9:=h.lt
    rcases hF with q|q|q|⟨t,q⟩
    ·omega
    ·omega
    ·omega
    ·exact(h.dj t _ q).2 rfl
   case stb=>
    rintro a j0 U U' ⟨B,h⟩ hn H hr;have h9:=h.lt;have h8:=h.ps.ltn
    exact⟨B,⟨h.ps.keep ok hn (λb Q d5=>H b z d5 z) (λt b q=>H b (h.ps.lo t b q).2 (by have:=(h.ps.lo t b q).1;omega) (h.dj t b q).2) hr,h.fx,h.w,h.kv,h.b,(H _ z z z).trans h.y,h.dj,⟨h9.1,h9.2.1,h9.2.2.1,by omega,by omega⟩,h.b1,h.b2,h.b3⟩⟩
   case y=>
    rintro a j0 K U hK ⟨B,an,am,um,q8,rfl,hy,l7,d8,v7,v8,vg⟩
    have w7:K.length<=200:=by omega
    have wm:=an.ltn;obtain⟨U1,ri⟩:∃U1,U.set E (.loop .busy)=U1:=⟨_,rfl⟩;have wl:O U1=O U:=Z;have bz:∀b,b≠E->U1.get b=U.get b:=Z;have wn:U1.get E=some (.loop .busy):=Z;have tz:PS c B a.list a.total d s a.ways 0 [] U1:=an.keep ok z (λb Q _=>bz b z) (λt b q=>bz b (l7 t b q).1) (an.pkb.rs.of_get (bz _ z))
    obtain⟨U2,s7⟩:∃U2,(U1.new (.cells [.int .i64 0,nS])).set (O U1) (.cells [nV r,nS])=U2:=⟨_,rfl⟩;have ux:O U2=O U1+1:=Z;have sd:∀b,b<O U1->U2.get b=U1.get b:=Z;have ua:=tz.nway ok um q8 ux sd r Z;have ag:c.N0<=E/\E<O U/\∀t,B.loc t≠some E:=⟨d8.2.1,d8.2.2.2.1,λt q=>(l7 t _ q).1 rfl⟩
    have uc:ra c B E U { B with w:=some (O U1) } U2:=by
     refine⟨by omega,λt b q=>?_,Z,Z⟩
     by_cases e:t=.w
     ·subst e;cases q;grind
     ·exact .inl ⟨t,by cases t<;>first|exact q|exact absurd rfl e⟩
    refine Tk ui rfl Kr Kr Kr hy ag.2.1 ?_
    iterate  3 refine G ?_
    refine⟨hy,?_⟩;rw[show U.set E (.loop .busy)=U1 from ri]
    refine Dy λdf=>?_
    iterate  5 refine G ?_
    refine A (Bu bG) (A (sO (cs:=[.int .i64 0,nS]) (cs':=[nV r,nS]) (by rw[a5,if_pos rfl])) ?_)
    refine G ?_;rw[s7]
    iterate  8 refine G ?_
    refine Bz K.length (λq=>[(2,.pv [.pr c.P 0]),(4,.pr (O J+1) 0),(5,.pr (O J+2) 0),(7,.pr (O S) 0),(10,.pr (O J0) 0),(14,.pr (O U1) 0),(68,aD c7 3 K),(69,nV K.length),(70,nV q)]) (λq υ=>∃Y',PS c Y' (Ct a.list (K.take q) []).2 a.total d s a.ways r (Ct a.list (K.take q) []).1 υ/\Y'.w=some (O U1)/\Fx B Y'/\ra c B E U Y' υ) SL ⟨_,ua,rfl,⟨rfl,rfl,rfl,rfl,rfl⟩,uc⟩ ?_
    rintro q υ hq ⟨Y',T,a8,a7,oh⟩;have ey:=Acv (L:=a.list) (K:=K.take q) (o:=[]);rw[gC]at ey
    iterate  5 refine G ?_
    refine Ab rfl ?_ ?_<;>intro h4
    ·have lg:q<K.length:=Int.ofNat_lt.1 (of_decide_eq_true h4);obtain⟨x,hx⟩:=Ar lg;have tu:=Aju (L:=a.list) hx;obtain⟨we,sa,dp,ij,nm,gm,fm⟩:=T.meet ok x z;obtain⟨wt,d4,un,wg,q9,gk⟩:=ij.kid ok (a:=O U1) a8 (D2 (Ct a.list (K.take q) []).2 x).1 Z;have wb:=ij.lo .w (O U1) a8
     iterate  5 refine G ?_
     refine A (A1 aJ O2 rfl rfl hx) (A (Ac aG rfl rfl (A6 (O2 x) _)) ?_)
     iterate  2 refine G ?_
     refine L4 (Rr:=Dk [(155,[.pr c.P 0,.agg (c7 x)],υ,nV (D2 (Ct a.list (K.take q) []).2 x).1,sa)]) (anns:=[⟨.pure,0,1⟩,⟨.read,0,1⟩,⟨.read,0,0⟩,⟨.read,0,0⟩,⟨.eff,0,1⟩,⟨.pure,1,1⟩,⟨.eff,1,2⟩,⟨.pure,2,2⟩,⟨.eff,2,3⟩]) Di (Bw ⟨dp,trivial⟩) Kr ?_;refine G ?_;refine V (lO (T.w _ a8)) ?_
     iterate  3 refine G ?_
     refine V (Ai aJ bM rfl rfl rfl) (DT (Av aJ rfl bF rfl rfl rfl (new:=eN (D2 (Ct a.list (K.take q) []).2 x).1) rfl d4) ?_);refine G ?_;refine DT (sO (cs':=[nV r,.sr (O sa) 0 1 ((Ct a.list (K.take q) []).1.length+1) none]) un) ?_;refine G ?_
     refine⟨⟨trivial,(λs hs=>by simp at hs;rcases hs with rfl|rfl;exact⟨_,E8 (T.w _ a8) (aG (t:=31)) rfl rfl⟩;exact⟨_,E8 (ij.w _ a8) (aG (t:=31)) rfl rfl⟩),(λs hs=>⟨_,Ac (aG (t:=239)) rfl rfl rfl⟩),(λs hs=>⟨_,Ac (aG (t:=232)) rfl rfl rfl⟩),trivial,trivial,trivial,trivial,trivial,trivial⟩,?_⟩
     iterate  4 refine G ?_
     refine⟨lg,SL,?_⟩;rw[tu];refine⟨_,q9,?_⟩
     refine⟨a8,⟨a7.r1,a7.r2,a7.f,a7.tot,a7.nd⟩,(oh.step al ag nm fm gm).step al ag Z (λt b Q=>?_) (λb h1 h2 h3 h5=>gk b h1 (λe=>h5 .w (by rw[e];exact a8)) (h5 .kv))⟩
     by_cases e:t=.kv
     ·subst e;cases Q;grind
     ·exact .inl ⟨t,by cases t<;>first|exact Q|exact absurd rfl e⟩
    ·have tg:K.length<=q:=dQ.1 (Int.not_lt.1 (λq=>of_decide_eq_false h4 q))
     rw[dG tg]at T ey;obtain⟨o,ho⟩:∃o,(Ct a.list K []).1=o:=⟨_,rfl⟩;obtain⟨L2,jc⟩:∃L2,(Ct a.list K []).2=L2:=⟨_,rfl⟩;rw[ho,jc]at T ey
     have wc:F7 (r,K) a=if a.total+1>40000\/L2.length>4000 then none else some ⟨a.total+1,L2,a.ways++[⟨r,o⟩]⟩:=by unfold F7;rw[jc,ho]
     have uz:=T.lo .w _ a8;have ur:=T.w _ a8
     have rf:∀b,bm Y'.kv=some b->b≠O U1:=λb q e=>by cases T.inj .kv .w b q (by rw[e];exact a8)
     obtain⟨R,ae⟩:∃R,(without υ Y'.kv).kill (O U1)=R:=⟨_,rfl⟩
     have nf:O R=O υ:=by rw[<-ae,B3,L7]
     have gf:∀b,Y'.w≠some b->bm Y'.kv≠some b->R.get b=υ.get b:=λb h1 h2=>by rw[<-ae,dF,if_neg (λe=>h1 Z),E0,if_neg h2]
     have lq:=T.noway ok nf gf
     have ud:ra c B E U { Y' with w:=none,kv:=nS } R:=oh.step al ag z (λt b Q=>.inl ⟨t,by cases t<;>first|exact Q|cases Q⟩) (λb _ _ _ h5=>gf b (h5 .w) (h5 .kv))
     have kg:Y'.nd=some (O J0):=by rw[a7.nd,am.nd];exact z5
     obtain⟨uy,rj,rk,wh,gz,sc⟩:=lq.way ok (a:=O J0) kg ⟨r,o⟩ z
     have ns:ra c B E U _ _:=ud.step (Y'':={ { Y' with w:=none,kv:=nS }with wv:=.sr (O R) 0 2 (a.ways.length+1) none }) al ag Z (λt b Q=>by
      by_cases e:t=.wv
      ·subst e;cases Q;grind
      ·exact .inl ⟨t,by cases t<;>first|exact Q|exact absurd rfl e⟩) (λb h1 h2 h3 h5=>sc b h1 (λe=>h5 .nd (by rw[e];exact kg)) (h5 .wv))
     obtain⟨aj,ax⟩:∃aj,uy.set (O J0) (.cells [sV s.1,nV s.2.1,nV s.2.2,.sr (O R) 0 2 (a.ways.length+1) none])=aj:=⟨_,rfl⟩;rw[ax]at gz ns
     have r6:Y'.tot=O S:=by rw[a7.tot,am.tot];exact z4
     have mt:Y'.r1=O J+1:=by rw[a7.r1,am.r1];exact z1
     have no:Y'.r2=O J+2:=by rw[a7.r2,am.r2];exact z2
     have aa:=gz.tota ok (a.total+1)
     have ou:aj.get (O S)=some (.cells [nV a.total]):=by rw[<-r6];exact gz.tot
     have af:=ns.step (Y'':={ { Y' with w:=none,kv:=nS }with wv:=.sr (O R) 0 2 (a.ways.length+1) none }) (υ:=aj.set Y'.tot (.cells [nV (a.total+1)])) al ag Z (λt b Q=>.inl ⟨t,Q⟩) (λb h1 h2 h3 h5=>by rw[aU,if_neg (λe=>h5 .tot (by rw[e];rfl))])
     obtain⟨ac,ay⟩:∃ac,aj.set Y'.tot (.cells [nV (a.total+1)])=ac:=⟨_,rfl⟩;have aa:PS c { { Y' with w:=none,kv:=nS }with wv:=.sr (O R) 0 2 (a.ways.length+1) none } L2 (a.total+1) d s (a.ways++[⟨r,o⟩]) 0 [] ac:=Z;rw[ay]at af;have wi:=af.n;refine G ?_;refine Bo λuq=>?_
     refine HT R [(2,.pv [.pr c.P 0]),(4,.pr (O J+1) 0),(5,.pr (O J+2) 0),(7,.pr (O S) 0),(10,.pr (O J0) 0),(14,.pv (fQ ⟨r,o⟩))] ?_ nf ⟨⟨_,rfl,.same ?_⟩,⟨_,rfl,.same (Jr z)⟩,⟨_,rfl,.same (Jr z)⟩,⟨_,rfl,.same (Jr z)⟩,⟨_,rfl,.same (Jr z)⟩,⟨_,rfl,.pr ur ?_ (.cons (.same rfl) (.cons (T.kv.fzA Ep ?_ (A2 vM _)) .nil))⟩,trivial⟩ ?_
     ·rw[<-ae]
      exact zn ((uq.without).kill _) Z λb vz ha=>by
       rw[dF]at ha
       split at ha
       ·cases ha
       ·rw[E0]at ha
        grind
     ·have:=T.pkb.lt.1
      show(Nat.blt c.P (O R)&&true)=true
      rw[nf,Ce this];rfl
     ·grind
     ·intro b q;rw[<-ae,dF,if_neg (rf b q),E0,if_pos q]
     iterate  3 refine G ?_
     refine A (lO (lq.nd _ kg)) ?_;refine G ?_;refine Cx (Ai aJ bM rfl rfl rfl) (Dv (len:=1)) rfl rfl (A (Av aJ rfl bF rfl rfl rfl (new:=fQ ⟨r,o⟩) rfl rj) ?_);refine G ?_;refine A (sO (cs':=[sV s.1,nV s.2.1,nV s.2.2,.sr (O R) 0 2 (a.ways.length+1) none]) rk) ?_;refine G ?_;rw[ax]
     iterate  2 refine G ?_
     refine A (lO ou) ?_;refine G ?_;refine A (sO (cs':=[nV (a.total+1)]) ou) ?_;refine G ?_
     rw[show aj.set (O S) (.cells [nV (a.total+1)])=ac by rw[<-r6];exact ay]
     have ug:ac.get (O S)=some (.cells [nV (a.total+1)]):=Z;have lc:=aa.pkl.lst.lenA
     iterate  2 refine G ?_
     refine A (lO ug) ?_
     iterate  2 refine G ?_
     refine cJ 6 ?_ (λH=>?_) ?_
     rotate_left
     ·iterate  3 refine Gn H ?_
      refine On H (lO aa.pkb.pk) (On H (Bf bF rfl lc.1 lc.2) ?_);refine Gn H ?_;exact Ez
     refine G ?_;have uw:=af.y;refine Ab rfl ?_ ?_<;>intro h5
     ·have ut:F7 (r,K) a=none:=Z
      have lz:ac.get (O J+1)=some (.cells [nS]):=by rw[<-mt];exact aa.r1
      have vu:ac.get (O J+2)=some (.cells [.bool false]):=by rw[<-no];exact aa.r2
      have rm:O J+1≠E:=by omega
      have vx:O J+2≠E:=by omega
      iterate  3 refine G ?_
      refine A (sO (cs':=[nS]) lz) (A (G1 (cs:=[.bool false]) (cs':=[.bool false]) Z aG rfl rfl rfl rfl) ?_)
      iterate  2 refine G ?_
      refine⟨Z,?_⟩;rw[ut]
      refine⟨by simp,rfl,Z,?_,?_,⟨by rw[Aq,Aq,Aq];exact aa.blw.1,λb Q=>?_⟩,by omega,by omega,by omega⟩
      ·rw[z1,aU,if_neg rm,aU,if_neg z,aU,if_pos rfl]
      ·grind
      ·rw[aU,if_neg Z,aU,if_neg z,aU,if_neg z];exact aa.blw.2 b Q
     ·rw[iT]at h5;have w0:¬(40000:Int)<((a.total+1:Nat):Int):=of_decide_eq_false h5.1;have w3:¬(4000:Int)<((L2.length:Nat):Int):=of_decide_eq_false h5.2;have uu:F7 (r,K) a=some ⟨a.total+1,L2,a.ways++[⟨r,o⟩]⟩:=Z
      have od:∀t b,Px.loc { { Y' with w:=none,kv:=nS }with wv:=.sr (O R) 0 2 (a.ways.length+1) none } t=some b->b≠E/\b≠aK:=λt b q=>by
       rcases af.f t b q with⟨u,hu⟩|hu
       ·grind
       ·omega
      refine G ?_;refine⟨uw,?_⟩;rw[uu];have gy:∀b,b≠E->(ac.set E (.loop .ready)).get b=ac.get b:=Z
      refine⟨rfl,_,⟨_,⟨aa.keep ok Z (λb Q _=>gy b z) (λt b q=>gy b (od t b q).1) (aa.pkb.rs.of_get (gy _ z)),⟨Z,Z,by rw[<-am.f,<-a7.f],Z,Z⟩,rfl,rfl,rfl,by rw[aU,if_pos rfl];rfl,od,⟨d8.1,d8.2.1,d8.2.2.1,Z,Z⟩,Z,Z,Z⟩⟩,⟨Z,λb Q=>?_,λb h1 h2 h3 _=>?_⟩⟩
      ·rcases Q with q|q|q|⟨t,q⟩
       ·exact .inl (.inl q)
       ·exact .inl (.inr (.inl q))
       ·exact .inl (.inr (.inr (.inl q)))
       ·rcases af.f t b q with⟨u,hu⟩|hu
        ·exact .inl (.inr (.inr (.inr ⟨u,hu⟩)))
        grind
      ·rw[show H2 XE.normal=.ready from rfl,gy b (λe=>h2 (.inr (.inr (.inl e))))]
       exact af.g b h1 (λe=>h2 (.inl e)) (λe=>h2 (.inr (.inl e))) (λe=>h2 (.inr (.inr (.inl e)))) (λt q=>h2 (.inr (.inr (.inr ⟨t,q⟩))))
   case post=>
    intro u J' bh;cases aq:foM (λP l=>F7 (r,l) P) (Qx c.g c.D c.text r s.2.1 s.2.2) k with
    |none=>
     rw[aq]at bh C;obtain⟨tv,x,_,rfl,uv,lu,lw,kr,og,om,w5⟩:=bh;have C:none=Pj (kL c.g c.D c.text s) ⟨m,L,[]⟩:=C;rw[<-C]at N;have N:none=Im c.g c.D c.text w:=N;rw[z1]at lu og;rw[z2]at lw om;refine⟨.ret,uv,λau=>?_⟩
     refine⟨[.agg [nS],.bool false],Am (aG (t:=147)) rfl (by simp only[F.cells];rw[dF,if_neg og,lu]) rfl (Am (aG (t:=4)) rfl (by simp only[F.cells];rw[dF,if_neg om,lw]) rfl rfl),_,_,a_ au Y (λ_ _=>rfl),Z,.same rfl,by rw[<-N];rfl,⟨by rw[B3];exact kr.1,λb Q=>by rw[dF,if_neg z];exact kr.2 b Q⟩⟩
    |some aw=>
     rw[aq]at bh C;obtain⟨F',⟨Y9,h9⟩,ig⟩:=bh;refine⟨.normal,h9.y,λau=>?_⟩
     have tv:=ig.n;have bx:∀b,b≠E->(J'.kill E).get b=J'.get b:=Z;have vi:=h9.lt;have ub:=h9.ps.keep ok Z (λb Q _=>bx b z) (λt b q=>bx b (h9.dj t b q).1) (h9.ps.pkb.rs.of_get (bx _ z))
     have C:Pj (((E5 c.g s.1).drop (j+1)).flatMap λr=>(Qx c.g c.D c.text r s.2.1 s.2.2).map λl=>(r,l)) aw=Pj (kL c.g c.D c.text s) ⟨m,L,[]⟩:=C
     have fc:=Ans aq;have vw:=LC (g:=c.g) (s:=s.1)
     iterate  4 refine G ?_
     refine⟨(j+1,aw),Z,SL,?_⟩;refine⟨Y9,ub,?_⟩;exact⟨⟨h9.fx.r1.trans z1,h9.fx.r2.trans z2,h9.fx.f.trans z3,h9.fx.tot.trans z4,h9.fx.nd.trans z5,h9.w,h9.kv⟩,Z,h9.b1,h9.b2,h9.b3,Ass kd (λx hx=>VC oo x hx) aq,C,Z,Z⟩
   ·rcases Q with q|q|q|⟨t,q⟩
    ·omega
    ·omega
    ·omega
    ·have:=(hZ.lo t b q).2;omega
  ·have ba:(E5 c.g s.1).length<=j:=dQ.1 Z
   have C:some k=Pj (kL c.g c.D c.text s) ⟨m,L,[]⟩:=by
    rw[<-C,cv ba];rfl
   rw[<-C]at N;have N:Pf c.g c.D c.text (4001-i) (i+1) k.total k.list (d++[⟨s,k.ways⟩])=Im c.g c.D c.text w:=N;have rp:=hZ.nd _ z5;have vj:=hZ.lo .nd _ z5
   have rq:∀a,bm W.wv=some a->a≠O J0:=λa q e=>by cases hZ.inj .wv .nd a q (by rw[e];exact z5)
   obtain⟨J7,a9⟩:∃J7,(without J5 W.wv).kill (O J0)=J7:=⟨_,rfl⟩
   have n7:O J7=O J5:=by rw[<-a9,B3,L7]
   have g7:∀b,W.nd≠some b->bm W.wv≠some b->J7.get b=J5.get b:=λb h1 h2=>by rw[<-a9,dF,if_neg (λe=>h1 Z),E0,if_neg h2]
   have ap:=hZ.nonode ok n7 g7 kF;obtain⟨J8,d4,t7,n8,sn⟩:=ap.node ok ⟨s,k.ways⟩ z;refine G ?_;refine Dy λdf=>?_
   refine Bo λuo=>?_
   refine HT J7 [(2,.pv [.pr c.P 0]),(4,.pr (O J+1) 0),(5,.pr (O J+2) 0),(6,.pr (O J+3) 0),(7,.pr (O S) 0),(8,nV i),(10,.pv (cQ ⟨s,k.ways⟩))] ?_ n7 ⟨⟨_,rfl,.same ?_⟩,⟨_,rfl,.same (Jr z)⟩,⟨_,rfl,.same (Jr z)⟩,⟨_,rfl,.same (Jr z)⟩,⟨_,rfl,.same (Jr z)⟩,⟨_,rfl,.same rfl⟩,⟨_,rfl,.pr rp ?_ (.cons (.same rfl) (.cons (.same rfl) (.cons (.same rfl) (.cons (hZ.wv.fzA Gq ?_ (A2 OW _)) .nil))))⟩,trivial⟩ ?_
   ·rw[<-a9]
    exact zn ((uo.without).kill _) Z λa vz ha=>by
     rw[dF]at ha
     split at ha
     ·cases ha
     ·rw[E0]at ha
      grind
   ·have:=hZ.pkb.lt.1
    show(Nat.blt c.P (O J7)&&true)=true
    rw[n7,Ce this];rfl
   ·grind
   ·intro a q;rw[<-a9,dF,if_neg (rq a q),E0,if_pos q]
   iterate  2 refine G ?_
   refine A (E8 (by rw[<-z3];exact ap.f) aG rfl rfl) ?_
   refine G ?_;refine Cx (Ai aJ bM rfl rfl rfl) (Dv (len:=1)) rfl rfl (A (Av aJ rfl bF rfl rfl rfl (new:=cQ ⟨s,k.ways⟩) rfl d4) ?_);refine G ?_
   refine A (G1 (cs':=[.sr (O J7) 0 4 (d.length+1) none]) (by rw[<-z3];exact t7) aG rfl rfl rfl rfl) ?_
   refine G ?_;rw[z3]at sn
   iterate  5 refine G ?_
   refine⟨(i+1,k.total,k.list,d++[⟨s,k.ways⟩]),Z,SL,?_⟩
   grind
 ·have tc:L.length<=i:=Int.not_lt.1 (λq=>of_decide_eq_false h1 q)|>dQ.1
  have hF:Im c.g c.D c.text w=some d:=by
   rw[<-N,show 4002-i=(4001-i)+1 by omega,Pf,List.getElem?_eq_none_iff.2 tc]
  have ly:O J+1≠O J+2:=by omega
  have oq:=hY.r1;have ow:=hY.r2;have kf:=hY.f;rw[e1]at oq;rw[e2]at ow;rw[e3]at kf
  have ox:∀b,bm B.nv=some b->b≠O J+1/\b≠O J+2:=λb q=>⟨λe=>(by cases hY.inj .nv .r1 b q (by rw[e,<-e1];rfl)),λe=>(by cases hY.inj .nv .r2 b q (by rw[e,<-e2];rfl))⟩
  iterate  3 refine G ?_
  refine A (lO kf) (A (sO (cs:=[nS]) (cs':=[B.nv]) oq) (A (sO (cs:=[.bool false]) (cs':=[.bool true]) (by rw[aU,if_neg ly.symm];exact ow)) ?_))
  refine G ?_;obtain⟨ai,ao⟩:∃ai,(J0.set (O J+1) (.cells [B.nv])).set (O J+2) (.cells [.bool true])=ai:=⟨_,rfl⟩;rw[ao];have ne:O ai=O J0:=Z;have ge:∀b,b≠O J+1->b≠O J+2->ai.get b=J0.get b:=Z;have tw:aW ai c.N0 cQ 4 d B.nv:=hY.nv.of_get z λb q=>ge b (ox b q).1 (ox b q).2
  refine Gi λau=>?_
  refine G ?_
  refine⟨[.agg [B.nv],.bool true],Am (aG (t:=147)) rfl (by simp only[F.cells];rw[<-ao,aU,if_neg ly,aU,if_pos rfl]) rfl (Am (aG (t:=4)) rfl (by simp only[F.cells];rw[<-ao,aU,if_pos rfl]) rfl rfl),MM (some d),without ai B.nv,Ds.without au,by rw[L7];omega,.tup (.cons (.agg (.cons (tw.fzA Mw (λa q=>by rw[E0,if_pos q]) (A2 Vp _)) .nil)) (.cons (.same rfl) .nil)),by rw[hF],⟨by rw[L7];have:=hY.blw.1;omega,λb q=>?_⟩⟩
  have sx:=hY.blw.2 b q
  rw[E0,if_neg (λe=>by have:=(hY.lo .nv b e).1;omega),ge b z z]
  exact sx
def fO:Option (List cN)->I
 |some a=>fV a
 |none=>.agg [.nil (.slice none 0 0)]
theorem UK{N}(o){e}:I.und N (.tup [fV o,D e])=true:=by
 have:I.unds N (o.flatMap cQ)=true:=A2 Vp _
 show((I.unds N (o.flatMap cQ)&&true)&&(true&&true))=true
 rw[this];rfl
theorem Zh{g i R}(h:I7 g i R≠0):Fj g i R=(none,I7 g i R):=by
 unfold I7 at h⊢;unfold Fj
 grind
theorem WG{g i R}(h:I7 g i R=0):Eb g=0/\i∈g.sorts/\R.length<=200:=by
 unfold I7 at h
 grind
theorem Y7{g i R}(u:Eb g=0)(r:i∈g.sorts)(t:R.length<=200)(h:(Ej g i R).sets.length<=R.length\/(i,0,R.length)∉(Ej g i R).done):Fj g i R=(none,160):=by
 unfold Fj
 grind
theorem TJ{g i R}(u:Eb g=0)(r:i∈g.sorts)(t:R.length<=200)(b:R.length<(Ej g i R).sets.length)(m:(i,0,R.length)∈(Ej g i R).done):Fj g i R=match Im g (Ej g i R).done R (i,0,R.length)with|none=>(none,15)|some a=>(some a,0):=by
 unfold Fj
 grind
theorem ψ{g}(h:gU g):lL g<=200:=by
 unfold lL
 have:∀(l:List Rl),(∀r∈l,r.parts.length<=200)->(l.map (·.parts.length)).foldr max 0<=200:=by
  intro l
  induction l with
  |nil=>intro _;simp
  |cons r l c=>
   intro a;have d:=a r (cX ..);have e:=c λx b=>a x (ch _ b)
   simp only[fG,List.foldr_cons];omega
 exact this _ h.prt
theorem ZL(g i R J)(hB:sY g)(hl:R.length<1000000):Cv 68 [gY g,sV i,Af R] J (.tup [fO (Fj g i R).1,D (Fj g i R).2]):=by
 obtain⟨j,L⟩:=zE (J.new (.cells [nS]));have n1:O j=O J+1:=Z;have g1:∀b,b<O J->j.get b=J.get b:=Z;have U:j.get (O J)=some (.cells [nS]):=Z;refine Aj Tryz.func68 rfl rfl λQ ai=>?_
 refine G3 ?_;refine A (Bj (n:=O J) bG rfl) ?_;refine G2 ?_;rw[L];refine G6 ?_;refine Ca (GT g i R j hB hl) ?_;refine G7 ?_;refine Ab rfl ?_ ?_<;>intro h1
 ·have he:I7 g i R≠0:=Z;have f:Fj g i R=(none,I7 g i R):=Zh he;refine G4 ?_;refine A (sO (cs:=[nS]) (cs':=[nS]) U) ?_;refine G3 ?_
  exact⟨[.agg [nS],D (I7 g i R)],Am (aG (t:=147)) rfl (by simp only[F.cells];rw[aU,if_pos rfl]) rfl (Ba rfl rfl),_,J,bL Q ⟨Z,Z⟩,Y,.same rfl,by rw[f];rfl,rfl⟩
 ·have he:I7 g i R=0:=Z;obtain⟨r,K,E⟩:=WG he;have x:=O' r;have hR:=x.len;have ah:lL g<=200:=ψ x
  have a9:Cu g R.length<=30000000:=by
   unfold Cu
   refine bD (Nat.mul_le_mul hR (Nat.mul_le_mul (show lL g+1<=201 by omega) (show R.length+1<=201 by omega))) zD
  refine G6 ?_;refine Az rfl rfl rfl rfl (BK g i R j a9 z z) ?_;rintro _ e ⟨X,rv,rfl,k,p,o⟩;obtain⟨S,hS⟩:=zE (Ej g i R);rw[hS]at k;obtain⟨MD,⟨vD,y⟩,dh⟩:=k.done;have P:=k.sets.lenA;have ag:=k.lv;have ae:=o.1;have g2:∀b,b<O J->e.get b=J.get b:=λb hb=>(o.2 b z).trans (g1 b hb)
  have c2:e.get (O J)=some (.cells [nS]):=(o.2 _ z).trans U;refine fJ ?_
  refine Gg [(45,.bool (decide (Int.ofNat X.vals.length<=Int.ofNat R.length)|| !((MD.get (sk (i,0,R.length))).getD false)))] ?_ ?_
  ·rcases fI (decide (Int.ofNat X.vals.length<=Int.ofNat R.length))with d|d
   ·refine X0 ?_;refine G3 ?_;refine V (lO k.cl) (V (Bf bF rfl P.1 P.2) ?_);refine G2 ?_;refine V (Hn aV rfl rfl) ?_;refine G ?_;refine Wx (w:=R1 d) (Wx (w:=R1 d) (Wx (w:=R1 d) (Wx (w:=R1 d) (Wx (w:=R1 d) (Wx (w:=R1 d) (Wx (w:=R1 d) (V (A3 rfl (R1 d) rfl) ?_)))))));refine C1 ?_;exact⟨rfl,rfl,⟨⟨congrArg (λb=>some (I.bool b)) (R1 d),trivial⟩,sb,rfl⟩⟩
   ·refine X0 ?_;refine G3 ?_;refine V (lO k.cl) (V (Bf bF rfl P.1 P.2) ?_);refine G2 ?_;refine V (Hn aV rfl rfl) ?_;refine G ?_;refine Wn (w:=R1 d) Oq (Wn (w:=R1 d) Oq (Wn (w:=R1 d) Oq (Wn (w:=R1 d) (E8 k.cl aG rfl rfl) (Wn (w:=R1 d) Oq (Wn (w:=R1 d) (tB Va rfl ⟨vD,y⟩ rfl (j' (i,0,R.length))) (Wn (w:=R1 d) Oq (V (Au rfl (R1 d) rfl) ?_)))))));refine C1 ?_;exact⟨rfl,rfl,⟨⟨congrArg (λb=>some (I.bool b)) (R1 d),trivial⟩,sb,rfl⟩⟩
  refine Ab rfl ?_ ?_<;>intro h2
  ·have f:Fj g i R=(none,160):=by
    refine Y7 r K E ?_
    grind
   refine G3 ?_;refine A (sO (cs:=[nS]) (cs':=[nS]) c2) ?_;refine G3 ?_
   exact⟨[.agg [nS],D 160],Am (aG (t:=147)) rfl (by simp only[F.cells];rw[aU,if_pos rfl]) rfl (Ba rfl rfl),_,J,bL Q ⟨Z,Z⟩,Y,.same rfl,by rw[f];rfl,rfl⟩
  ·rw[iT]at h2;have af:¬(Int.ofNat X.vals.length<=Int.ofNat R.length):=of_decide_eq_false h2.1;have oz:R.length<S.sets.length:=Z;have C:(i,0,R.length)∈S.done:=Z
   have f:Fj g i R=match Im g S.done R (i,0,R.length)with|none=>(none,15)|some u=>(some u,0):=by
    rw[<-hS]at oz C⊢;exact TJ r K E oz C
   have a7:=(k.lo .c _ rfl);have a8:=(k.lo .d _ rfl);obtain⟨m,N⟩:=zE (((e.new (.map 232 [] 0)).new (.map 386 [] 0)).new (.cells [.pr X.c 0,.mp (O e),nS,.mp (O e+1)]));have n5:O m=O e+3:=Z;have W:∀b,b<O e->m.get b=e.get b:=Z;have m5:m.get (O e)=some (.map 232 [] 0):=Z;have r5:m.get (O e+1)=some (.map 386 [] 0):=Z;have p5:m.get (O e+2)=some (.cells [.pr X.c 0,.mp (O e),nS,.mp (O e+1)]):=Z;obtain⟨c,q⟩:∃c:Pc,c=⟨g,R,S.done,X,O e+2,O e,O e+1,O e+3,O j,rv,j⟩:=⟨_,rfl⟩;have oy:∀a,(a=X.mR\/∃s v,rv.get s=some v/\bm v=some a)->a<O e:=λa B=>(p.lo a B).1
   have ac:Xe c:=by
    subst q
    exact⟨⟨Z,Z,Z,Z⟩,⟨Z,Z⟩,⟨Z,ae,Z,Z⟩,λa B=>by have:=oy a B;grind⟩
   have dp:=f121 (c:=c) ac Z Z (i,0,R.length) Z (J:=m) rfl
    (by subst q;exact⟨p5,(W _ a7.2).trans k.cl,⟨MD,⟨vD,(W _ a8.2).trans y⟩,dh⟩,⟨[],⟨0,r5⟩,λ_ _ _ _ _ h=>by cases h⟩,Z,Z,Z,Z⟩)
    (by subst q;exact⟨⟨[],⟨0,m5⟩,λs=>by rw[if_neg zS];rfl⟩,.nil,Z,Z⟩)
    (by subst q;exact(show rP g rv X.mR e from⟨p.map,p.get⟩).of_get z λa B=>W a (oy a B))
    (by subst q;exact⟨Z,Z⟩)
   have aa:c.P=O e+2:=by rw[q]
   rw[aa]at dp;refine G4 ?_;refine A (Cd (n:=O e) yT rfl) (A (Cd (n:=O e+1) pX (Ao _ _)) ?_);refine G ?_;refine A (Q0 (n:=O e+2) (cs:=[.pr X.c 0,.mp (O e),nS,.mp (O e+1)]) aG rfl rfl Z) ?_;rw[N];refine G ?_;refine Az rfl rfl rfl rfl dp ?_;rintro _ T ⟨rfl,l⟩;have l:Below (O j) j T:=Z
   rw[show Im c.g c.D c.text (i,0,R.length)=Im g S.done R (i,0,R.length) by rw[q]]
   have aj:=l.1;have g6:∀b,b<O J->T.get b=J.get b:=λb hb=>(l.2 b z).trans (g1 b hb)
   have c6:T.get (O J)=some (.cells [nS]):=(l.2 _ z).trans U;cases hp:Im g S.done R (i,0,R.length)with
   |none=>
    rw[hp]at f;refine cG ?_;refine Ab rfl (λh3=>?_) Z
    refine G3 ?_;refine A (sO (cs:=[nS]) (cs':=[nS]) c6) ?_;refine G3 ?_
    exact⟨[.agg [nS],D 15],Am (aG (t:=147)) rfl (by simp only[F.cells];rw[aU,if_pos rfl]) rfl (Ba rfl rfl),_,J,bL Q ⟨Z,Z⟩,Y,.same rfl,by rw[f];rfl,rfl⟩
   |some u=>
    rw[hp]at f;refine cG ?_;refine Ab rfl Z (λh3=>?_)
    refine G4 ?_;refine A (sO (cs:=[nS]) (cs':=[aD cQ 4 u]) c6) ?_;refine G3 ?_
    exact⟨[fV u,D 0],Am (aG (t:=147)) rfl (by simp only[F.cells];rw[aU,if_pos rfl]) rfl (Ba rfl rfl),_,J,bL Q ⟨Z,Z⟩,Y,.same (UK u),by rw[f];rfl,rfl⟩
structure ke (a:List cN)(P aS aT:Nat)(c:Cs)(J:F):Prop where
 ob:J.get P=some (.cells [aD cQ 4 a,.sr aS 0 1 a.length (some a.length),.sr aT 0 1 a.length (some a.length)])
 s:J.get aS=some (.cells (c.1.flatMap eN))
 t:J.get aT=some (.cells (c.2.flatMap eN))
 ne:aS≠aT/\P≠aS/\P≠aT
 lt:P<O J/\aS<O J/\aT<O J
 b:∀m,c.2.getD m 0<=cS
def FB(o:List cN):Prop:=o.length<=4000/\∀x∈o,x.ways.length<=40000/\∀w∈x.ways,w.kids.length<=200
theorem CI.set1{o c E n}(P:CI o c E)(S:n<o.length)(r:c.1.getD n 0≠2):CI o (c.1.set n 1,c.2) E:=by
 have a:n<c.1.length:=by rw[P.l1];exact S
 refine⟨by rw[jO];exact P.l1,P.l2,P.nd,λm=>?_,λm=>?_,P.ord⟩
 ·show(c.1.set n 1).getD m 0<=2
  rw[I5 a];split
  ·omega
  ·exact P.le m
 ·rw[P.mem]
  show _↔(c.1.set n 1).getD m 0=2
  rw[I5 a]
  by_cases e:m=n
  ·subst e;rw[if_pos rfl];exact⟨λb=>absurd b r,λb=>by cases b⟩
  ·rw[if_neg e]
def po(o:List cN)(P a B f n:Nat)(c:Cs)(J:F)(v:I)(q:F):Prop:=O J<=O q/\(∀b,b<O J->b≠a->b≠B->q.get b=J.get b)/\match La o f n c with
 |some d=>v=.bool true/\ke o P a B d q
 |none=>v=.bool false
theorem po.bool{o P a B f n c J v q}(h:po o P a B f n c J v q):∃b,v=.bool b:=by
 obtain⟨_,_,h⟩:=h
 split at h
 ·exact⟨_,h.1⟩
 ·exact⟨_,h⟩
theorem XV{g o}(d:jC g o.length o){f n c l E}(P:CI o c E)(S:n<o.length)(h:La o f n c=some l):∃a,CI o l a/\l.1.count 0<=c.1.count 0:=by
 obtain⟨a,b,_⟩:=Z5 d f n c E l P S h;exact⟨a,b.ci,b.fr⟩
theorem O4{l:List Nat}{i}(h:i<l.length):l[i]? =some (l.getD i 0):=by
 rw[List.getD_eq_getElem?_getD,fF h];rfl
theorem NU{p k}(u:p<=cS)(r:k<=cS):p*k<=1000000002000000001:=bD (Nat.mul_le_mul u r) zD
theorem U8{a}:(min ((a:Nat):Int) 1000000001)=Int.ofNat (min a cS):=by
 show min ((a:Nat):Int) 1000000001=((min a cS:Nat):Int)
 unfold cS;omega
theorem MR{f J a}{t l:Nat}{x y p q}(L:cW M.P t=true)(W:Ah M f x=some (nV p))(B:Ah M f y=some (nV q))(r:p*q<=1000000002000000001):As M a (.binOp .mul t x y l) f J (nV (p*q)) J:=
 qA (p:=(p:Int)) (q:=(q:Int)) L W B Z Z
theorem BI{f J Rr}{t tys:Nat}{x a}(L:cW M.P t=true)(W:Ah M f x=some (nV a)):As M Rr (.call ⟨.builtin .min,#[x,.const (.int .i64 1000000001)],#[t,tys]⟩) f J (nV (min a cS)) J:=by
 have:=G' (Rr:=Rr) (J:=J) (tys:=tys) (E:=M) (y:=.const (.int .i64 1000000001)) (q:=1000000001) L W rfl;rw[show(min (Int.ofNat a) 1000000001:Int)=Int.ofNat (min a cS)from U8]at this
 exact this
theorem uI{g o}(hF:jC g o.length o)(ap:FB o){P j B f}(ih:∀(n:Nat) (c:Cs) (E:List Nat) (J:F),CI o c E->c.1.count 0<f->n<o.length->ke o P j B c J->Al M 157 [.pr P 0,nV n] J (po o P j B f n c J))
  (n c E J)(a8:CI o c E)(d4:c.1.count 0<f+1)(S:n<o.length)(h:ke o P j B c J):Al M 157 [.pr P 0,nV n] J (po o P j B (f+1) n c J):=by
 have ax:=O4 (l:=c.1) (i:=n) (by rw[a8.l1];exact S)
 refine Aj Tryz.func157 rfl rfl λhw db=>?_
 refine cD ?_;refine A (lO h.ob) ?_;refine G ?_
 refine A (Br aJ rfl rfl S) (A (Dg (tl:=[]) Ep aG rfl (by rw[dA];exact h.s) ax λ_=>rfl) ?_)
 refine G7 ?_;refine Ab rfl ?_ ?_<;>intro h1
 ·have W:c.1.getD n 0=1:=gI (of_decide_eq_true h1)
  have U:La o (f+1) n c=none:=by rw[La,if_pos W]
  refine G4 ?_;refine Bo λy=>?_
  refine G ?_
  exact⟨_,rfl,_,_,a_ y Y zN,Y,.same rfl,Y,λ_ _ _ _=>rfl,by rw[U];rfl⟩
 ·have W:c.1.getD n 0≠1:=λq=>of_decide_eq_false h1 (congrArg _ q)
  refine G5 ?_;refine Ab rfl ?_ ?_<;>intro h2
  ·have X:c.1.getD n 0=2:=gI (of_decide_eq_true h2)
   have U:La o (f+1) n c=some c:=by rw[La,if_neg W,if_pos X]
   refine G4 ?_;refine Bo λy=>?_
   refine G ?_
   exact⟨_,rfl,_,_,a_ y Y zN,Y,.same rfl,Y,λ_ _ _ _=>rfl,by rw[U];exact⟨rfl,h⟩⟩
  ·have X:c.1.getD n 0≠2:=λq=>of_decide_eq_false h2 (congrArg _ q)
   have aw:c.1.getD n 0=0:=by have:=a8.le n;omega
   obtain⟨x,hx⟩:=Ar S;have ak:=bA hx;have ay:=ap.2 x ak
   have U:La o (f+1) n c=match Acj (La o f) x.ways 0 (c.1.set n 1,c.2)with|none=>none|some (t,c')=>some (c'.1.set n 2,c'.2.set n t):=by
    rw[La,if_neg W,if_neg X,hx];rfl
   have rx:=Xb (l:=c.1) (n:=n) (v:=1) zS Z
   rw[if_pos aw]at rx;have rz:=a8.set1 S X;obtain⟨K,al⟩:=zE (J.set j (.cells ((c.1.set n 1).flatMap eN++[])));have n1:O K=O J:=Z;have g1:∀b,b≠j->K.get b=J.get b:=Z
   have af:ke o P j B (c.1.set n 1,c.2) K:=⟨(g1 P h.ne.2.1).trans h.ob,Z,(g1 B h.ne.1.symm).trans h.t,h.ne,by rw[n1];exact h.lt,h.b⟩
   refine G6 ?_;refine A (lO h.ob) ?_;refine G ?_
   refine A (Br aJ rfl rfl S) (A (Tb (u:=1) (tl:=[]) Ep aG rfl rfl rfl (by rw[dA];exact h.s) Z) ?_)
   refine G ?_;rw[al];refine fJ ?_;refine A (lO af.ob) ?_;refine G ?_;refine A (A1 aJ Mw rfl rfl hx) ?_;refine G6 ?_;refine Ci (λq:Nat×Nat×Cs=>[(0,.pr P 0),(1,nV n),(5,nV q.2.1),(36,aD fQ 2 x.ways),(37,nV x.ways.length),(38,nV q.1)]) (λq p=>q.1<=x.ways.length/\q.2.1<=cS/\ke o P j B q.2.2 p/\(∃E',CI o q.2.2 E')/\q.2.2.1.count 0<f/\Acj (La o f) (x.ways.drop q.1) q.2.1 q.2.2=Acj (La o f) x.ways 0 (c.1.set n 1,c.2)/\O K<=O p/\(∀b,b<O K->b≠j->b≠B->p.get b=K.get b)) (λq=>x.ways.length-q.1) (0,0,(c.1.set n 1,c.2)) SL ⟨bU _,bU _,af,⟨E,rz⟩,Z,rfl,Y,λ_ _ _ _=>rfl⟩ ?_
   rintro⟨i1,C,r⟩ J2 ⟨ag,ac,a,⟨E2,fv⟩,a7,e,n2,g2⟩;have ag:i1<=x.ways.length:=ag;have ac:C<=cS:=ac;have a:ke o P j B r J2:=a;have fv:CI o r E2:=fv;have a7:r.1.count 0<f:=a7;have e:Acj (La o f) (x.ways.drop i1) C r=Acj (La o f) x.ways 0 (c.1.set n 1,c.2):=e;refine G5 ?_;refine Ab rfl ?_ ?_<;>intro h3
   ·have ry:i1<x.ways.length:=Int.ofNat_lt.1 (of_decide_eq_true h3);obtain⟨w,ae⟩:=Ar ry;have aj:=bA ae;have d5:=ay.2 w aj;have ar:=(hF x ak w aj).kid;rw[A4 ae,Acj]at e;refine G5 ?_;refine A (A1 aJ Gq rfl rfl ae) (A (Ac aG rfl rfl (A6 (Gq w) _)) (Ho bG aG rfl zF rfl (A7 (Gq w)) rfl rfl ?_))
    iterate 14 refine G ?_
    refine Ci (λq:Nat×Nat×Cs=>[(0,.pr P 0),(1,nV n),(5,nV C),(8,nV q.2.1),(36,aD fQ 2 x.ways),(37,nV x.ways.length),(38,nV i1),(43,aD eN 1 w.kids),(44,nV w.kids.length),(45,nV q.1)]) (λq p=>q.1<=w.kids.length/\q.2.1<=cS/\ke o P j B q.2.2 p/\(∃E',CI o q.2.2 E')/\q.2.2.1.count 0<f/\Ad3 (La o f) (w.kids.drop q.1) q.2.1 q.2.2=Ad3 (La o f) w.kids 1 r/\O K<=O p/\(∀b,b<O K->b≠j->b≠B->p.get b=K.get b)) (λq=>w.kids.length-q.1) (0,1,r) SL ⟨bU _,by show 1<=cS;decide,a,⟨E2,fv⟩,a7,rfl,n2,g2⟩ ?_
    rintro⟨i3,p3,L⟩ J3 ⟨ah,aa,N,⟨E3,im⟩,R,d,n3,g3⟩;have ah:i3<=w.kids.length:=ah;have aa:p3<=cS:=aa;have N:ke o P j B L J3:=N;have im:CI o L E3:=im;have R:L.1.count 0<f:=R;have d:Ad3 (La o f) (w.kids.drop i3) p3 L=Ad3 (La o f) w.kids 1 r:=d;refine G5 ?_;refine Ab rfl ?_ ?_<;>intro h4
    ·have rn:i3<w.kids.length:=Int.ofNat_lt.1 (of_decide_eq_true h4);obtain⟨k,hk⟩:=Ar rn;have T:=ar k (bA hk);rw[A4 hk,Ad3]at d;refine G5 ?_;refine A (A1 aJ Ep rfl rfl hk) ?_;refine G8 ?_;refine Az rfl rfl rfl rfl (ih k L E3 J3 im R T N) ?_;intro u4 J4 s;obtain⟨b4,rfl⟩:=po.bool s;obtain⟨n4,g4,s⟩:=s;refine G2 ?_;cases a9:La o f k L with
     |none=>
      rw[a9]at s d;obtain rfl:=I.bool.inj s;rw[<-d]at e;refine Ab rfl (λh5=>?_) Z
      refine G4 ?_;refine Bo λy=>?_
      refine G ?_
      exact⟨_,rfl,_,_,a_ y Y zN,by omega,.same rfl,by omega,Z,by rw[U,<-e];rfl⟩
     |some c4=>
      rw[a9]at s d;obtain⟨aq,Q⟩:=s;obtain rfl:=I.bool.inj aq;obtain⟨E4,ol,bx⟩:=XV hF im T a9;have au:=Q.b k;have d9:=NU aa au;refine Ab rfl Z (λh5=>?_)
      refine G6 ?_;refine A (lO Q.ob) ?_;refine G ?_
      refine A (Br aJ rfl rfl T) (A (Dg (tl:=[]) Ep aG rfl (by rw[dA];exact Q.t) (O4 (by rw[ol.l2];exact T)) λ_=>rfl) ?_)
      refine A (MR aV rfl rfl z) ?_;refine A (BI aV rfl) ?_;refine G6 ?_
      refine⟨(i3+1,min (p3*c4.2.getD k 0) cS,c4),Z,SL,Z,Nat.min_le_right _ _,Q,⟨E4,ol⟩,Z,d,by omega,Z⟩
    ·have rr:w.kids.length<=i3:=dQ.1 (Int.not_lt.1 (λq=>of_decide_eq_false h4 q))
     rw[cv rr,Ad3]at d;rw[<-d]at e
     have ai:C+p3<=2000000002:=by have:cS=1000000001:=rfl;omega
     have bz:C+(i3,p3,L).2.1<=2000000002:=ai;have cx:(i1,C,r).2.1+(i3,p3,L).2.1<=2000000002:=ai;refine G4 ?_;refine A (D3 aV rfl rfl z) ?_;refine A (BI aV rfl) ?_;refine G6 ?_;refine⟨(i1+1,min (C+p3) cS,L),Z,SL,Z,Nat.min_le_right _ _,N,⟨E3,im⟩,R,e,n3,g3⟩
   ·have rt:x.ways.length<=i1:=dQ.1 (Int.not_lt.1 (λq=>of_decide_eq_false h3 q))
    rw[cv rt,Acj]at e;rw[<-e]at U;have U:La o (f+1) n c=some (r.1.set n 2,r.2.set n C):=U;obtain⟨J6,am⟩:=zE (J2.set j (.cells ((r.1.set n 2).flatMap eN++[])));have g6:∀b,b≠j->J6.get b=J2.get b:=Z;obtain⟨J7,an⟩:=zE (J6.set B (.cells ((r.2.set n C).flatMap eN++[])));have g7:∀b,b≠B->J7.get b=J6.get b:=Z;have n7:O J7=O J2:=Z
    have ao:ke o P j B (r.1.set n 2,r.2.set n C) J7:=by
     refine⟨(g7 P h.ne.2.2).trans ((g6 P h.ne.2.1).trans a.ob),(g7 j h.ne.1).trans Z,Z,h.ne,by rw[n7];exact a.lt,λm=>?_⟩
     show(r.2.set n C).getD m 0<=cS
     rw[I5 (by rw[fv.l2];exact S)]
     split
     ·exact ac
     ·exact a.b m
    refine G2 ?_;refine XS (l:=[]) trivial ?_;refine G3 ?_;refine V (lO a.ob) ?_;refine G4 ?_;refine V (lO a.ob) ?_;refine G2 ?_
    refine V (Br aJ rfl rfl S) (DT (Tb (u:=2) (tl:=[]) Ep aG rfl rfl rfl (by rw[dA];exact a.s) (by rw[fv.l1];exact S)) ?_)
    rw[am]
    refine V (Br aJ rfl rfl S) (DT (Tb (u:=C) (tl:=[]) Ep aG rfl rfl rfl (by rw[dA];exact(g6 B h.ne.1.symm).trans a.t) (by rw[fv.l2];exact S)) ?_)
    refine G ?_;rw[an];refine G4 ?_;refine Bo λy=>?_
    refine G ?_
    exact⟨_,rfl,_,_,a_ y Y zN,by omega,.same rfl,by omega,Z,by rw[U];exact⟨rfl,ao⟩⟩
theorem f157{g o}(d:jC g o.length o)(a:FB o){P b B}:∀(f n:Nat) (c:Cs) (E:List Nat) (J:F),CI o c E->c.1.count 0<f->n<o.length->ke o P b B c J->Al M 157 [.pr P 0,nV n] J (po o P b B f n c J)
 |0=>λn c E J _ h=>absurd h (zW _)
 |f+1=>uI d a (f157 d a f)
end Go.AM

