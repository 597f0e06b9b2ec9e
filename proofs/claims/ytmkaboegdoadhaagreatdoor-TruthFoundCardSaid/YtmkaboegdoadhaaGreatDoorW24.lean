/- A part. -/
import Derived.Test.YtmkaboegdoadhaaGreatDoorW21
set_option maxRecDepth 100000
set_option maxHeartbeats 4000000
set_option linter.unusedSimpArgs false
set_option linter.unusedVariables false
namespace Go.AM
open Go Go.Proofs
theorem Ap1(r):nPs r.parts=Qw r:=by
 unfold nPs Qw
 grind
theorem Jr{N a o}(h:a<N):AV.und N (.pr a o)=true:=Ce h
def Awg(o:Option (List Nde)):AV:=match o with|some F=>.tup [fV F,.bool true]|none=>.tup [.agg [nS],.bool false]
theorem f121{c}(ok:Xe c)(hG:GOk c.g)(htl:c.text.length<=1000000)(w)(hw:w.2.1<=c.text.length/\w.2.2<=c.text.length){lv0 J}(hlv:lv0=nS)(hb:PkB c.g c.text c.D c.X c.P c.mN c.mT lv0 J)(hl:PkL [] c.N0 c.mN lv0 J)(hrl:RlG c.g c.rv c.X.mR J)(hbw:Below c.M c.J0 J):
  Al Ew 121 [.pr c.P 0,.agg (eSp w)] J fun v J'=>v=Awg (Im c.g c.D c.text w)/\Below c.M c.J0 J':=by
 have hR:c.g.rules.length<=1000000:=by have:=hG.len;omega
 have hlt:=ok.lt;have hM:=ok.M;have hl0:=hl.lt

 obtain⟨J1,hσ1⟩:∃J1,((J.bump.new (.cells [nS])).new (.cells [.bool false])).new (.cells [nS])=J1:=⟨_,rfl⟩;have n1:nx J1=nx J+4:=gr;have g1:∀b,b<nx J->J1.get b=J.get b:=gr;have a1:J1.get (nx J+1)=some (.cells [nS]):=gr;have a2:J1.get (nx J+2)=some (.cells [.bool false]):=gr;have a3:J1.get (nx J+3)=some (.cells [nS]):=gr;have lt1:=hb.lt;have hb1:PkB c.g c.text c.D c.X c.P c.mN c.mT lv0 J1:=hb.of_get Om fun b q=>g1 b gr
 have hl1:PkL [] c.N0 c.mN lv0 J1:=hl.of_get Om (g1 _ Om) fun a q=>g1 a (hl.lst.adr_lt q).2
 have hm0:D2 [] w=(0,[w]):=rfl;obtain⟨lv1,J2,hc2,hb2,hl2,hm2⟩:=f155 hb1 hl1 ok.lt ok.ne w (aq_ _);rw[hm0]at hc2 hl2;have nl2:=hm2.n
 have qi:∀b,adr lv0≠some b:=fun b e=>by rw[hlv]at e;cases e
 have g2:∀b,b<nx J1->b≠c.P->b≠c.mN->J2.get b=J1.get b:=fun b h1 h2 h3=>hm2.g b h1 h2 h3 (qi b)
 obtain⟨J3,hσ3⟩:∃J3,(J2.new (.cells [.int .i64 0])).set (nx J2) (.cells [nV 0])=J3:=⟨_,rfl⟩;have n3:nx J3=nx J2+1:=gr;have g3:∀b,b<nx J2->J3.get b=J2.get b:=gr;have a4:J3.get (nx J2)=some (.cells [nV 0]):=gr
 have na:∀a,adr lv1=some a->nx J1<=a:=fun a ha=>by
  rcases hm2.a a ha with q|q
  ·grind
  ·exact q
 have hP3:PS c ⟨nx J+1,nx J+2,nx J+3,nx J2,none,none,lv1,nS,nS,nS⟩ [w] 0 [] zSp [] 0 [] J3:=by
  have hla:=hl2.lst
  refine⟨fun t u a ht hu=>?_,fun t a ht=>?_,hb2.of_get Om fun b q=>g3 b gr,hl2.of_get Om (g3 _ gr) fun a q=>g3 a (hla.adr_lt q).2,hrl.of_get Om fun a q=>?_,?_,?_,?_,.nil,a4,fun a q=>(by cases q),.nil,fun a q=>(by cases q),.nil,⟨by have:=hbw.1;omega,fun b q=>?_⟩⟩
  ·have key:∀t a,Px.loc ⟨nx J+1,nx J+2,nx J+3,nx J2,none,none,lv1,nS,nS,nS⟩ t=some a->(t=.r1/\a=nx J+1)∨(t=.r2/\a=nx J+2)∨(t=.f/\a=nx J+3)∨(t=.tot/\a=nx J2)∨(t=.lv/\nx J1<=a/\a<nx J2):=fun t a q=>by
    cases t with
    |r1=>cases q;exact .inl ⟨rfl,rfl⟩
    |r2=>cases q;exact .inr (.inl ⟨rfl,rfl⟩)
    |f=>cases q;exact .inr (.inr (.inl ⟨rfl,rfl⟩))
    |tot=>cases q;exact .inr (.inr (.inr (.inl ⟨rfl,rfl⟩)))
    |lv=>exact .inr (.inr (.inr (.inr ⟨rfl,na a q,(hla.adr_lt q).2⟩)))
    |_=>cases q
   rcases key t a ht with⟨rfl,h1⟩|⟨rfl,h1⟩|⟨rfl,h1⟩|⟨rfl,h1⟩|⟨rfl,h1⟩<;>rcases key u a hu with⟨rfl,h2⟩|⟨rfl,h2⟩|⟨rfl,h2⟩|⟨rfl,h2⟩|⟨rfl,h2⟩<;>first|rfl|(exfalso;omega)
  ·cases t with
   |r1=>have ht:nx J+1=a:=by_ ht;omega
   |r2=>have ht:nx J+2=a:=by_ ht;omega
   |f=>have ht:nx J+3=a:=by_ ht;omega
   |tot=>have ht:nx J2=a:=by_ ht;omega
   |lv=>have:=hla.adr_lt ht;omega
   |_=>cases ht
  ·have:=ok.rl a q
   grind
  ·grind
  ·grind
  ·grind
  ·rw[g3 b Om,g2 b Om Om Om,g1 b Om];exact hbw.2 b q
 refine gm_ (Mo Tryz.func121 (Ke _ _ Tryz.func121) rfl rfl fun hw0 hu0=>?_)
 iterate  4 refine G ?_
 refine O1 (Bj (n:=nx J+1) ziC (Bm J)) (O1 (Bj (n:=nx J+2) ziC gr) ?_)
 iterate  3 refine G ?_
 refine O1 (Bj (n:=nx J+3) ziC gr) ?_;refine G ?_;rw[hσ1]
 iterate  4 refine G ?_
 refine Ca hc2 ?_
 iterate  3 refine G ?_
 refine O1 (Bu ziC) (O1 (sO (cs:=[.int .i64 0]) (cs':=[nV 0]) (by rw[ag_,if_pos rfl])) ?_)
 refine G ?_;rw[hσ3]
 iterate  6 refine G ?_
 refine Hz (fun q:Nat×Nat×List Sp×List Nde=>[(2,.pv [.pr c.P 0]),(4,.pr (nx J+1) 0),(5,.pr (nx J+2) 0),(6,.pr (nx J+3) 0),(7,.pr (nx J2) 0),(8,nV q.1)]) (fun q J0=>∃Y,PS c Y q.2.2.1 q.2.1 q.2.2.2 zSp [] 0 [] J0/\(Y.r1=nx J+1/\Y.r2=nx J+2/\Y.f=nx J+3/\Y.tot=nx J2/\Y.nd=none/\Y.wv=nS/\Y.w=none/\Y.kv=nS)/\q.1<=q.2.2.1.length/\q.2.2.2.length=q.1/\q.2.1<=40000/\q.2.2.1.length<=4000/\Pl c.text.length q.2.2.1/\Pf c.g c.D c.text (4002-q.1) q.1 q.2.1 q.2.2.1 q.2.2.2=Im c.g c.D c.text w/\nx J3<=nx J0) (fun q=>4001-q.1) (0,0,[w],[]) SL ⟨_,hP3,⟨rfl,rfl,rfl,rfl,rfl,rfl,rfl,rfl⟩,aq_ _,rfl,aq_ _,by simp,fun x hx=>gr,rfl,nl⟩ ?_
 rintro⟨i,total,L,nodes⟩ J0 ⟨Y,hY,⟨e1,e2,e3,e4,e5,e6,e7,e8⟩,hiL,hnl,j6,hLl,hin,hpk,hn0⟩;have hY:PS c Y L total nodes zSp [] 0 [] J0:=hY;have hiL:i<=L.length:=hiL;have hnl:nodes.length=i:=hnl;have j6:total<=40000:=j6;have hLl:L.length<=4000:=hLl;have hin:Pl c.text.length L:=hin;have hpk:Pf c.g c.D c.text (4002-i) i total L nodes=Im c.g c.D c.text w:=hpk;have hn0:nx J3<=nx J0:=hn0;have bl:=hY.pkl.lst.lenA
 iterate  7 refine G ?_
 refine O1 (lO hY.pkb.pk) (O1 (Bf slC rfl bl.1 bl.2) ?_)
 iterate  2 refine G ?_
 refine A0 rfl ?_ ?_<;>intro h1
 ·have bc:i<L.length:=Int.ofNat_lt.1 (of_decide_eq_true h1);obtain⟨s,hs⟩:=Ar bc;obtain⟨hs1,hs2⟩:=hin s (ab_ hs);obtain⟨aL,tL,_,_,hvL,hgL⟩:=hY.pkl.lst.sr bc
  rw[show 4002-i=(4001-i)+1 by omega]at hpk
  have hpk:(match Pj (Ajj c.g c.D c.text s) ⟨total,L,[]⟩with|none=>none|some P=>Pf c.g c.D c.text (4001-i) (i+1) P.total P.list (nodes++[⟨s,P.ways⟩]))=Im c.g c.D c.text w:=by
   rw[←hpk,Pf,hs];rfl
  iterate  8 refine G ?_
  refine O1 (lO hY.pkb.pk) ?_;refine G ?_;refine O1 (Br elC (show _=some (AV.sr aL 0 3 L.length none)from congrArg some hvL) rfl bc) (O1 (Dg (enc:=eSp) O2 ldC rfl hgL hs fun _=>rfl) ?_)
  iterate  2 refine G ?_
  obtain⟨J4,hσ4⟩:∃J4,(J0.new (.cells [.str [],.int .i64 0,.int .i64 0,nS])).set (nx J0) (.cells [sV s.1,nV s.2.1,nV s.2.2,nS])=J4:=⟨_,rfl⟩;have n4:nx J4=nx J0+1:=gr;have hN4:=hY.nnode ok e5 e6 n4 gr s gr
  iterate  9 refine G ?_
  refine O1 (Bu ziC) (O1 (sO (cs:=[.str [],.int .i64 0,.int .i64 0,nS]) (cs':=[sV s.1,nV s.2.1,nV s.2.2,nS]) (by rw[ag_,if_pos rfl])) ?_)
  refine G ?_;rw[hσ4]
  obtain⟨v,hvg,bf⟩:∃v,((c.rv.get s.1).map fun v:AV=>v).getD nS=v/\Own J4 0 eN 1 (E5 c.g s.1) v/\(0<(E5 c.g s.1).length->c.rv.get s.1=some v):=by
   have:=hN4.rl.get s.1;cases hs:c.rv.get s.1 with
   |none=>rw[hs]at this;exact⟨_,rfl,by rw[this];exact .nil,gr⟩
   |some v=>rw[hs]at this;exact⟨v,rfl,this,fun _=>rfl⟩
  obtain⟨bf,hvs⟩:=bf
  iterate  2 refine G ?_
  refine Dy fun df=>X0 ?_
  iterate  3 refine G ?_
  refine DF (lO hN4.pkb.pk) ?_
  iterate  2 refine G ?_
  refine DF (lO hN4.pkb.cl) ?_
  iterate  2 refine G ?_
  refine DF (Ahh st9 Ae5 rfl hN4.rl.map rfl hvg) (DF (Bf slC rfl bf.lenA.1 bf.lenA.2) ?_)
  iterate  2 refine G ?_
  refine⟨rfl,rfl,?_⟩;refine G ?_;refine Hz (fun q:Nat×Pk=>[(2,.pv [.pr c.P 0]),(4,.pr (nx J+1) 0),(5,.pr (nx J+2) 0),(6,.pr (nx J+3) 0),(7,.pr (nx J2) 0),(8,nV i),(9,.pv (eSp s)),(10,.pr (nx J0) 0),(52,v),(53,nV (E5 c.g s.1).length),(54,nV q.1)]) (fun q J5=>∃Z,PS c Z q.2.list q.2.total nodes s q.2.ways 0 [] J5/\(Z.r1=nx J+1/\Z.r2=nx J+2/\Z.f=nx J+3/\Z.tot=nx J2/\Z.nd=some (nx J0)/\Z.w=none/\Z.kv=nS)/\q.1<=(E5 c.g s.1).length/\q.2.list.length<=4000/\q.2.total<=40000/\q.2.ways.length<=q.2.total/\Pl c.text.length q.2.list/\Pj (((E5 c.g s.1).drop q.1).flatMap fun r=>(Qx c.g c.D c.text r s.2.1 s.2.2).map fun l=>(r,l)) q.2=Pj (Ajj c.g c.D c.text s) ⟨total,L,[]⟩/\L.length<=q.2.list.length/\nx J4<=nx J5) (fun q=>(E5 c.g s.1).length-q.1) (0,⟨total,L,[]⟩) SL ⟨_,hN4,⟨e1,e2,e3,e4,rfl,e7,e8⟩,aq_ _,hLl,j6,aq_ _,hin,rfl,nl,nl⟩ ?_
  rintro⟨j,acc⟩ J5 ⟨Z,hZ,⟨z1,z2,z3,z4,z5,z6,z7⟩,hjr,j7,j8,j9,kd,hwf,jb,hn5⟩;have hZ:PS c Z acc.list acc.total nodes s acc.ways 0 [] J5:=hZ;have hjr:j<=(E5 c.g s.1).length:=hjr;have j7:acc.list.length<=4000:=j7;have j8:acc.total<=40000:=j8;have j9:acc.ways.length<=acc.total:=j9;have kd:Pl c.text.length acc.list:=kd;have hwf:Pj (((E5 c.g s.1).drop j).flatMap fun r=>(Qx c.g c.D c.text r s.2.1 s.2.2).map fun l=>(r,l)) acc=Pj (Ajj c.g c.D c.text s) ⟨total,L,[]⟩:=hwf
  have jb:L.length<=acc.list.length:=jb;have hn5:nx J4<=nx J5:=hn5
  iterate  5 refine G ?_
  refine A0 rfl ?_ ?_<;>intro h2
  ·have bv:j<(E5 c.g s.1).length:=Int.ofNat_lt.1 (of_decide_eq_true h2);obtain⟨r,hr⟩:=Ar bv
   have ni:Own J5 0 eN 1 (E5 c.g s.1) v:=by
    have:=hZ.rl.get s.1
    grind
   obtain⟨aR,tR,_,_,hvR,hgR⟩:=ni.sr bv;have qo:r<c.g.rules.length:=cw_.1 (cp_.1 (ab_ hr)).1;obtain⟨rl,ic⟩:=Ar qo;have hrm:=ab_ ic;have hprt:=hG.prt rl hrm;have kz:=Ahj (ps:=rl.parts)
   have hGa:∀p∈rl.parts,p.sort≠[]->∃j:Nat,p.arg=Int.ofNat j/\j<nPs rl.parts:=fun p hp hps=>by rw[Ap1];exact hG.arg rl hrm p hp hps
   rw[A4 hr,bs_,Ajt]at hwf
   iterate  5 refine G ?_
   refine O1 (Br elC (show _=some (AV.sr aR 0 1 (E5 c.g s.1).length none)from congrArg some hvR) rfl bv) (O1 (Dg Ep ldC rfl hgR hr fun _=>rfl) ?_)
   iterate  10 refine G ?_
   refine Az rfl rfl rfl rfl (f156 hZ.pkb ic hR Om s.2.1 s.2.2) ?_;rintro _ J6 ⟨rfl,hk6,n6,g6⟩;refine G ?_;have hZ6:=hZ.news ok Om g6;refine G ?_;have hK5:c.N0<=nx J5:=hZ.ltn;obtain⟨aY,haY⟩:∃aY,nx J6+1=aY:=⟨_,rfl⟩;obtain⟨aK,haK⟩:∃aK,nx J5=aK:=⟨_,rfl⟩;obtain⟨J7,hσ7⟩:∃J7,J6.bump.new (.loop .ready)=J7:=⟨_,rfl⟩;have n7:nx J7=nx J6+2:=gr;have g7:∀b,b<nx J6->J7.get b=J6.get b:=gr;have y7:J7.get aY=some (.loop .ready):=gr;have hZ7:=hZ6.news ok Om g7;have hPN:c.P<c.N0/\c.mN<c.N0:=⟨hlt.1,hl0.1⟩
   have hI7:IPk c Z nodes s aY aK acc (FPk c Z aY) J7 Z:=⟨hZ7,⟨rfl,rfl,rfl,rfl,rfl⟩,z6,z7,rfl,y7,fun t a q=>by have:=(hZ.lo t a q).2;omega,⟨by omega,by omega,by omega,by omega,by omega⟩,j7,j8,j9⟩
   have z1l:=hZ.lo .r1 _ rfl;have z2l:=hZ.lo .r2 _ rfl;refine Oo ?_;refine L6 rfl (fun tm htm=>?_)
   rw[hσ7,haY,haK];refine et_ (f190 (L:=⟨aY,tm,Tryz.f121.ntmps,_,_,_⟩) (aK:=aK) (mT:=c.mT) (mN:=c.mN) (P:=c.P) (g:=c.g) (text:=c.text) (D:=c.D) (X:=c.X) (I:=fun a F U=>∃Y,IPk c Z nodes s aY aK a F U Y) (aA:=JPk c Z aY) (st:=fun P l=>F7 (r,l) P) (ap_ ..) ⟨?pk,?ks,?stb,?y⟩ ic hGa hR Om htl hs2 Om s.2.1 acc (FPk c Z aY) J7 hs1 ⟨Z,hI7⟩ (fun b hb=>?_) Om ((g7 aK Om).trans gr)) ?post
   case pk=>exact fun a F U ⟨Y,h⟩=>⟨Y.lv,h.ps.pkb⟩
   case ks=>
    rintro a F U ⟨Y,h⟩ hF;rw[h.F]at hF;have h9:=h.lt
    rcases hF with q|q|q|⟨t,q⟩
    ·omega
    ·omega
    ·omega
    ·exact(h.dj t _ q).2 rfl
   case stb=>
    rintro a F U U' ⟨Y,h⟩ hn hg hr;have h9:=h.lt;have h8:=h.ps.ltn
    exact⟨Y,⟨h.ps.keep ok hn (fun b hb hb2=>hg b Om hb2 Om) (fun t b q=>hg b (h.ps.lo t b q).2 (by have:=(h.ps.lo t b q).1;omega) (h.dj t b q).2) hr,h.fx,h.w,h.kv,h.F,(hg _ Om Om Om).trans h.y,h.dj,⟨h9.1,h9.2.1,h9.2.2.1,by omega,by omega⟩,h.b1,h.b2,h.b3⟩⟩
   case y=>
    rintro a F K U hK ⟨Y,hps,hfx,hw',q8,rfl,hy,hdj,d8,hb1a,hb2a,hb3a⟩
    have hmK:K.length<=200:=by omega
    have ntu:=hps.ltn;obtain⟨U1,hτ1⟩:∃U1,U.set aY (.loop .busy)=U1:=⟨_,rfl⟩;have nt1:nx U1=nx U:=gr;have gt1:∀b,b≠aY->U1.get b=U.get b:=gr;have yt1:U1.get aY=some (.loop .busy):=gr;have hp1:PS c Y a.list a.total nodes s a.ways 0 [] U1:=hps.keep ok Om (fun b hb _=>gt1 b Om) (fun t b q=>gt1 b (hdj t b q).1) (hps.pkb.rs.of_get (gt1 _ Om))
    obtain⟨U2,hτ2⟩:∃U2,(U1.new (.cells [.int .i64 0,nS])).set (nx U1) (.cells [nV r,nS])=U2:=⟨_,rfl⟩;have nt2:nx U2=nx U1+1:=gr;have gt2:∀b,b<nx U1->U2.get b=U1.get b:=gr;have hp2:=hp1.nway ok hw' q8 nt2 gt2 r gr;have hyc:c.N0<=aY/\aY<nx U/\∀t,Y.loc t≠some aY:=⟨d8.2.1,d8.2.2.2.1,fun t q=>(hdj t _ q).1 rfl⟩
    have hr2:PRx c Y aY U { Y with w:=some (nx U1) } U2:=by
     refine⟨by omega,fun t b q=>?_,gr,gr⟩
     by_cases e:t=.w
     ·subst e;cases q;grind
     ·exact .inl ⟨t,by cases t<;>first|exact q|exact absurd rfl e⟩
    refine Tk htm rfl Kr Kr Kr hy hyc.2.1 ?_
    iterate  3 refine G ?_
    refine⟨hy,?_⟩;rw[show U.set aY (.loop .busy)=U1 from hτ1]
    refine Dy fun df=>?_
    iterate  5 refine G ?_
    refine O1 (Bu ziC) (O1 (sO (cs:=[.int .i64 0,nS]) (cs':=[nV r,nS]) (by rw[ag_,if_pos rfl])) ?_)
    refine G ?_;rw[hτ2]
    iterate  8 refine G ?_
    refine Bz K.length (fun q=>[(2,.pv [.pr c.P 0]),(4,.pr (nx J+1) 0),(5,.pr (nx J+2) 0),(7,.pr (nx J2) 0),(10,.pr (nx J0) 0),(14,.pr (nx U1) 0),(68,slV eSp 3 K),(69,nV K.length),(70,nV q)]) (fun q υ=>∃Y',PS c Y' (Ct a.list (K.take q) []).2 a.total nodes s a.ways r (Ct a.list (K.take q) []).1 υ/\Y'.w=some (nx U1)/\Fx Y Y'/\PRx c Y aY U Y' υ) SL ⟨_,hp2,rfl,⟨rfl,rfl,rfl,rfl,rfl⟩,hr2⟩ ?_
    rintro q υ hq ⟨Y',hpq,hwq,hfq,hrq⟩;have hml:=Acv (L:=a.list) (K:=K.take q) (o:=[]);rw[cb_]at hml
    iterate  5 refine G ?_
    refine Ab rfl ?_ ?_<;>intro h4
    ·have hlq:q<K.length:=Int.ofNat_lt.1 (of_decide_eq_true h4);obtain⟨x,hx⟩:=Ar hlq;have hms:=Aju (L:=a.list) hx;obtain⟨lv',υ1,dp,hpm,nm,gm,fm⟩:=hpq.meet ok x Om;obtain⟨υ2,hap,hw2,n2',q9,gk⟩:=hpm.kid ok (a:=nx U1) hwq (D2 (Ct a.list (K.take q) []).2 x).1 gr;have hwl:=hpm.lo .w (nx U1) hwq
     iterate  5 refine G ?_
     refine O1 (A1 elC O2 rfl rfl hx) (O1 (Ac ldC rfl rfl (A6 (O2 x) _)) ?_)
     iterate  2 refine G ?_
     refine L4 (Rr:=Dk [(155,[.pr c.P 0,.agg (eSp x)],υ,nV (D2 (Ct a.list (K.take q) []).2 x).1,υ1)]) (anns:=[⟨.pure,0,1⟩,⟨.read,0,1⟩,⟨.read,0,0⟩,⟨.read,0,0⟩,⟨.eff,0,1⟩,⟨.pure,1,1⟩,⟨.eff,1,2⟩,⟨.pure,2,2⟩,⟨.eff,2,3⟩]) Di (Bw ⟨dp,trivial⟩) Kr ?_;refine G ?_;refine DF (lO (hpq.w _ hwq)) ?_
     iterate  3 refine G ?_
     refine DF (Ai elC byW rfl rfl rfl) (DT (Av elC rfl slC rfl rfl rfl (new:=eN (D2 (Ct a.list (K.take q) []).2 x).1) rfl hap) ?_);refine G ?_;refine DT (sO (cs':=[nV r,.sr (nx υ1) 0 1 ((Ct a.list (K.take q) []).1.length+1) none]) hw2) ?_;refine G ?_
     refine⟨⟨trivial,(fun s hs=>by simp at hs;rcases hs with rfl|rfl;exact⟨_,E8 (hpq.w _ hwq) (ldC (t:=31)) rfl rfl⟩;exact⟨_,E8 (hpm.w _ hwq) (ldC (t:=31)) rfl rfl⟩),(fun s hs=>⟨_,Ac (ldC (t:=239)) rfl rfl rfl⟩),(fun s hs=>⟨_,Ac (ldC (t:=232)) rfl rfl rfl⟩),trivial,trivial,trivial,trivial,trivial,trivial⟩,?_⟩
     iterate  4 refine G ?_
     refine⟨hlq,SL,?_⟩;rw[hms];refine⟨_,q9,?_⟩
     refine⟨hwq,⟨hfq.r1,hfq.r2,hfq.f,hfq.tot,hfq.nd⟩,(hrq.step hPN hyc nm fm gm).step hPN hyc gr (fun t b hb=>?_) (fun b h1 h2 h3 h5=>gk b h1 (fun e=>h5 .w (by rw[e];exact hwq)) (h5 .kv))⟩
     by_cases e:t=.kv
     ·subst e;cases hb;grind
     ·exact .inl ⟨t,by cases t<;>first|exact hb|exact absurd rfl e⟩
    ·have hgq:K.length<=q:=bm_.1 (Int.not_lt.1 (fun q=>of_decide_eq_false h4 q))
     rw[at_ hgq]at hpq hml;obtain⟨o,ho⟩:∃o,(Ct a.list K []).1=o:=⟨_,rfl⟩;obtain⟨L2,hL2⟩:∃L2,(Ct a.list K []).2=L2:=⟨_,rfl⟩;rw[ho,hL2]at hpq hml
     have hwo:F7 (r,K) a=if a.total+1>40000∨L2.length>4000 then none else some ⟨a.total+1,L2,a.ways++[⟨r,o⟩]⟩:=by unfold F7;rw[hL2,ho]
     have hawl:=hpq.lo .w _ hwq;have hwg:=hpq.w _ hwq
     have rf:∀b,adr Y'.kv=some b->b≠nx U1:=fun b q e=>by cases hpq.inj .kv .w b q (by rw[e];exact hwq)
     obtain⟨υf,hυf⟩:∃υf,(without υ Y'.kv).kill (nx U1)=υf:=⟨_,rfl⟩
     have nf:nx υf=nx υ:=by rw[←hυf,B3,L7]
     have gf:∀b,Y'.w≠some b->adr Y'.kv≠some b->υf.get b=υ.get b:=fun b h1 h2=>by rw[←hυf,bf_,if_neg (fun e=>h1 gr),E0,if_neg h2]
     have hpf:=hpq.noway ok nf gf
     have hrf:PRx c Y aY U { Y' with w:=none,kv:=nS } υf:=hrq.step hPN hyc Om (fun t b hb=>.inl ⟨t,by cases t<;>first|exact hb|cases hb⟩) (fun b _ _ _ h5=>gf b (h5 .w) (h5 .kv))
     have kg:Y'.nd=some (nx J0):=by rw[hfq.nd,hfx.nd];exact z5
     obtain⟨υ3,rj,rk,n3',hp3,gk3⟩:=hpf.way ok (a:=nx J0) kg ⟨r,o⟩ Om
     have hr3:PRx c Y aY U _ _:=hrf.step (Y'':={ { Y' with w:=none,kv:=nS }with wv:=.sr (nx υf) 0 2 (a.ways.length+1) none }) hPN hyc gr (fun t b hb=>by
      by_cases e:t=.wv
      ·subst e;cases hb;grind
      ·exact .inl ⟨t,by cases t<;>first|exact hb|exact absurd rfl e⟩) (fun b h1 h2 h3 h5=>gk3 b h1 (fun e=>h5 .nd (by rw[e];exact kg)) (h5 .wv))
     obtain⟨υ4,hυ4⟩:∃υ4,υ3.set (nx J0) (.cells [sV s.1,nV s.2.1,nV s.2.2,.sr (nx υf) 0 2 (a.ways.length+1) none])=υ4:=⟨_,rfl⟩;rw[hυ4]at hp3 hr3
     have htq:Y'.tot=nx J2:=by rw[hfq.tot,hfx.tot];exact z4
     have hr1q:Y'.r1=nx J+1:=by rw[hfq.r1,hfx.r1];exact z1
     have hr2q:Y'.r2=nx J+2:=by rw[hfq.r2,hfx.r2];exact z2
     have hp5:=hp3.tota ok (a.total+1)
     have htg:υ4.get (nx J2)=some (.cells [nV a.total]):=by rw[←htq];exact hp3.tot
     have hr5:=hr3.step (Y'':={ { Y' with w:=none,kv:=nS }with wv:=.sr (nx υf) 0 2 (a.ways.length+1) none }) (υ:=υ4.set Y'.tot (.cells [nV (a.total+1)])) hPN hyc gr (fun t b hb=>.inl ⟨t,hb⟩) (fun b h1 h2 h3 h5=>by rw[aa_,if_neg (fun e=>h5 .tot (by rw[e];rfl))])
     obtain⟨υ5,hυ5⟩:∃υ5,υ4.set Y'.tot (.cells [nV (a.total+1)])=υ5:=⟨_,rfl⟩;have hp5:PS c { { Y' with w:=none,kv:=nS }with wv:=.sr (nx υf) 0 2 (a.ways.length+1) none } L2 (a.total+1) nodes s (a.ways++[⟨r,o⟩]) 0 [] υ5:=gr;rw[hυ5]at hr5;have n5':=hr5.n;refine G ?_;refine Bo fun hwe=>?_
     refine Aby υf [(2,.pv [.pr c.P 0]),(4,.pr (nx J+1) 0),(5,.pr (nx J+2) 0),(7,.pr (nx J2) 0),(10,.pr (nx J0) 0),(14,.pv (eWy ⟨r,o⟩))] ?_ nf ⟨⟨_,rfl,.same ?_⟩,⟨_,rfl,.same (Jr Om)⟩,⟨_,rfl,.same (Jr Om)⟩,⟨_,rfl,.same (Jr Om)⟩,⟨_,rfl,.same (Jr Om)⟩,⟨_,rfl,.pr hwg ?_ (.cons (.same rfl) (.cons (hpq.kv.fzA Ep ?_ (A2 Ajp _)) .nil))⟩,trivial⟩ ?_
     ·rw[←hυf]
      exact ft_ ((hwe.without).kill _) gr fun b O ha=>by
       rw[bf_]at ha
       split at ha
       ·cases ha
       ·rw[E0]at ha
        grind
     ·have:=hpq.pkb.lt.1
      show(Nat.blt c.P (nx υf)&&true)=true
      rw[nf,Ce this];rfl
     ·grind
     ·intro b q;rw[←hυf,bf_,if_neg (rf b q),E0,if_pos q]
     iterate  3 refine G ?_
     refine O1 (lO (hpf.nd _ kg)) ?_;refine G ?_;refine Cx (Ai elC byW rfl rfl rfl) (Dv (len:=1)) rfl rfl (O1 (Av elC rfl slC rfl rfl rfl (new:=eWy ⟨r,o⟩) rfl rj) ?_);refine G ?_;refine O1 (sO (cs':=[sV s.1,nV s.2.1,nV s.2.2,.sr (nx υf) 0 2 (a.ways.length+1) none]) rk) ?_;refine G ?_;rw[hυ4]
     iterate  2 refine G ?_
     refine O1 (lO htg) ?_;refine G ?_;refine O1 (sO (cs':=[nV (a.total+1)]) htg) ?_;refine G ?_
     rw[show υ4.set (nx J2) (.cells [nV (a.total+1)])=υ5 by rw[←htq];exact hυ5]
     have ht5:υ5.get (nx J2)=some (.cells [nV (a.total+1)]):=gr;have hl5:=hp5.pkl.lst.lenA
     iterate  2 refine G ?_
     refine O1 (lO ht5) ?_
     iterate  2 refine G ?_
     refine TOr 6 ?_ (fun hg=>?_) ?_
     rotate_left
     ·iterate  3 refine Gn hg ?_
      refine On hg (lO hp5.pkb.pk) (On hg (Bf slC rfl hl5.1 hl5.2) ?_);refine Gn hg ?_;exact Ez
     refine G ?_;have hyb:=hr5.y;refine Ab rfl ?_ ?_<;>intro h5
     ·have hwn:F7 (r,K) a=none:=gr
      have hr1g:υ5.get (nx J+1)=some (.cells [nS]):=by rw[←hr1q];exact hp5.r1
      have hr2g:υ5.get (nx J+2)=some (.cells [.bool false]):=by rw[←hr2q];exact hp5.r2
      have rm:nx J+1≠aY:=by omega
      have hya2:nx J+2≠aY:=by omega
      iterate  3 refine G ?_
      refine O1 (sO (cs':=[nS]) hr1g) (O1 (G1 (cs:=[.bool false]) (cs':=[.bool false]) gr ldC rfl rfl rfl rfl) ?_)
      iterate  2 refine G ?_
      refine⟨gr,?_⟩;rw[hwn]
      refine⟨by simp,rfl,gr,?_,?_,⟨by rw[Aq,Aq,Aq];exact hp5.blw.1,fun b hb=>?_⟩,by omega,by omega,by omega⟩
      ·rw[z1,aa_,if_neg rm,aa_,if_neg Om,aa_,if_pos rfl]
      ·grind
      ·rw[aa_,if_neg gr,aa_,if_neg Om,aa_,if_neg Om];exact hp5.blw.2 b hb
     ·rw[bv_]at h5;have h51:¬(40000:Int)<((a.total+1:Nat):Int):=of_decide_eq_false h5.1;have h52:¬(4000:Int)<((L2.length:Nat):Int):=of_decide_eq_false h5.2;have hws:F7 (r,K) a=some ⟨a.total+1,L2,a.ways++[⟨r,o⟩]⟩:=gr
      have od:∀t b,Px.loc { { Y' with w:=none,kv:=nS }with wv:=.sr (nx υf) 0 2 (a.ways.length+1) none } t=some b->b≠aY/\b≠aK:=fun t b q=>by
       rcases hr5.f t b q with⟨u,hu⟩|hu
       ·grind
       ·omega
      refine G ?_;refine⟨hyb,?_⟩;rw[hws];have gy:∀b,b≠aY->(υ5.set aY (.loop .ready)).get b=υ5.get b:=gr
      refine⟨rfl,_,⟨_,⟨hp5.keep ok gr (fun b hb _=>gy b Om) (fun t b q=>gy b (od t b q).1) (hp5.pkb.rs.of_get (gy _ Om)),⟨gr,gr,by rw[←hfx.f,←hfq.f],gr,gr⟩,rfl,rfl,rfl,by rw[aa_,if_pos rfl];rfl,od,⟨d8.1,d8.2.1,d8.2.2.1,gr,gr⟩,gr,gr,gr⟩⟩,⟨gr,fun b hb=>?_,fun b h1 h2 h3 _=>?_⟩⟩
      ·rcases hb with q|q|q|⟨t,q⟩
       ·exact .inl (.inl q)
       ·exact .inl (.inr (.inl q))
       ·exact .inl (.inr (.inr (.inl q)))
       ·rcases hr5.f t b q with⟨u,hu⟩|hu
        ·exact .inl (.inr (.inr (.inr ⟨u,hu⟩)))
        grind
      ·rw[show H2 XE.normal=.ready from rfl,gy b (fun e=>h2 (.inr (.inr (.inl e))))]
       exact hr5.g b h1 (fun e=>h2 (.inl e)) (fun e=>h2 (.inr (.inl e))) (fun e=>h2 (.inr (.inr (.inl e)))) (fun t q=>h2 (.inr (.inr (.inr ⟨t,q⟩))))
   case post=>
    intro u J' bh;cases hfm:foM (fun P l=>F7 (r,l) P) (Qx c.g c.D c.text r s.2.1 s.2.2) acc with
    |none=>
     rw[hfm]at bh hwf;obtain⟨hnn,x,_,rfl,hy9,hq1,hq2,hbl,og,om,hMy⟩:=bh;have hwf:none=Pj (Ajj c.g c.D c.text s) ⟨total,L,[]⟩:=hwf;rw[←hwf]at hpk;have hpk:none=Im c.g c.D c.text w:=hpk;rw[z1]at hq1 og;rw[z2]at hq2 om;refine⟨.ret,hy9,fun hw9=>?_⟩
     refine⟨[.agg [nS],.bool false],Am (ldC (t:=147)) rfl (by simp only[Sto.cells];rw[bf_,if_neg og,hq1]) rfl (Am (ldC (t:=4)) rfl (by simp only[Sto.cells];rw[bf_,if_neg om,hq2]) rfl rfl),_,_,a_ hw9 nl (fun _ _=>rfl),gr,.same rfl,by rw[←hpk];rfl,⟨by rw[B3];exact hbl.1,fun b hb=>by rw[bf_,if_neg Om];exact hbl.2 b hb⟩⟩
    |some acc'=>
     rw[hfm]at bh hwf;obtain⟨F',⟨Y9,h9⟩,ig⟩:=bh;refine⟨.normal,h9.y,fun hw9=>?_⟩
     have hnn:=ig.n;have gk9:∀b,b≠aY->(J'.kill aY).get b=J'.get b:=gr;have hlt9:=h9.lt;have hp9:=h9.ps.keep ok gr (fun b hb _=>gk9 b Om) (fun t b q=>gk9 b (h9.dj t b q).1) (h9.ps.pkb.rs.of_get (gk9 _ Om))
     have hwf:Pj (((E5 c.g s.1).drop (j+1)).flatMap fun r=>(Qx c.g c.D c.text r s.2.1 s.2.2).map fun l=>(r,l)) acc'=Pj (Ajj c.g c.D c.text s) ⟨total,L,[]⟩:=hwf
     have fc:=Ans hfm;have hrll:=Anm (g:=c.g) (s:=s.1)
     iterate  4 refine G ?_
     refine⟨(j+1,acc'),gr,SL,?_⟩;refine⟨Y9,hp9,?_⟩;exact⟨⟨h9.fx.r1.trans z1,h9.fx.r2.trans z2,h9.fx.f.trans z3,h9.fx.tot.trans z4,h9.fx.nd.trans z5,h9.w,h9.kv⟩,gr,h9.b1,h9.b2,h9.b3,Ass kd (fun x hx=>Asq hs2 x hx) hfm,hwf,gr,gr⟩
   ·rcases hb with q|q|q|⟨t,q⟩
    ·omega
    ·omega
    ·omega
    ·have:=(hZ.lo t b q).2;omega
  ·have ba:(E5 c.g s.1).length<=j:=bm_.1 gr
   have hwf:some acc=Pj (Ajj c.g c.D c.text s) ⟨total,L,[]⟩:=by
    rw[←hwf,ah_ ba];rfl
   rw[←hwf]at hpk;have hpk:Pf c.g c.D c.text (4001-i) (i+1) acc.total acc.list (nodes++[⟨s,acc.ways⟩])=Im c.g c.D c.text w:=hpk;have rp:=hZ.nd _ z5;have hndl:=hZ.lo .nd _ z5
   have rq:∀a,adr Z.wv=some a->a≠nx J0:=fun a q e=>by cases hZ.inj .wv .nd a q (by rw[e];exact z5)
   obtain⟨J7,hσ7⟩:∃J7,(without J5 Z.wv).kill (nx J0)=J7:=⟨_,rfl⟩
   have n7:nx J7=nx J5:=by rw[←hσ7,B3,L7]
   have g7:∀b,Z.nd≠some b->adr Z.wv≠some b->J7.get b=J5.get b:=fun b h1 h2=>by rw[←hσ7,bf_,if_neg (fun e=>h1 gr),E0,if_neg h2]
   have hZ7:=hZ.nonode ok n7 g7 zSp;obtain⟨J8,hap,hf8,n8,hZ8⟩:=hZ7.node ok ⟨s,acc.ways⟩ Om;refine G ?_;refine Dy fun df=>?_
   refine Bo fun hw7=>?_
   refine Aby J7 [(2,.pv [.pr c.P 0]),(4,.pr (nx J+1) 0),(5,.pr (nx J+2) 0),(6,.pr (nx J+3) 0),(7,.pr (nx J2) 0),(8,nV i),(10,.pv (eNd ⟨s,acc.ways⟩))] ?_ n7 ⟨⟨_,rfl,.same ?_⟩,⟨_,rfl,.same (Jr Om)⟩,⟨_,rfl,.same (Jr Om)⟩,⟨_,rfl,.same (Jr Om)⟩,⟨_,rfl,.same (Jr Om)⟩,⟨_,rfl,.same rfl⟩,⟨_,rfl,.pr rp ?_ (.cons (.same rfl) (.cons (.same rfl) (.cons (.same rfl) (.cons (hZ.wv.fzA Gq ?_ (A2 Ajs _)) .nil))))⟩,trivial⟩ ?_
   ·rw[←hσ7]
    exact ft_ ((hw7.without).kill _) gr fun a O ha=>by
     rw[bf_]at ha
     split at ha
     ·cases ha
     ·rw[E0]at ha
      grind
   ·have:=hZ.pkb.lt.1
    show(Nat.blt c.P (nx J7)&&true)=true
    rw[n7,Ce this];rfl
   ·grind
   ·intro a q;rw[←hσ7,bf_,if_neg (rq a q),E0,if_pos q]
   iterate  2 refine G ?_
   refine O1 (E8 (by rw[←z3];exact hZ7.f) ldC rfl rfl) ?_
   refine G ?_;refine Cx (Ai elC byW rfl rfl rfl) (Dv (len:=1)) rfl rfl (O1 (Av elC rfl slC rfl rfl rfl (new:=eNd ⟨s,acc.ways⟩) rfl hap) ?_);refine G ?_
   refine O1 (G1 (cs':=[.sr (nx J7) 0 4 (nodes.length+1) none]) (by rw[←z3];exact hf8) ldC rfl rfl rfl rfl) ?_
   refine G ?_;rw[z3]at hZ8
   iterate  5 refine G ?_
   refine⟨(i+1,acc.total,acc.list,nodes++[⟨s,acc.ways⟩]),gr,SL,?_⟩
   grind
 ·have hge:L.length<=i:=Int.not_lt.1 (fun q=>of_decide_eq_false h1 q)|>bm_.1
  have hF:Im c.g c.D c.text w=some nodes:=by
   rw[←hpk,show 4002-i=(4001-i)+1 by omega,Pf,List.getElem?_eq_none_iff.2 hge]
  have hr1:nx J+1≠nx J+2:=by omega
  have oq:=hY.r1;have ow:=hY.r2;have hYf:=hY.f;rw[e1]at oq;rw[e2]at ow;rw[e3]at hYf
  have ox:∀b,adr Y.nv=some b->b≠nx J+1/\b≠nx J+2:=fun b q=>⟨fun e=>(by cases hY.inj .nv .r1 b q (by rw[e,←e1];rfl)),fun e=>(by cases hY.inj .nv .r2 b q (by rw[e,←e2];rfl))⟩
  iterate  3 refine G ?_
  refine O1 (lO hYf) (O1 (sO (cs:=[nS]) (cs':=[Y.nv]) oq) (O1 (sO (cs:=[.bool false]) (cs':=[.bool true]) (by rw[aa_,if_neg hr1.symm];exact ow)) ?_))
  refine G ?_;obtain⟨σe,hσe⟩:∃σe,(J0.set (nx J+1) (.cells [Y.nv])).set (nx J+2) (.cells [.bool true])=σe:=⟨_,rfl⟩;rw[hσe];have ne:nx σe=nx J0:=gr;have ge:∀b,b≠nx J+1->b≠nx J+2->σe.get b=J0.get b:=gr;have hnv:Own σe c.N0 eNd 4 nodes Y.nv:=hY.nv.of_get Om fun b q=>ge b (ox b q).1 (ox b q).2
  refine Gi fun hw9=>?_
  refine G ?_
  refine⟨[.agg [Y.nv],.bool true],Am (ldC (t:=147)) rfl (by simp only[Sto.cells];rw[←hσe,aa_,if_neg hr1,aa_,if_pos rfl]) rfl (Am (ldC (t:=4)) rfl (by simp only[Sto.cells];rw[←hσe,aa_,if_pos rfl]) rfl rfl),Awg (some nodes),without σe Y.nv,Ds.without hw9,by rw[L7];omega,.tup (.cons (.agg (.cons (hnv.fzA Mw (fun a q=>by rw[E0,if_pos q]) (A2 Vp _)) .nil)) (.cons (.same rfl) .nil)),by rw[hF],⟨by rw[L7];have:=hY.blw.1;omega,fun b q=>?_⟩⟩
  have hbm:=hY.blw.2 b q
  rw[E0,if_neg (fun e=>by have:=(hY.lo .nv b e).1;omega),ge b Om Om]
  exact hbm
def fO:Option (List Nde)->AV
 |some F=>fV F
 |none=>.agg [.nil (.slice none 0 0)]
theorem Axp{N}(F){e}:AV.und N (.tup [fV F,iV e])=true:=by
 have:AV.unds N (F.flatMap eNd)=true:=A2 Vp _
 show((AV.unds N (F.flatMap eNd)&&true)&&(true&&true))=true
 rw[this];rfl
theorem Ahk{g sort text}(h:I7 g sort text≠0):Fj g sort text=(none,I7 g sort text):=by
 unfold I7 at h⊢;unfold Fj
 grind
theorem Als{g sort text}(h:I7 g sort text=0):Eb g=0/\sort∈g.sorts/\text.length<=200:=by
 unfold I7 at h
 grind
theorem Ajv{g sort text}(h1:Eb g=0)(h2:sort∈g.sorts)(h3:text.length<=200)(h:(Ej g sort text).sets.length<=text.length∨(sort,0,text.length)∉(Ej g sort text).done):Fj g sort text=(none,160):=by
 unfold Fj
 grind
theorem Ajw{g sort text}(h1:Eb g=0)(h2:sort∈g.sorts)(h3:text.length<=200)(h4:text.length<(Ej g sort text).sets.length)(h5:(sort,0,text.length)∈(Ej g sort text).done):Fj g sort text=match Im g (Ej g sort text).done text (sort,0,text.length)with|none=>(none,15)|some F=>(some F,0):=by
 unfold Fj
 grind
theorem Au3{g}(h:GOk g):mxP g<=200:=by
 unfold mxP
 have:∀(l:List Rl),(∀r∈l,r.parts.length<=200)->(l.map (·.parts.length)).foldr max 0<=200:=by
  intro l
  induction l with
  |nil=>intro _;simp
  |cons r l ih=>
   intro hl;have h1:=hl r (ap_ ..);have h2:=ih fun x hx=>hl x (aj_ _ hx)
   simp only[cn_,List.foldr_cons];omega
 exact this _ h.prt
theorem f68(g sort text J)(hB:GrB g)(hl:text.length<1000000):Cv 68 [grV g,sV sort,Af text] J (.tup [fO (Fj g sort text).1,iV (Fj g sort text).2]):=by
 obtain⟨J1,hσ1⟩:∃J1,J.new (.cells [nS])=J1:=⟨_,rfl⟩;have n1:nx J1=nx J+1:=gr;have g1:∀b,b<nx J->J1.get b=J.get b:=gr;have c1:J1.get (nx J)=some (.cells [nS]):=gr;refine Aj Tryz.func68 rfl rfl fun hw hu0=>?_
 refine G3 ?_;refine O1 (Bj (n:=nx J) ziC rfl) ?_;refine G2 ?_;rw[hσ1];refine G6 ?_;refine Ca (f118 g sort text J1 hB hl) ?_;refine G7 ?_;refine Ab rfl ?_ ?_<;>intro h1
 ·have he:I7 g sort text≠0:=gr;have hpf:Fj g sort text=(none,I7 g sort text):=Ahk he;refine G4 ?_;refine O1 (sO (cs:=[nS]) (cs':=[nS]) c1) ?_;refine G3 ?_
  exact⟨[.agg [nS],iV (I7 g sort text)],Am (ldC (t:=147)) rfl (by simp only[Sto.cells];rw[aa_,if_pos rfl]) rfl (Ba rfl rfl),_,J,am_ hw ⟨gr,gr⟩,nl,.same rfl,by rw[hpf];rfl,rfl⟩
 ·have he:I7 g sort text=0:=gr;obtain⟨hck,hso,hle⟩:=Als he;have hGO:=Afh hck;have hR:=hGO.len;have hmx:mxP g<=200:=Au3 hGO
  have hbn:Cu g text.length<=30000000:=by
   unfold Cu
   refine ai_ (Nat.mul_le_mul hR (Nat.mul_le_mul (show mxP g+1<=201 by omega) (show text.length+1<=201 by omega))) (by decide)
  refine G6 ?_;refine Az rfl rfl rfl rfl (f119 g sort text J1 hbn Om Om) ?_;rintro _ J2 ⟨X,rv,rfl,hC,hRl,hB2⟩;obtain⟨S,hS⟩:∃S,Ej g sort text=S:=⟨_,rfl⟩;rw[hS]at hC;obtain⟨MD,⟨vD,hMD⟩,dh⟩:=hC.done;have ff:=hC.sets.lenA;have hlv:=hC.lv;have n12:=hB2.1;have g2:∀b,b<nx J->J2.get b=J.get b:=fun b hb=>(hB2.2 b Om).trans (g1 b hb)
  have c2:J2.get (nx J)=some (.cells [nS]):=(hB2.2 _ Om).trans c1;refine G11 ?_
  refine Gg [(45,.bool (decide (Int.ofNat X.vals.length<=Int.ofNat text.length)|| !((MD.get (sk (sort,0,text.length))).getD false)))] ?_ ?_
  ·rcases av_ (decide (Int.ofNat X.vals.length<=Int.ofNat text.length))with hg8|hg8
   ·refine X0 ?_;refine G3 ?_;refine DF (lO hC.cl) (DF (Bf slC rfl ff.1 ff.2) ?_);refine G2 ?_;refine DF (Hn okC rfl rfl) ?_;refine G ?_;refine Wx (w:=R1 hg8) (Wx (w:=R1 hg8) (Wx (w:=R1 hg8) (Wx (w:=R1 hg8) (Wx (w:=R1 hg8) (Wx (w:=R1 hg8) (Wx (w:=R1 hg8) (DF (A3 rfl (R1 hg8) rfl) ?_)))))));refine C1 ?_;exact⟨rfl,rfl,⟨⟨congrArg (fun b=>some (AV.bool b)) (R1 hg8),trivial⟩,sb,rfl⟩⟩
   ·refine X0 ?_;refine G3 ?_;refine DF (lO hC.cl) (DF (Bf slC rfl ff.1 ff.2) ?_);refine G2 ?_;refine DF (Hn okC rfl rfl) ?_;refine G ?_;refine Wn (w:=R1 hg8) (Ag rfl) (Wn (w:=R1 hg8) (Ge rfl) (Wn (w:=R1 hg8) (Ae fdC rfl rfl) (Wn (w:=R1 hg8) (E8 hC.cl ldC rfl rfl) (Wn (w:=R1 hg8) (Ac ldC rfl rfl rfl) (Wn (w:=R1 hg8) (Acp Va rfl ⟨vD,hMD⟩ rfl (Acn (sort,0,text.length))) (Wn (w:=R1 hg8) (Dc rfl) (DF (Au rfl (R1 hg8) rfl) ?_)))))));refine C1 ?_;exact⟨rfl,rfl,⟨⟨congrArg (fun b=>some (AV.bool b)) (R1 hg8),trivial⟩,sb,rfl⟩⟩
  refine Ab rfl ?_ ?_<;>intro h2
  ·have hpf:Fj g sort text=(none,160):=by
    refine Ajv hck hso hle ?_
    grind
   refine G3 ?_;refine O1 (sO (cs:=[nS]) (cs':=[nS]) c2) ?_;refine G3 ?_
   exact⟨[.agg [nS],iV 160],Am (ldC (t:=147)) rfl (by simp only[Sto.cells];rw[aa_,if_pos rfl]) rfl (Ba rfl rfl),_,J,am_ hw ⟨gr,gr⟩,nl,.same rfl,by rw[hpf];rfl,rfl⟩
  ·rw[bv_]at h2;have hgt:¬(Int.ofNat X.vals.length<=Int.ofNat text.length):=of_decide_eq_false h2.1;have oz:text.length<S.sets.length:=gr;have hin:(sort,0,text.length)∈S.done:=gr
   have hpf:Fj g sort text=match Im g S.done text (sort,0,text.length)with|none=>(none,15)|some F=>(some F,0):=by
    rw[←hS]at oz hin⊢;exact Ajw hck hso hle oz hin
   have hXc:=(hC.lo .c _ rfl);have hXd:=(hC.lo .d _ rfl);obtain⟨J5,hσ5⟩:∃J5,((J2.new (.map 232 [] 0)).new (.map 386 [] 0)).new (.cells [.pr X.c 0,.mp (nx J2),nS,.mp (nx J2+1)])=J5:=⟨_,rfl⟩;have n5:nx J5=nx J2+3:=gr;have g5:∀b,b<nx J2->J5.get b=J2.get b:=gr;have m5:J5.get (nx J2)=some (.map 232 [] 0):=gr;have r5:J5.get (nx J2+1)=some (.map 386 [] 0):=gr;have p5:J5.get (nx J2+2)=some (.cells [.pr X.c 0,.mp (nx J2),nS,.mp (nx J2+1)]):=gr;obtain⟨c,hc⟩:∃c:Pc,c=⟨g,text,S.done,X,nx J2+2,nx J2,nx J2+1,nx J2+3,nx J1,rv,J1⟩:=⟨_,rfl⟩;have oy:∀a,(a=X.mR∨∃s v,rv.get s=some v/\adr v=some a)->a<nx J2:=fun a ha=>(hRl.lo a ha).1
   have hok:Xe c:=by
    subst hc
    exact⟨⟨gr,gr,gr,gr⟩,⟨gr,gr⟩,⟨gr,n12,gr,gr⟩,fun a ha=>by have:=oy a ha;grind⟩
   have dp:=f121 (c:=c) hok gr gr (sort,0,text.length) gr (J:=J5) rfl
    (by subst hc;exact⟨p5,(g5 _ hXc.2).trans hC.cl,⟨MD,⟨vD,(g5 _ hXd.2).trans hMD⟩,dh⟩,⟨[],⟨0,r5⟩,fun _ _ _ _ _ h=>by cases h⟩,gr,gr,gr,gr⟩)
    (by subst hc;exact⟨⟨[],⟨0,m5⟩,fun s=>by rw[if_neg (by simp)];rfl⟩,.nil,gr,gr⟩)
    (by subst hc;exact(show RlG g rv X.mR J2 from⟨hRl.map,hRl.get⟩).of_get Om fun a ha=>g5 a (oy a ha))
    (by subst hc;exact⟨gr,gr⟩)
   have hcP:c.P=nx J2+2:=by rw[hc]
   rw[hcP]at dp;refine G4 ?_;refine O1 (Cd (n:=nx J2) Am1 rfl) (O1 (Cd (n:=nx J2+1) Ab2 (Ao _ _)) ?_);refine G ?_;refine O1 (Q0 (n:=nx J2+2) (cs:=[.pr X.c 0,.mp (nx J2),nS,.mp (nx J2+1)]) ldC rfl rfl gr) ?_;rw[hσ5];refine G ?_;refine Az rfl rfl rfl rfl dp ?_;rintro _ J6 ⟨rfl,hB6⟩;have hB6:Below (nx J1) J1 J6:=gr
   rw[show Im c.g c.D c.text (sort,0,text.length)=Im g S.done text (sort,0,text.length) by rw[hc]]
   have n16:=hB6.1;have g6:∀b,b<nx J->J6.get b=J.get b:=fun b hb=>(hB6.2 b Om).trans (g1 b hb)
   have c6:J6.get (nx J)=some (.cells [nS]):=(hB6.2 _ Om).trans c1;cases hp:Im g S.done text (sort,0,text.length)with
   |none=>
    rw[hp]at hpf;refine G12 ?_;refine Ab rfl (fun h3=>?_) gr
    refine G3 ?_;refine O1 (sO (cs:=[nS]) (cs':=[nS]) c6) ?_;refine G3 ?_
    exact⟨[.agg [nS],iV 15],Am (ldC (t:=147)) rfl (by simp only[Sto.cells];rw[aa_,if_pos rfl]) rfl (Ba rfl rfl),_,J,am_ hw ⟨gr,gr⟩,nl,.same rfl,by rw[hpf];rfl,rfl⟩
   |some F=>
    rw[hp]at hpf;refine G12 ?_;refine Ab rfl gr (fun h3=>?_)
    refine G4 ?_;refine O1 (sO (cs:=[nS]) (cs':=[slV eNd 4 F]) c6) ?_;refine G3 ?_
    exact⟨[fV F,iV 0],Am (ldC (t:=147)) rfl (by simp only[Sto.cells];rw[aa_,if_pos rfl]) rfl (Ba rfl rfl),_,J,am_ hw ⟨gr,gr⟩,nl,.same (Axp F),by rw[hpf];rfl,rfl⟩
structure CtS (F:List Nde)(P aS aT:Nat)(c:Cs)(J:Sto):Prop where
 ob:J.get P=some (.cells [slV eNd 4 F,.sr aS 0 1 F.length (some F.length),.sr aT 0 1 F.length (some F.length)])
 s:J.get aS=some (.cells (c.1.flatMap eN))
 t:J.get aT=some (.cells (c.2.flatMap eN))
 ne:aS≠aT/\P≠aS/\P≠aT
 lt:P<nx J/\aS<nx J/\aT<nx J
 b:∀m,c.2.getD m 0<=mxT
def FB(F:List Nde):Prop:=F.length<=4000/\∀x∈F,x.ways.length<=40000/\∀w∈x.ways,w.kids.length<=200
theorem CI.set1{F c E n}(hc:CI F c E)(hn:n<F.length)(h2:c.1.getD n 0≠2):CI F (c.1.set n 1,c.2) E:=by
 have hn1:n<c.1.length:=by rw[hc.l1];exact hn
 refine⟨by rw[dc_];exact hc.l1,hc.l2,hc.nd,fun m=>?_,fun m=>?_,hc.ord⟩
 ·show(c.1.set n 1).getD m 0<=2
  rw[I5 hn1];split
  ·omega
  ·exact hc.le m
 ·rw[hc.mem]
  show _↔(c.1.set n 1).getD m 0=2
  rw[I5 hn1]
  by_cases e:m=n
  ·subst e;rw[if_pos rfl];exact⟨fun hh=>absurd hh h2,fun hh=>by cases hh⟩
  ·rw[if_neg e]
def Alt(F:List Nde)(P aS aT f n:Nat)(c:Cs)(J:Sto)(v:AV)(J':Sto):Prop:=nx J<=nx J'/\(∀b,b<nx J->b≠aS->b≠aT->J'.get b=J.get b)/\match La F f n c with
 |some c'=>v=.bool true/\CtS F P aS aT c' J'
 |none=>v=.bool false
theorem Alt.bool{F P aS aT f n c J v J'}(h:Alt F P aS aT f n c J v J'):∃b,v=.bool b:=by
 obtain⟨_,_,h⟩:=h
 split at h
 ·exact⟨_,h.1⟩
 ·exact⟨_,h⟩
theorem Ap2{g F}(hF:FOk g F.length F){f n c c' E}(hc:CI F c E)(hn:n<F.length)(h:La F f n c=some c'):∃E',CI F c' E'/\c'.1.count 0<=c.1.count 0:=by
 obtain⟨E',h1,_⟩:=Z5 hF f n c E c' hc hn h;exact⟨E',h1.ci,h1.fr⟩
theorem O4{l:List Nat}{i}(h:i<l.length):l[i]? =some (l.getD i 0):=by
 rw[List.getD_eq_getElem?_getD,az_ h];rfl
theorem Ast{p k}(h1:p<=mxT)(h2:k<=mxT):p*k<=1000000002000000001:=ai_ (Nat.mul_le_mul h1 h2) (by decide)
theorem Axq{a}:(min ((a:Nat):Int) 1000000001)=Int.ofNat (min a mxT):=by
 show min ((a:Nat):Int) 1000000001=((min a mxT:Nat):Int)
 unfold mxT;omega
theorem Ant{ρ J Rr}{t ty:Nat}{x y p q}(hi:okI Ew.P t=true)(hx:Ah Ew ρ x=some (nV p))(hy:Ah Ew ρ y=some (nV q))(h2:p*q<=1000000002000000001):As Ew Rr (.binOp .mul t x y ty) ρ J (nV (p*q)) J:=
 Au0 (p:=(p:Int)) (q:=(q:Int)) hi hx hy gr gr
theorem Ahl{ρ J Rr}{t tys:Nat}{x a}(hi:okI Ew.P t=true)(hx:Ah Ew ρ x=some (nV a)):As Ew Rr (.call ⟨.builtin .min,#[x,.const (.int .i64 1000000001)],#[t,tys]⟩) ρ J (nV (min a mxT)) J:=by
 have:=Ak7 (Rr:=Rr) (J:=J) (tys:=tys) (E:=Ew) (y:=.const (.int .i64 1000000001)) (q:=1000000001) hi hx rfl;rw[show(min (Int.ofNat a) 1000000001:Int)=Int.ofNat (min a mxT)from Axq]at this
 exact this
theorem f157s{g F}(hF:FOk g F.length F)(hFB:FB F){P aS aT f}(ih:∀(n:Nat) (c:Cs) (E:List Nat) (J:Sto),CI F c E->c.1.count 0<f->n<F.length->CtS F P aS aT c J->Al Ew 157 [.pr P 0,nV n] J (Alt F P aS aT f n c J))
  (n c E J)(hci:CI F c E)(hcf:c.1.count 0<f+1)(hn:n<F.length)(h:CtS F P aS aT c J):Al Ew 157 [.pr P 0,nV n] J (Alt F P aS aT (f+1) n c J):=by
 have hsn:=O4 (l:=c.1) (i:=n) (by rw[hci.l1];exact hn)
 refine Aj Tryz.func157 rfl rfl fun hw hu0=>?_
 refine G10 ?_;refine O1 (lO h.ob) ?_;refine G ?_
 refine O1 (Br elC rfl rfl hn) (O1 (Dg (tl:=[]) Ep ldC rfl (by rw[bh_];exact h.s) hsn fun _=>rfl) ?_)
 refine G7 ?_;refine Ab rfl ?_ ?_<;>intro h1
 ·have hs1:c.1.getD n 0=1:=ci_ (of_decide_eq_true h1)
  have hr:La F (f+1) n c=none:=by rw[La,if_pos hs1]
  refine G4 ?_;refine Bo fun hw9=>?_
  refine G ?_
  exact⟨_,rfl,_,_,a_ hw9 nl (fun _ _=>rfl),nl,.same rfl,nl,fun _ _ _ _=>rfl,by rw[hr];rfl⟩
 ·have hs1:c.1.getD n 0≠1:=fun q=>of_decide_eq_false h1 (congrArg _ q)
  refine G5 ?_;refine Ab rfl ?_ ?_<;>intro h2
  ·have hs2:c.1.getD n 0=2:=ci_ (of_decide_eq_true h2)
   have hr:La F (f+1) n c=some c:=by rw[La,if_neg hs1,if_pos hs2]
   refine G4 ?_;refine Bo fun hw9=>?_
   refine G ?_
   exact⟨_,rfl,_,_,a_ hw9 nl (fun _ _=>rfl),nl,.same rfl,nl,fun _ _ _ _=>rfl,by rw[hr];exact⟨rfl,h⟩⟩
  ·have hs2:c.1.getD n 0≠2:=fun q=>of_decide_eq_false h2 (congrArg _ q)
   have hs0:c.1.getD n 0=0:=by have:=hci.le n;omega
   obtain⟨x,hx⟩:=Ar hn;have hxF:=ab_ hx;have hxb:=hFB.2 x hxF
   have hr:La F (f+1) n c=match Acj (La F f) x.ways 0 (c.1.set n 1,c.2)with|none=>none|some (t,c')=>some (c'.1.set n 2,c'.2.set n t):=by
    rw[La,if_neg hs1,if_neg hs2,hx];rfl
   have rx:=Xb (l:=c.1) (n:=n) (v:=1) (by simp) gr
   rw[if_pos hs0]at rx;have rz:=hci.set1 hn hs2;obtain⟨J1,hσ1⟩:∃J1,J.set aS (.cells ((c.1.set n 1).flatMap eN++[]))=J1:=⟨_,rfl⟩;have n1:nx J1=nx J:=gr;have g1:∀b,b≠aS->J1.get b=J.get b:=gr
   have hC1:CtS F P aS aT (c.1.set n 1,c.2) J1:=⟨(g1 P h.ne.2.1).trans h.ob,gr,(g1 aT h.ne.1.symm).trans h.t,h.ne,by rw[n1];exact h.lt,h.b⟩
   refine G6 ?_;refine O1 (lO h.ob) ?_;refine G ?_
   refine O1 (Br elC rfl rfl hn) (O1 (Tb (u:=1) (tl:=[]) Ep ldC rfl rfl rfl (by rw[bh_];exact h.s) gr) ?_)
   refine G ?_;rw[hσ1];refine G11 ?_;refine O1 (lO hC1.ob) ?_;refine G ?_;refine O1 (A1 elC Mw rfl rfl hx) ?_;refine G6 ?_;refine Ci (fun q:Nat×Nat×Cs=>[(0,.pr P 0),(1,nV n),(5,nV q.2.1),(36,slV eWy 2 x.ways),(37,nV x.ways.length),(38,nV q.1)]) (fun q J1'=>q.1<=x.ways.length/\q.2.1<=mxT/\CtS F P aS aT q.2.2 J1'/\(∃E',CI F q.2.2 E')/\q.2.2.1.count 0<f/\Acj (La F f) (x.ways.drop q.1) q.2.1 q.2.2=Acj (La F f) x.ways 0 (c.1.set n 1,c.2)/\nx J1<=nx J1'/\(∀b,b<nx J1->b≠aS->b≠aT->J1'.get b=J1.get b)) (fun q=>x.ways.length-q.1) (0,0,(c.1.set n 1,c.2)) SL ⟨aq_ _,aq_ _,hC1,⟨E,rz⟩,gr,rfl,nl,fun _ _ _ _=>rfl⟩ ?_
   rintro⟨i1,t1,c1⟩ J2 ⟨hi1,ht1,hC2,⟨E2,fv⟩,hc2,hw2,n2,g2⟩;have hi1:i1<=x.ways.length:=hi1;have ht1:t1<=mxT:=ht1;have hC2:CtS F P aS aT c1 J2:=hC2;have fv:CI F c1 E2:=fv;have hc2:c1.1.count 0<f:=hc2;have hw2:Acj (La F f) (x.ways.drop i1) t1 c1=Acj (La F f) x.ways 0 (c.1.set n 1,c.2):=hw2;refine G5 ?_;refine Ab rfl ?_ ?_<;>intro h3
   ·have ry:i1<x.ways.length:=Int.ofNat_lt.1 (of_decide_eq_true h3);obtain⟨w,hwy⟩:=Ar ry;have hwx:=ab_ hwy;have hkl:=hxb.2 w hwx;have hkF:=(hF x hxF w hwx).kid;rw[A4 hwy,Acj]at hw2;refine G5 ?_;refine O1 (A1 elC Gq rfl rfl hwy) (O1 (Ac ldC rfl rfl (A6 (Gq w) _)) (Ho ziC ldC rfl (fun _=>rfl) rfl (A7 (Gq w)) rfl rfl ?_))
    iterate 14 refine G ?_
    refine Ci (fun q:Nat×Nat×Cs=>[(0,.pr P 0),(1,nV n),(5,nV t1),(8,nV q.2.1),(36,slV eWy 2 x.ways),(37,nV x.ways.length),(38,nV i1),(43,slV eN 1 w.kids),(44,nV w.kids.length),(45,nV q.1)]) (fun q J1'=>q.1<=w.kids.length/\q.2.1<=mxT/\CtS F P aS aT q.2.2 J1'/\(∃E',CI F q.2.2 E')/\q.2.2.1.count 0<f/\Ad3 (La F f) (w.kids.drop q.1) q.2.1 q.2.2=Ad3 (La F f) w.kids 1 c1/\nx J1<=nx J1'/\(∀b,b<nx J1->b≠aS->b≠aT->J1'.get b=J1.get b)) (fun q=>w.kids.length-q.1) (0,1,c1) SL ⟨aq_ _,by show 1<=mxT;decide,hC2,⟨E2,fv⟩,hc2,rfl,n2,g2⟩ ?_
    rintro⟨i3,p3,c3⟩ J3 ⟨hi3,hp3,hC3,⟨E3,im⟩,hc3,hk3,n3,g3⟩;have hi3:i3<=w.kids.length:=hi3;have hp3:p3<=mxT:=hp3;have hC3:CtS F P aS aT c3 J3:=hC3;have im:CI F c3 E3:=im;have hc3:c3.1.count 0<f:=hc3;have hk3:Ad3 (La F f) (w.kids.drop i3) p3 c3=Ad3 (La F f) w.kids 1 c1:=hk3;refine G5 ?_;refine Ab rfl ?_ ?_<;>intro h4
    ·have rn:i3<w.kids.length:=Int.ofNat_lt.1 (of_decide_eq_true h4);obtain⟨k,hk⟩:=Ar rn;have hkn:=hkF k (ab_ hk);rw[A4 hk,Ad3]at hk3;refine G5 ?_;refine O1 (A1 elC Ep rfl rfl hk) ?_;refine G8 ?_;refine Az rfl rfl rfl rfl (ih k c3 E3 J3 im hc3 hkn hC3) ?_;intro u4 J4 hR4;obtain⟨b4,rfl⟩:=Alt.bool hR4;obtain⟨n4,g4,hR4⟩:=hR4;refine G2 ?_;cases hcn:La F f k c3 with
     |none=>
      rw[hcn]at hR4 hk3;obtain rfl:=AV.bool.inj hR4;rw[←hk3]at hw2;refine Ab rfl (fun h5=>?_) gr
      refine G4 ?_;refine Bo fun hw9=>?_
      refine G ?_
      exact⟨_,rfl,_,_,a_ hw9 nl (fun _ _=>rfl),by omega,.same rfl,by omega,gr,by rw[hr,←hw2];rfl⟩
     |some c4=>
      rw[hcn]at hR4 hk3;obtain⟨hb4,hC4⟩:=hR4;obtain rfl:=AV.bool.inj hb4;obtain⟨E4,ol,hfr4⟩:=Ap2 hF im hkn hcn;have hkb:=hC4.b k;have hml:=Ast hp3 hkb;refine Ab rfl gr (fun h5=>?_)
      refine G6 ?_;refine O1 (lO hC4.ob) ?_;refine G ?_
      refine O1 (Br elC rfl rfl hkn) (O1 (Dg (tl:=[]) Ep ldC rfl (by rw[bh_];exact hC4.t) (O4 (by rw[ol.l2];exact hkn)) fun _=>rfl) ?_)
      refine O1 (Ant okC rfl rfl Om) ?_;refine O1 (Ahl okC rfl) ?_;refine G6 ?_
      refine⟨(i3+1,min (p3*c4.2.getD k 0) mxT,c4),gr,SL,gr,Nat.min_le_right _ _,hC4,⟨E4,ol⟩,gr,hk3,by omega,gr⟩
    ·have rr:w.kids.length<=i3:=bm_.1 (Int.not_lt.1 (fun q=>of_decide_eq_false h4 q))
     rw[ah_ rr,Ad3]at hk3;rw[←hk3]at hw2
     have hmx:t1+p3<=2000000002:=by have:mxT=1000000001:=rfl;omega
     have hmx1:t1+(i3,p3,c3).2.1<=2000000002:=hmx;have hmx2:(i1,t1,c1).2.1+(i3,p3,c3).2.1<=2000000002:=hmx;refine G4 ?_;refine O1 (D3 okC rfl rfl Om) ?_;refine O1 (Ahl okC rfl) ?_;refine G6 ?_;refine⟨(i1+1,min (t1+p3) mxT,c3),gr,SL,gr,Nat.min_le_right _ _,hC3,⟨E3,im⟩,hc3,hw2,n3,g3⟩
   ·have rt:x.ways.length<=i1:=bm_.1 (Int.not_lt.1 (fun q=>of_decide_eq_false h3 q))
    rw[ah_ rt,Acj]at hw2;rw[←hw2]at hr;have hr:La F (f+1) n c=some (c1.1.set n 2,c1.2.set n t1):=hr;obtain⟨J6,hσ6⟩:∃J6,J2.set aS (.cells ((c1.1.set n 2).flatMap eN++[]))=J6:=⟨_,rfl⟩;have g6:∀b,b≠aS->J6.get b=J2.get b:=gr;obtain⟨J7,hσ7⟩:∃J7,J6.set aT (.cells ((c1.2.set n t1).flatMap eN++[]))=J7:=⟨_,rfl⟩;have g7:∀b,b≠aT->J7.get b=J6.get b:=gr;have n7:nx J7=nx J2:=gr
    have hC7:CtS F P aS aT (c1.1.set n 2,c1.2.set n t1) J7:=by
     refine⟨(g7 P h.ne.2.2).trans ((g6 P h.ne.2.1).trans hC2.ob),(g7 aS h.ne.1).trans gr,gr,h.ne,by rw[n7];exact hC2.lt,fun m=>?_⟩
     show(c1.2.set n t1).getD m 0<=mxT
     rw[I5 (by rw[fv.l2];exact hn)]
     split
     ·exact ht1
     ·exact hC2.b m
    refine G2 ?_;refine XS (l:=[]) trivial ?_;refine G3 ?_;refine DF (lO hC2.ob) ?_;refine G4 ?_;refine DF (lO hC2.ob) ?_;refine G2 ?_
    refine DF (Br elC rfl rfl hn) (DT (Tb (u:=2) (tl:=[]) Ep ldC rfl rfl rfl (by rw[bh_];exact hC2.s) (by rw[fv.l1];exact hn)) ?_)
    rw[hσ6]
    refine DF (Br elC rfl rfl hn) (DT (Tb (u:=t1) (tl:=[]) Ep ldC rfl rfl rfl (by rw[bh_];exact(g6 aT h.ne.1.symm).trans hC2.t) (by rw[fv.l2];exact hn)) ?_)
    refine G ?_;rw[hσ7];refine G4 ?_;refine Bo fun hw9=>?_
    refine G ?_
    exact⟨_,rfl,_,_,a_ hw9 nl (fun _ _=>rfl),by omega,.same rfl,by omega,gr,by rw[hr];exact⟨rfl,hC7⟩⟩
theorem f157{g F}(hF:FOk g F.length F)(hFB:FB F){P aS aT}:∀(f n:Nat) (c:Cs) (E:List Nat) (J:Sto),CI F c E->c.1.count 0<f->n<F.length->CtS F P aS aT c J->Al Ew 157 [.pr P 0,nV n] J (Alt F P aS aT f n c J)
 |0=>fun n c E J _ h=>absurd h (gz_ _)
 |f+1=>f157s hF hFB (f157 hF hFB f)
theorem Tv:∀l:List Nat,Fm l l=true
 |[]=>rfl
 |x::r=>by simp only[Fm,aw_,cond_true,Tv r]
theorem Acw(n):AV.beq (nV n) (nV n)=true:=by
 show(Ed .i64 .i64&&Nat.beq n n)=true
 rw[aw_];rfl
theorem Axr(s):AV.beq (sV s) (sV s)=true:=Tv _
theorem Vq:∀{a b:List AV},AV.beqs a a=true->AV.beqs b b=true->AV.beqs (a++b) (a++b)=true
 |[],b,_,h=>h
 |x::a,b,h,k=>by
  simp only[ay_,AV.beqs,ad_]at h⊢;exact⟨h.1,Vq h.2 k⟩
theorem Afq{α:Type}{enc}(h:∀x,AV.beqs (enc x) (enc x)=true):∀l:List α,AV.beqs (l.flatMap enc) (l.flatMap enc)=true
 |[]=>rfl
 |x::l=>by rw[bs_];exact Vq (h x) (Afq h l)
theorem Ahm{α enc sz}(h:∀x,AV.beqs (enc x) (enc x)=true)(l:List α):AV.beq (slV enc sz l) (slV enc sz l)=true:=by
 show(AV.beqs (l.flatMap enc) (l.flatMap enc)&&Nat.beq sz sz&&Nat.beq l.length l.length&&true)=true
 rw[Afq h,aw_,aw_];rfl
theorem beqs1{x}(h:AV.beq x x=true):AV.beqs [x] [x]=true:=by simp only[AV.beqs,h,be_]
theorem Asu(w):AV.beqs (eWy w) (eWy w)=true:=by
 have:=Ahm (enc:=eN) (sz:=1) (fun n=>beqs1 (Acw n)) w.kids
 simp only[eWy,AV.beqs,Acw,this,be_]
theorem Asv(x):AV.beqs (eNd x) (eNd x)=true:=by
 have:=Ahm (sz:=2) Asu x.ways;simp only[eNd,AV.beqs,Acw,Axr,this,be_]
theorem Asw{a s n c}:AV.beq (.sr a 0 s n c) (.sr a 0 s n c)=true:=by
 have hc:Af8 c c=true:=by
  cases c with
  |none=>rfl
  |some x=>exact aw_ x
 show(Nat.beq a a&&Nat.beq 0 0&&Nat.beq s s&&Nat.beq n n&&Af8 c c)=true
 rw[hc,aw_,aw_,aw_,aw_];rfl
def Lb:List Oper->List AV->Ad->Nat->Ad
 |_,_,ρ,0=>ρ
 |o::r,v::vs,ρ,k+1=>Lb r vs (Dt o.dst v ρ) k
 |_,_,ρ,_=>ρ
theorem Vr{nt}:∀{ops:List Oper} {vl:List AV} {ρ:Ad} {tm:Tr AV},Has tm ρ->ops.length=vl.length->ops.all (fun o=>B0 nt o.dst)=true->∃tl,Adi nt ops vl tm=some tl/\∀k,k<=ops.length->Has (tl.getD k .e) (Lb ops vl ρ k)
  |[],[],ρ,tm,h,_,_=>⟨[tm],rfl,fun k hk=>by cases (show k=0 by simpa using hk);exact h⟩
  |o::r,v::vs,ρ,tm,h,hl,hd=>by
    simp only[cs_,ad_]at hd;obtain⟨tm',h1,h2⟩:=C6 (dst:=o.dst) hd.1 h v
    obtain⟨tl,h3,h4⟩:=Vr (vl:=vs) h2 (by simpa using hl) hd.2
    refine⟨tm::tl,by simp only[Adi,h1,h3],fun k hk=>?_⟩
    cases k with
    |zero=>exact h
    |succ k=>exact h4 k (by simpa using hk)
  |[],_::_,_,_,_,h,_=>by simp at h
  |_::_,[],_,_,_,h,_=>by simp at h
def Vs(n:Nat)(b es:List Nat)(x:Nd×List Nat):Bool:=
 (es.all fun e=>x.1.D.contains e|| !Sz b es x.1.D e||x.2.contains e)&&
 (List.range n).all fun k=>x.1.D.contains k|| !Sz b es x.1.D k||Aeb b x.1.aC k
theorem Ajx{E ops R T V b es x}(h:Vs ops.length b es x=true)(hc:∀k,k<ops.length->es.contains k=false->Lp E ops R T V x.1.J k=true):Hm E ops R T V b es x=true:=by
 unfold Vs at h;unfold Hm;rw[ad_]at h⊢;refine⟨h.1,?_⟩;rw[b_];intro k hk;have h2:=(b_.1 h.2) k hk;have hk':k<ops.length:=cw_.1 hk;cases he:es.contains k with
 |true=>simpa using h2
 |false=>rw[hc k hk' he];simpa using h2
theorem Axs{E nt B df Q ρ J J' id ops}(vl)(hm:E.P.follows .mixedOrders=true)(hl:ops.toList.length=vl.length)(hd:ops.toList.all (fun o=>B0 nt o.dst)=true)(hcl:(Eu ops (Region.before ops).toList&&Fo ops)=true)
  (hc:∀(tl:List (Tr AV)),(∀k,k<=ops.toList.length->Has (tl.getD k .e) (Lb ops.toList vl ρ k))->∃nl nf,Ne E ops.toList (fun _ _ _=>none) (fun k=>tl.getD k .e) (fun k=>vl.getD k .any) (Region.before ops).toList (A8 E ops.toList 0) [] J=some (nl,nf)/\nf.J=J'/\(∀k U,k<ops.toList.length->(A8 E ops.toList 0).contains k=false->Lp E ops.toList (fun _ _ _=>none) (fun k=>tl.getD k .e) (fun k=>vl.getD k .any) U k=true)/\(nl++[(nf,[])]).all (Vs ops.toList.length (Region.before ops).toList (A8 E ops.toList 0))=true/\(nl.all fun x=>(A8 E ops.toList 0).any fun e=> !x.1.D.contains e)=true)
  (k:Q .normal (Lb ops.toList vl ρ ops.toList.length) J'):T E nt df B (.region id ops true) Q ρ J:=by
 intro ro n hro C w tm a ht st hB;obtain⟨tl,h1,h2⟩:=Vr (nt:=nt) ht hl hd;obtain⟨nl,nf,h3,h4,h5,h6,h7⟩:=hc tl h2
 have hp:Rd E ops (fun _ _ _=>none) ⟨tm,nt,df,J⟩ vl=some ⟨tl.getD ops.size .e,nt,df,nf.J⟩:=by
  unfold Rd;simp only[h1,hcl,h3];rw[h7]
  have:(nl++[(nf,[])]).all (Hm E ops.toList (fun _ _ _=>none) (fun k=>tl.getD k .e) (fun k=>vl.getD k .any) (Region.before ops).toList (A8 E ops.toList 0))=true:=by
   rw[b_]at h6⊢;exact fun x hx=>Ajx (h6 x hx) fun k hk he=>h5 k _ hk he
  rw[this];rfl
 refine wpIn_mono (Ss hm di_ st hp) fun e a' w' he=>?_
 obtain⟨y,hy,C',g1,g2,g3⟩:=he;rw[ao_]at hy;subst hy
 have hsz:ops.size=ops.toList.length:=by simp
 refine⟨.normal,_,_,nf.J,C',g1,h2 _ (ef_ hsz),?_,g2,ai_ hB g3.next,g3.base hB⟩;rw[hsz,h4];exact k
theorem Ahn{E ops R T V J U k o ρ v}(ho:ops[k]? =some o)(hg:o.guard=none)(ht:Has (T k) ρ)(hv:V k=v)(hb:AV.beq v v=true)(h:As E R o.op ρ J v U):Lp E ops R T V J k=true:=by
 unfold Lp
 have hgd:Bn ops o (T k)=some true:=by unfold Bn;rw[hg]
 simp only[ho,hgd,h (T k) ht,hv,hb]
theorem O5{E ops R o ρ tm J U v}(hg:o.guard=none)(ht:Has tm ρ)(h:As E R o.op ρ J v U):Ahv E ops R o tm J=some (v,U):=by
 unfold Ahv
 have hgd:Bn ops o tm=some true:=by unfold Bn;rw[hg]
 simp only[hgd,h tm ht]
theorem Au4{E nt B df Q ρ J σi σj σf id ops}(vl i j e){oi oj oe}{t x y t' x' y'}{s1 l1 s2 l2 c1 c2 A A' ve}(hm:E.P.follows .mixedOrders=true)(hl:ops.toList.length=vl.length)(hd:ops.toList.all (fun o=>B0 nt o.dst)=true)(hcl:(Eu ops (Region.before ops).toList&&Fo ops)=true)
  (hes:A8 E ops.toList 0=[i,j,e])(hoi:ops.toList[i]? =some oi)(hoj:ops.toList[j]? =some oj)(hoe:ops.toList[e]? =some oe)(hb:((Region.before ops).toList.getD j 0).testBit i=false)
  (hmi:oi.op=.makeSlice t x y)(hmj:oj.op=.makeSlice t' x' y')(hgi:oi.guard=none)(hgj:oj.guard=none)(hge:oe.guard=none)(hij:Nat.beq i j=false)(hil:i<=ops.toList.length)(hjl:j<=ops.toList.length)(hel:e<=ops.toList.length)
  (h1:As E (fun _ _ _=>none) oi.op (Lb ops.toList vl ρ i) J (.sr (nx J) 0 s1 l1 c1) σi)(h2:As E (fun _ _ _=>none) oj.op (Lb ops.toList vl ρ j) J (.sr (nx J) 0 s2 l2 c2) σj)(gi:σi.get (nx J)=some (.cells A))(gj:σj.get (nx J)=some (.cells A'))
  (hvi:vl.getD i .any=.sr (nx J+2) 0 s1 l1 c1)(hvj:vl.getD j .any=.sr (nx J+3) 0 s2 l2 c2)
  (h3:As E (fun _ _ _=>none) oe.op (Lb ops.toList vl ρ e) (((((σi.new (.cells A')).kill (nx J)).kill (nx J+1)).new (.cells A)).new (.cells A')) ve σf)(hve:vl.getD e .any=ve)(hbe:AV.beq ve ve=true)
  (cy:∀k,k<ops.toList.length->([i,j,e]:List Nat).contains k=false->∀U:Sto,∃o v U',ops.toList[k]? =some o/\o.guard=none/\As E (fun _ _ _=>none) o.op (Lb ops.toList vl ρ k) U v U'/\vl.getD k .any=v/\AV.beq v v=true)
  (dc:∀(v1 v2:AV) (s1 s2 s3 s4 s5:Sto),([((⟨[],s1,[]⟩:Nd),[i,j]),(⟨[i],s2,[(i,v1)]⟩,[j]),(⟨[j],s3,[(j,v2)]⟩,[i]),(⟨[j,i],s4,[]⟩,[e]),(⟨[e,j,i],s5,[]⟩,[])]:NL).all (Vs ops.toList.length (Region.before ops).toList [i,j,e])=true)
  (cw:∀(v1 v2:AV) (s1 s2 s3 s4:Sto),(([((⟨[],s1,[]⟩:Nd),[i,j]),(⟨[i],s2,[(i,v1)]⟩,[j]),(⟨[j],s3,[(j,v2)]⟩,[i]),(⟨[j,i],s4,[]⟩,[e])]:NL).all fun x=>([i,j,e]:List Nat).any fun e=> !x.1.D.contains e)=true)
  (k:Q .normal (Lb ops.toList vl ρ ops.toList.length) σf):T E nt df B (.region id ops true) Q ρ J:=by
 refine Axs vl hm hl hd hcl (fun tl hT=>?_) k
 rw[hes];have e1:=O5 (ops:=ops.toList) hgi (hT i hil) h1;have e2:=O5 (ops:=ops.toList) hgj (hT j hjl) h2;have e3:=O5 (ops:=ops.toList) hge (hT e hel) h3
 have ip:N2 E ops.toList (fun _ _ _=>none) (fun k=>tl.getD k .e) (fun k=>vl.getD k .any) i j [] J=some ([(⟨[],J,[]⟩,[i,j]),(⟨[i],σi,[(i,.sr (nx J) 0 s1 l1 c1)]⟩,[j]),(⟨[j],σj,[(j,.sr (nx J) 0 s2 l2 c2)]⟩,[i])],((((σi.new (.cells A')).kill (nx J)).kill (nx J+1)).new (.cells A)).new (.cells A')):=by
  unfold N2;simp only[hoi,hoj,e1,e2,hmi,hmj,gi,gj,hvi,hvj,hij,Asw,fc_,be_,cond_true]
 have hch:Ps E ops.toList (fun _ _ _=>none) (fun k=>tl.getD k .e) (fun k=>vl.getD k .any) e (((((σi.new (.cells A')).kill (nx J)).kill (nx J+1)).new (.cells A)).new (.cells A'))=some σf:=by
  unfold Ps;simp only[hoe,e3,hve,hbe,cond_true]
 refine⟨[(⟨[],J,[]⟩,[i,j]),(⟨[i],σi,[(i,.sr (nx J) 0 s1 l1 c1)]⟩,[j]),(⟨[j],σj,[(j,.sr (nx J) 0 s2 l2 c2)]⟩,[i]),(⟨[j,i],((((σi.new (.cells A')).kill (nx J)).kill (nx J+1)).new (.cells A)).new (.cells A'),[]⟩,[e])],⟨[e,j,i],σf,[]⟩,?_,rfl,fun k U hk hc=>?_,dc _ _ _ _ _ _ _,cw _ _ _ _ _ _⟩
 ·simp only[Ne,hb,ip,hch]
  rfl
 ·obtain⟨o,v,U',q1,q2,q3,q4,q5⟩:=cy k hk hc U;exact Ahn q1 q2 (hT k (gb_ hk)) q4 q5 q3
def ctV(F:List Nde)(c:Cs):AV:=.pv [slV eNd 4 F,slV eN 1 c.1,slV eN 1 c.2]
theorem Asx(n):rep [.int .i64 0] n=(List.replicate n 0).flatMap eN:=by
 induction n with
 |zero=>rfl
 |succ n ih=>rw[List.replicate_succ,bs_,←ih];rfl
theorem Anu{J U a n cap l}(h:J.get a=some (.cells (l.flatMap eN)))(hl:l.length=n)(hτ:U.get a=none):Fz J U (.sr a 0 1 n cap) (slV eN 1 l):=by
 subst hl
 have b9:Dr (l.length*1) ((l.flatMap eN).drop 0)=some (l.flatMap eN):=by
  have:=D0 (l:=l.flatMap eN) (r:=[]);rw[Dl Ep,bh_]at this;exact this
 exact .sr h hτ b9 (dj_ (A2 Ajp _))
theorem Ajy{F}:CI F (List.replicate F.length 0,List.replicate F.length 0) []:=by
 have h0:∀n,(List.replicate F.length 0).getD n 0=0:=gr
 refine⟨by simp,by simp,by simp,gr,fun n=>?_,gr⟩
 grind
theorem Aho{g F}(hF:FOk g F.length F)(h0:0<F.length){c}(h:Yx F=some c):∃E,CI F c E/\0∈E:=by
 obtain⟨E,h1,h2⟩:=Z5 hF _ 0 _ [] c Ajy h0 h;exact⟨E,h1.ci,h2⟩
theorem Ajz{g F}(hF:FOk g F.length F)(h0:0<F.length){c}(h:Yx F=some c):c.1.length=F.length/\c.2.length=F.length:=by
 obtain⟨E,h1,_⟩:=Aho hF h0 h;exact⟨h1.l1,h1.l2⟩
def cntV(F:List Nde):AV:=match Yx F with
 |some c=>.tup [ctV F c,iV 0]
 |none=>.tup [.nil (.pointer none),iV 161]
theorem f122{g F}(hF:FOk g F.length F)(hFB:FB F)(h0:0<F.length)(J):Cv 122 [fV F] J (cntV F):=by
 unfold cntV;refine Aj Tryz.func122 rfl rfl fun hw hu0=>?_
 iterate 14 refine G ?_
 refine Ab rfl ?_ ?_<;>intro h1
 ·grind
 ·skip
  refine G10 ?_;refine Bz F.length (fun i0=>[(1,.pv [slV eNd 4 F]),(16,slV eNd 4 F),(17,nV F.length),(18,nV i0)]) (fun i0 J0=>J0=J) SL rfl ?_
  rintro i0 J0 hi0 hq0;subst hq0;refine G5 ?_;refine Ab rfl ?_ ?_<;>intro h2
  ·have bc:i0<F.length:=Int.ofNat_lt.1 (of_decide_eq_true h2);have hFB1:=hFB.1;obtain⟨x,hx⟩:=Ar bc;have hxF:=ab_ hx;have hxb:=hFB.2 x hxF;refine G5 ?_;refine O1 (A1 elC Mw rfl rfl hx) (O1 (Ac ldC rfl rfl (A6 (Mw x) _)) (Ho ziC ldC rfl (fun _=>rfl) rfl (A7 (Mw x)) rfl rfl ?_))
   refine G9 ?_;refine Bz x.ways.length (fun i2=>[(1,.pv [slV eNd 4 F]),(16,slV eNd 4 F),(17,nV F.length),(18,nV i0),(23,slV eWy 2 x.ways),(24,nV x.ways.length),(25,nV i2)]) (fun i2 J2=>J2=J0) SL rfl ?_
   rintro i2 J2 hi2 hq2;subst hq2;refine G5 ?_;refine Ab rfl ?_ ?_<;>intro h3
   ·have bv:i2<x.ways.length:=Int.ofNat_lt.1 (of_decide_eq_true h3);obtain⟨w,hwy⟩:=Ar bv;have hwx:=ab_ hwy;have hkl:=hxb.2 w hwx;refine G5 ?_;refine O1 (A1 elC Gq rfl rfl hwy) (O1 (Ac ldC rfl rfl (A6 (Gq w) _)) (Ho ziC ldC rfl (fun _=>rfl) rfl (A7 (Gq w)) rfl rfl ?_))
    refine G9 ?_;refine Bz w.kids.length (fun i4=>[(1,.pv [slV eNd 4 F]),(16,slV eNd 4 F),(17,nV F.length),(18,nV i0),(23,slV eWy 2 x.ways),(24,nV x.ways.length),(25,nV i2),(30,slV eN 1 w.kids),(31,nV w.kids.length),(32,nV i4)]) (fun i4 J4=>J4=J2) SL rfl ?_
    rintro i4 J4 hi4 hq4;subst hq4;refine G5 ?_;refine Ab rfl ?_ ?_<;>intro h4
    ·have dy:i4<w.kids.length:=Int.ofNat_lt.1 (of_decide_eq_true h4);obtain⟨k,hk⟩:=Ar dy;have hkn:=(hF x hxF w hwx).kid k (ab_ hk);refine G5 ?_;refine O1 (A1 elC Ep rfl rfl hk) ?_;refine G8 ?_;refine TOr 5 ?_ (fun hg=>?_) ?_
     rotate_left
     ·iterate 5 refine Gn hg ?_
      exact Ez
     refine G ?_;refine Ab rfl ?_ ?_<;>intro h5
     ·grind
     ·skip
      refine G5 ?_;refine⟨dy,SL,rfl⟩
    ·skip
     refine G5 ?_;refine⟨bv,SL,rfl⟩
   ·skip
    refine G5 ?_;refine⟨bc,SL,rfl⟩
  ·skip
   refine G2 ?_;obtain⟨vl,hvl⟩:∃vl:List AV,[fV F,.pv [slV eNd 4 F],slV eNd 4 F,nV F.length,.sr (nx J0+2) 0 1 F.length (some F.length),.pv [slV eNd 4 F],slV eNd 4 F,nV F.length,.sr (nx J0+3) 0 1 F.length (some F.length),.agg [slV eNd 4 F,.sr (nx J0+2) 0 1 F.length (some F.length),.sr (nx J0+3) 0 1 F.length (some F.length)],.pr (nx J0+4) 0,.pr (nx J0+4) 0]=vl:=⟨_,rfl⟩;have hbF:AV.beq (slV eNd 4 F) (slV eNd 4 F)=true:=Ahm Asv F
   have hbp:AV.beq (.pr (nx J0+4) 0) (.pr (nx J0+4) 0)=true:=by
    show(Nat.beq _ _&&Nat.beq 0 0)=true
    rw[aw_];rfl
   have bn:F.length*(8+1)<=sizeLim:=by simp only[sizeLim];have:=hFB.1;omega
   refine Au4 [fV F,.pv [slV eNd 4 F],slV eNd 4 F,nV F.length,.sr (nx J0+2) 0 1 F.length (some F.length),.pv [slV eNd 4 F],slV eNd 4 F,nV F.length,.sr (nx J0+3) 0 1 F.length (some F.length),.agg [slV eNd 4 F,.sr (nx J0+2) 0 1 F.length (some F.length),.sr (nx J0+3) 0 1 F.length (some F.length)],.pr (nx J0+4) 0,.pr (nx J0+4) 0] 4 8 10 Di rfl rfl Kr Kr rfl rfl rfl Kr rfl rfl rfl rfl rfl rfl (by decide) (by decide) (by decide) (O3 (n:=F.length) elC rfl rfl bn) (O3 (n:=F.length) elC rfl rfl bn) (by rw[ag_,if_pos rfl]) (by rw[ag_,if_pos rfl]) rfl rfl (Q0 (n:=nx J0+4) (cs:=[slV eNd 4 F,.sr (nx J0+2) 0 1 F.length (some F.length),.sr (nx J0+3) 0 1 F.length (some F.length)]) ldC rfl rfl (by rw[Ao,Ao,B3,B3,Ao,Ao])) rfl hbp ?_ (fun _ _ _ _ _ _ _=>by kernel_rfl) (fun _ _ _ _ _ _=>by kernel_rfl) ?_
   ·intro k hk hc U
    match k,hk,hc with
    |0,_,_=>exact⟨_,_,_,rfl,rfl,Ac (ldC (t:=147)) rfl rfl rfl,rfl,by simp only[AV.beq,AV.beqs,hbF,be_]⟩
    |1,_,_=>exact⟨_,_,_,rfl,rfl,Ae (fdC (t:=147) (i:=0)) rfl rfl,rfl,by simp only[AV.beq,AV.beqs,db_,hbF,be_]⟩
    |2,_,_=>exact⟨_,_,_,rfl,rfl,Ac (ldC (t:=145)) rfl rfl rfl,rfl,hbF⟩
    |3,_,_=>exact⟨_,_,_,rfl,rfl,Jl (slC (t:=145)) rfl,rfl,Acw _⟩
    |4,_,h=>cases h
    |5,_,_=>exact⟨_,_,_,rfl,rfl,Ae (fdC (t:=147) (i:=0)) rfl rfl,rfl,by simp only[AV.beq,AV.beqs,db_,hbF,be_]⟩
    |6,_,_=>exact⟨_,_,_,rfl,rfl,Ac (ldC (t:=145)) rfl rfl rfl,rfl,hbF⟩
    |7,_,_=>exact⟨_,_,_,rfl,rfl,Jl (slC (t:=145)) rfl,rfl,Acw _⟩
    |8,_,h=>cases h
    |9,_,_=>exact⟨_,_,_,rfl,rfl,Ut (bdC (t:=250)) rfl rfl,rfl,by simp only[AV.beq,AV.beqs,hbF,aw_,Af8,be_]⟩
    |10,_,h=>cases h
    |11,_,_=>exact⟨_,_,_,rfl,rfl,Gd rfl,rfl,hbp⟩
    |k+12,hk,_=>exact absurd hk (by simp)
   obtain⟨J5,hσ5⟩:∃J5,((((((J0.new (.cells (rep [.int .i64 0] F.length))).new (.cells (rep [.int .i64 0] F.length))).kill (nx J0)).kill (nx J0+1)).new (.cells (rep [.int .i64 0] F.length))).new (.cells (rep [.int .i64 0] F.length))).new (.cells [slV eNd 4 F,.sr (nx J0+2) 0 1 F.length (some F.length),.sr (nx J0+3) 0 1 F.length (some F.length)])=J5:=⟨_,rfl⟩;rw[hσ5]
   have n5:nx J5=nx J0+5:=by rw[←hσ5];simp only[Ao,B3]
   have hC5:CtS F (nx J0+4) (nx J0+2) (nx J0+3) (List.replicate F.length 0,List.replicate F.length 0) J5:=by
    refine⟨?_,?_,?_,by omega,by omega,fun m=>?_⟩
    ·grind
    ·rw[←hσ5,ag_,if_neg gr,ag_,if_neg gr,ag_,if_pos gr,Asx]
    ·rw[←hσ5,ag_,if_neg gr,ag_,if_pos gr,Asx]
    grind
   have g5:∀b,b<nx J0->J5.get b=J0.get b:=gr;refine G4 ?_;refine Az rfl rfl rfl rfl (f157 hF hFB (F.length+1) 0 (List.replicate F.length 0,List.replicate F.length 0) [] J5 Ajy gr h0 hC5) ?_;intro u6 J6 hR6;obtain⟨b6,rfl⟩:=Alt.bool hR6;obtain⟨n6,g6,hR6⟩:=hR6
   have hBe:Below (nx J0) J0 J6:=⟨by omega,gr⟩
   refine G2 ?_;have hcf:Yx F=La F (F.length+1) 0 (List.replicate F.length 0,List.replicate F.length 0):=rfl;rw[←hcf]at hR6;cases hcn:Yx F with
   |none=>
    rw[hcn]at hR6;obtain rfl:=AV.bool.inj hR6;refine Ab rfl (fun h5=>?_) gr
    refine G6 ?_;exact⟨_,rfl,_,J0,am_ hw hBe,nl,.same rfl,rfl,rfl⟩
   |some c=>
    rw[hcn]at hR6;obtain⟨hb6,hC6⟩:=hR6;obtain rfl:=AV.bool.inj hb6;obtain⟨hl1,hl2⟩:=Ajz hF h0 hcn;refine Ab rfl gr (fun h5=>?_)
    refine G8 ?_;refine⟨_,rfl,.tup [ctV F c,iV 0],J0,am_ hw hBe,nl,.tup (.cons (.pr hC6.ob (hw.none Om) (.cons (.same (Fv Vp F)) (.cons (Anu hC6.s hl1 (hw.none Om)) (.cons (Anu hC6.t hl2 (hw.none Om)) .nil)))) (.cons (.same rfl) .nil)),rfl,rfl⟩
def Ad4(F:List Nde):Nat×Int:=match Yx F with
 |none=>(0,161)
 |some c=>if 1000000000<c.2.getD 0 0 then(0,15)else(c.2.getD 0 0,0)
theorem f69{g F}(hF:FOk g F.length F)(hFB:FB F)(h0:0<F.length)(J):Cv 69 [fV F] J (.tup [nV (Ad4 F).1,iV (Ad4 F).2]):=by
 refine Aj Tryz.func69 rfl rfl fun hw hu0=>?_
 refine G9 ?_;refine Ca (f122 hF hFB h0 J) ?_;unfold cntV;cases hc:Yx F with
 |none=>
  iterate 14 refine G ?_
  refine Ab rfl (fun h1=>?_) gr
  refine G7 ?_
  exact⟨_,rfl,_,J,a_ hw nl (fun _ _=>rfl),nl,.same rfl,by unfold Ad4;rw[hc];rfl,rfl⟩
 |some c=>
  have hat:=O4 (l:=c.2) (i:=0) (by rw[(Ajz hF h0 hc).2];exact h0)
  iterate 14 refine G ?_
  refine Ab rfl gr (fun h1=>?_)
  refine G6 ?_;refine O1 (A1 elC Ep rfl rfl hat) ?_;refine G4 ?_;refine Ab rfl ?_ ?_<;>intro h2
  ·have hgt:1000000000<c.2.getD 0 0:=Int.ofNat_lt.1 (of_decide_eq_true h2);refine G6 ?_
   exact⟨_,rfl,_,J,a_ hw nl (fun _ _=>rfl),nl,.same rfl,by unfold Ad4;rw[hc];simp only[if_pos hgt];rfl,rfl⟩
  ·have hgt:¬1000000000<c.2.getD 0 0:=fun q=>of_decide_eq_false h2 (Int.ofNat_lt.2 q)
   refine G7 ?_;refine O1 (A1 elC Ep rfl rfl hat) ?_;refine G5 ?_
   exact⟨_,rfl,_,J,a_ hw nl (fun _ _=>rfl),nl,.same rfl,by unfold Ad4;rw[hc];simp only[if_neg hgt];rfl,rfl⟩
def lV(g:Gr)(F:List Nde)(c:Cs):AV:=.pv [ctV F c,Af g.sorts,slV eR 4 g.rules]
theorem f158{g F c w}(hl:w.kids.length<=1000000)(hk:∀k∈w.kids,k<c.2.length/\c.2.getD k 0<=mxT)(J):Cv 158 [lV g F c,.agg (eWy w)] J (nV (Gp c.2 w)):=by
 refine Aj Tryz.func158 rfl rfl fun hw hu0=>?_
 iterate 18 refine G ?_
 refine Ci (fun q:Nat×Nat=>[(0,lV g F c),(5,nV q.2),(9,slV eN 1 w.kids),(10,nV w.kids.length),(11,nV q.1)]) (fun q J0=>J0=J/\q.1<=w.kids.length/\q.2<=mxT/\(w.kids.drop q.1).foldl (fun n k=>min (n*c.2.getD k 0) mxT) q.2=Gp c.2 w) (fun q=>w.kids.length-q.1) (0,1) SL ⟨rfl,aq_ _,by show 1<=mxT;decide,rfl⟩ ?_
 rintro⟨i0,p0⟩ J0 ⟨rfl,hi0,hp0,hq0⟩;have hi0:i0<=w.kids.length:=hi0;have hp0:p0<=mxT:=hp0;have hq0:(w.kids.drop i0).foldl (fun n k=>min (n*c.2.getD k 0) mxT) p0=Gp c.2 w:=hq0
 refine G5 ?_;refine Ab rfl ?_ ?_<;>intro h1
 ·have bc:i0<w.kids.length:=Int.ofNat_lt.1 (of_decide_eq_true h1);obtain⟨k,hkk⟩:=Ar bc;obtain⟨hk1,hk2⟩:=hk k (ab_ hkk);have hml:=Ast hp0 hk2;rw[A4 hkk,ct_]at hq0;refine G5 ?_;refine O1 (A1 elC Ep rfl rfl hkk) ?_
  iterate 13 refine G ?_
  refine O1 (A1 elC Ep rfl rfl (O4 hk1)) ?_;refine G ?_;refine O1 (Ant okC rfl rfl hml) (O1 (Ahl okC rfl) ?_);refine G6 ?_;refine⟨(i0+1,min (p0*c.2.getD k 0) mxT),gr,SL,rfl,gr,Nat.min_le_right _ _,hq0⟩
 ·have bj:w.kids.length<=i0:=bm_.1 (Int.not_lt.1 (fun q=>of_decide_eq_false h1 q))
  rw[ah_ bj,List.foldl_nil]at hq0;refine G7 ?_;exact⟨_,rfl,_,_,a_ hw nl (fun _ _=>rfl),nl,.same rfl,congrArg nV hq0,rfl⟩
inductive KB:Ax->Prop
 |node {l:Str} {ks:List Ax}:ks.length<=100000->(∀k∈ks,KB k)->KB (.node l ks)
theorem f125{t}(h:KB t):∀J:Sto,Cv 125 [En t] J (En t):=by
 induction h with
 |@node l ks hl hk ih=>
  intro J;rw[En,Cl];refine Aj Tryz.func125 rfl rfl fun hw hu0=>?_
  refine G3 ?_;refine O1 (Bu ziC) ?_;refine G6 ?_
  refine O1 (Bj (n:=nx J+1) ziC (by rw[Ao])) ?_
  refine O1 (sO (a:=nx J+1) (off:=0) (cs:=[.str [],nS]) (cs':=[sV l,nS]) gr) ?_;refine G ?_;obtain⟨J1,hσ1⟩:∃J1,((J.new (.cells [.str [],nS])).new (.cells [.str [],nS])).set (nx J+1) (.cells [sV l,nS])=J1:=⟨_,rfl⟩;rw[hσ1];have n1:nx J1=nx J+2:=gr;have g1:∀b,b<nx J->J1.get b=J.get b:=gr;have r1:J1.get (nx J)=some (.cells [.str [],nS]):=gr;have o1:J1.get (nx J+1)=some (.cells [sV l,nS]):=gr;refine G9 ?_
  refine Bz ks.length (fun i0=>[(2,.pr (nx J) 0),(3,.pr (nx J+1) 0),(10,slV eT 2 ks),(11,nV ks.length),(12,nV i0)]) (fun i0 J0=>∃v,J0.get (nx J)=some (.cells [.str [],nS])/\J0.get (nx J+1)=some (.cells [sV l,v])/\Own J0 (nx J+2) eT 2 (ks.take i0) v/\nx J+2<=nx J0/\∀b,b<nx J->J0.get b=J.get b) SL ⟨_,r1,o1,.nil,by omega,g1⟩ ?_
  rintro i0 J0 hi0 ⟨v,hr0,ho0,bf,n0,g0⟩;refine G5 ?_;refine Ab rfl ?_ ?_<;>intro h1
  ·have bc:i0<ks.length:=Int.ofNat_lt.1 (of_decide_eq_true h1);obtain⟨k,hkk⟩:=Ar bc
   obtain⟨lk,kk,rfl⟩:∃lk kk,k=.node lk kk:=by cases k;grind
   have hek:eT (.node lk kk)=[sV lk,slV eT 2 kk]:=Cl lk kk;have ht1:=List.take_add_one (l:=ks) (i:=i0);rw[hkk]at ht1
   obtain⟨J2,hap,n2,bw,g2⟩:=dn_ (by':=40) Dh Om bf (.node lk kk) (by simp only[sizeLim,cb_];omega)
   rw[cb_,du_ Om,hek]at hap;rw[cb_,du_ Om]at bw;have hc2:=ih _ (ab_ hkk) J0;rw[En,hek]at hc2;obtain⟨J3,hσ3⟩:∃J3,J2.set (nx J+1) (.cells [sV l,.sr (nx J0) 0 2 (i0+1) none])=J3:=⟨_,rfl⟩
   have ho2:J2.get (nx J+1)=some (.cells [sV l,v]):=(g2 _ Om (fun e=>by have:=(bf.adr_lt e).1;omega)).trans ho0
   have hr2:J2.get (nx J)=some (.cells [.str [],nS]):=(g2 _ Om (fun e=>by have:=(bf.adr_lt e).1;omega)).trans hr0
   refine G5 ?_
   refine O1 (A1 elC Dh rfl rfl hkk) (O1 (Ac ldC rfl rfl (show Cz 2 true (eT (Ax.node lk kk)++_)=some (.agg [sV lk,slV eT 2 kk])from by rw[←hek];exact A6 (Dh _) _)) ?_)
   refine G2 ?_;refine XX 1 (l:=[(125,[.agg [sV lk,slV eT 2 kk]],J0,.agg [sV lk,slV eT 2 kk],J0)]) ⟨hc2,trivial⟩ ?_;refine G ?_;refine DF (lO ho0) ?_;refine G2 ?_;refine DF (Ai elC byW rfl rfl rfl) (DT (Av elC rfl slC rfl rfl rfl (new:=[sV lk,slV eT 2 kk]) rfl hap) ?_);refine G ?_;refine DT (sO (cs':=[sV l,.sr (nx J0) 0 2 (i0+1) none]) ho2) ?_;refine G ?_;rw[hσ3]
   refine⟨(by intro e he;simp at he;rcases he with rfl|rfl<;>exact .refl),?_⟩
   refine G4 ?_
   refine⟨bc,SL,_,gr,by rw[←hσ3,aa_,if_pos rfl],by rw[ht1];exact bw.of_get gr (fun b q=>by rw[←hσ3,aa_,if_neg (by have:=(bw.adr_lt q).1;omega)]),gr,fun b hb=>by rw[←hσ3,aa_,if_neg Om,g2 _ Om (fun e=>by have:=(bf.adr_lt e).1;omega)];exact g0 b hb⟩
  ·have bj:ks.length<=i0:=bm_.1 (Int.not_lt.1 (fun q=>of_decide_eq_false h1 q))
   rw[at_ bj]at bf;refine G3 ?_;refine O1 (lO ho0) (O1 (sO (cs':=[sV l,v]) hr0) ?_);refine G ?_;refine Bo fun hw9=>?_
   refine G ?_
   exact⟨[.agg [sV l,v]],Am (vs:=[sV l,v]) (ldC (t:=39)) rfl (by simp only[Sto.cells];grind) rfl rfl,_,J,am_ hw ⟨gr,gr⟩,nl,.agg (.cons (.same rfl) (.cons (Own.fz Dh (bf.of_get gr (fun b q=>by rw[aa_,if_neg (by have:=(bf.adr_lt q).1;omega)])) (fun a ha=>hw.none Om) (by rw[←No];exact Jq _)) .nil)),rfl,rfl⟩
section
mutual
theorem Alu:∀(t:Ax) (lv:Nat),dpT t (lv+1)=dpT t lv+1
 |.node _ ks,lv=>by unfold dpT;exact Asy ks (lv+1) lv
theorem Asy:∀(l:List Ax) (lv d:Nat),dpL l (lv+1) (d+1)=dpL l lv d+1
 |[],_,_=>rfl
 |t::r,lv,d=>by
  unfold dpL
  rw[Alu t lv,show max (d+1) (dpT t lv+1)=max d (dpT t lv)+1 by omega,Asy r lv]
end
theorem Anv:∀(l:List Ax) (lv a b:Nat),dpL l lv (max a b)=max (dpL l lv a) b
 |[],_,_,_=>rfl
 |t::r,lv,a,b=>by
  unfold dpL
  rw[show max (max a b) (dpT t lv)=max (max a (dpT t lv)) b by omega,Anv r lv]
def msN(t:Ax):Nat:=min (M6 t) 4001
def msD(t:Ax):Nat:=dpT t 1
def msC(t:Ax):List AV:=[nV (msN t),nV (msD t),.bool true]
def msV(t:Ax):AV:=.agg (msC t)
theorem Asz{l}:msN (.node l [])=1/\msD (.node l [])=1:=⟨by unfold msN M6 Ach;rfl,by unfold msD dpT dpL;rfl⟩
theorem As0{l k r}:msN (.node l (k::r))=min (msN (.node l r)+msN k) 4001:=by
 unfold msN;rw[M6,Ach,M6];omega
theorem As1{l k r}:msD (.node l (k::r))=max (msD (.node l r)) (msD k+1):=by
 unfold msD;rw[dpT,dpL,dpT,Anv,Alu]
theorem As2(t):msN t<=4001:=Nat.min_le_right _ _
theorem Au5{tr ws}:App tr ws<=mxT:=by
 have:∀(l:List Wy) (t:Nat),t<=mxT->l.foldl (fun t w=>min (t+Gp tr w) mxT) t<=mxT:=by
  intro l
  induction l with
  |nil=>exact fun t h=>h
  |cons w l ih=>exact fun t _=>ih _ (Nat.min_le_right _ _)
 exact this ws 0 (aq_ _)
structure Lst (g:Gr)(F:List Nde)(c:Cs)(E:List Nat):Prop where
 ok:FOk g F.length F
 fb:FB F
 ci:CI F c E
 gr:g.rules.length<=1000000
section
variable {g:Gr}{F:List Nde}{c:Cs}{E:List Nat}{i n:Nat}{x:Nde}
theorem Lst.tr(h:Lst g F c E)(hi:E[i]? =some n):n<c.2.length/\c.2.getD n 0<=mxT:=by
 obtain⟨x,hx,h1,_⟩:=h.ci.ord i n hi
 refine⟨?_,by rw[h1];exact Au5⟩
 rw[h.ci.l2]
 grind
theorem Lst.way(h:Lst g F c E)(hi:E[i]? =some n)(hx:F[n]? =some x){w}(hw:w∈x.ways):w.kids.length<=200/\w.rule<g.rules.length/\∀k∈w.kids,(∃j,j<i/\E[j]? =some k)/\k<F.length/\k<c.2.length/\c.2.getD k 0<=mxT:=by
 obtain⟨x',hx',_,h2⟩:=h.ci.ord i n hi;rw[hx]at hx';cases hx';have hxF:=ab_ hx;refine⟨(h.fb.2 x hxF).2 w hw,(h.ok x hxF w hw).rule,fun k hk=>?_⟩
 obtain⟨j,hj,hj'⟩:=h2 w hw k hk;exact⟨⟨j,hj,hj'⟩,(h.ok x hxF w hw).kid k hk,(h.tr hj').1,(h.tr hj').2⟩
theorem As3:∀(l:List Ax) (lv d m:Nat),d<=m->(∀t∈l,dpT t lv<=m)->dpL l lv d<=m
 |[],_,_,_,h,_=>h
 |t::r,lv,d,m,h,hl=>by
  unfold dpL;exact As3 r lv _ m gr fun u hu=>hl u (aj_ _ hu)
theorem Lst.dep(h:Lst g F c E):∀(i n:Nat),E[i]? =some n->c.2.getD n 0≠0->msD (fT g F c n)<=i+1:=by
 intro i
 induction i using Nat.strongRecOn with
 |_ i ih=>
  intro n hi hn;obtain⟨x,w,hx,hf,hw,hp,hk⟩:=h.ci.first hi hn;rw[Ajn h.ci hi hn hx hf];unfold msD dpT;refine As3 _ _ _ _ Om fun t ht=>?_
  obtain⟨k,hk',rfl⟩:=bt_.1 ht;obtain⟨⟨j,hj,hj'⟩,hn'⟩:=hk k hk';have:=ih j hj k hj' hn';unfold msD at this;rw[Alu];omega
theorem Lst.len(h:Lst g F c E)(hi:E[i]? =some n):i<4000:=by
 have h1:=h.ci.len;have h2:=h.fb.1
 grind
theorem Lst.kb(h:Lst g F c E):∀(i n:Nat),E[i]? =some n->c.2.getD n 0≠0->KB (fT g F c n):=by
 intro i
 induction i using Nat.strongRecOn with
 |_ i ih=>
  intro n hi hn;obtain⟨x,w,hx,hf,hw,hp,hk⟩:=h.ci.first hi hn;rw[Ajn h.ci hi hn hx hf];have hwy:=h.way hi hx hw;refine .node (by grind) fun t ht=>?_
  obtain⟨k,hk',rfl⟩:=bt_.1 ht;obtain⟨⟨j,hj,hj'⟩,hn'⟩:=hk k hk';exact ih j hj k hj' hn'
end
abbrev K2:=Int×Int
instance:KE K2 where
 k p:=.agg [.int .i64 p.1,.int .i64 p.2]
 eq a b:=by
  obtain⟨s,x⟩:=a;obtain⟨t,u⟩:=b;simp only[Key.eq,Key.eqs,Nn,Ed]
  grind
def k2(n:Nat):K2:=(.ofNat n,.ofNat 0)
theorem Axt{n m}:k2 n=k2 m↔n=m:=by
 simp only[k2,ba_]
 grind
theorem k2ey(n):D4 Ew.P 289 (.agg [nV n,nV 0])=some (KE.k (k2 n)):=Kr
def MsS(g:Gr)(F:List Nde)(c:Cs)(J:Sto)(a:Nat):Prop:=∃M:GM K2 Ax,GAt 289 msV J a M/\∀n t,M.get (k2 n)=some t->t=fT g F c n
theorem MsS.of_get{g F c J U a}(h:MsS g F c J a)(hg:U.get a=J.get a):MsS g F c U a:=by
 obtain⟨M,h1,h2⟩:=h;exact⟨M,h1.of_get hg,h2⟩
theorem MsS.put{g F c}{J:Sto}{a n ver}{M:GM K2 Ax}{t}(h:∀n t,M.get (k2 n)=some t->t=fT g F c n)(ht:t=fT g F c n):MsS g F c (J.set a (.map 289 (Hi msV (M.put (k2 n) t)) ver)) a:=by
 refine⟨_,GAt.put,fun n' t' h'=>?_⟩
 rw[fp_]at h'
 split at h'
 ·rename_i e
  obtain rfl:=Axt.1 e
  grind
 grind
theorem Au6{ρ J Rr}{t ty:Nat}{x y q}(hi:okI Ew.P t=true)(hx:Ah Ew ρ x=some (nV 0))(hy:Ah Ew ρ y=some (nV q))(h:q≠0):As Ew Rr (.binOp .rem t x y ty) ρ J (nV 0) J:=by
 obtain⟨q,rfl⟩:∃k,q=k+1:=⟨q-1,by omega⟩
 exact L0 (p:=0) (q:=.ofNat (q+1)) hi hx hy (by show(C7 (0%(q+1)) fun m=>some (AV.int .i64 (.ofNat m)))=_;rw[Nat.zero_mod];rfl)
theorem Au7{ρ J Rr}{t ty:Nat}{x y q}(hi:okI Ew.P t=true)(hx:Ah Ew ρ x=some (nV 0))(hy:Ah Ew ρ y=some (nV q))(h:q≠0):As Ew Rr (.binOp .quo t x y ty) ρ J (nV 0) J:=by
 obtain⟨q,rfl⟩:∃k,q=k+1:=⟨q-1,by omega⟩
 exact L0 (p:=0) (q:=.ofNat (q+1)) hi hx hy (by show some (Me .i64 (.ofNat (0 / (q+1))))=_;rw[Nat.zero_div];rfl)
end
theorem Au8{ρ J Rr}{t ty:Nat}{x y q}(hi:okI Ew.P t=true)(hx:Ah Ew ρ x=some (nV 0))(hy:Ah Ew ρ y=some (nV q))(h:q=0):As Ew Rr (.binOp .sub t x y ty) ρ J (nV 0) J:=by
 subst h;exact W2 (p:=0) (q:=0) hi hx hy nl Om
theorem zt289:(match Ay Ew.P 289 with|some ti=>ti.zero|none=>none)=some [.int .i64 0,.int .i64 0]:=Kr
theorem f123n{g F c E}(hL:Lst g F c E){i:Nat}(ih:∀j,j<i->∀n,E[j]? =some n->c.2.getD n 0≠0->∀(aM:Nat) (J:Sto),MsS g F c J aM->aM<nx J->Al Ew 123 [lV g F c,nV n,nV 0,.mp aM] J fun v J'=>v=msV (fT g F c n)/\MsS g F c J' aM/\nx J<=nx J'/\∀b,b<nx J->b≠aM->J'.get b=J.get b)
  (n)(hi:E[i]? =some n)(hn:c.2.getD n 0≠0)(aM J)(hMM:MsS g F c J aM)(haM:aM<nx J):Al Ew 123 [lV g F c,nV n,nV 0,.mp aM] J fun v J'=>v=msV (fT g F c n)/\MsS g F c J' aM/\nx J<=nx J'/\∀b,b<nx J->b≠aM->J'.get b=J.get b:=by
 obtain⟨M,⟨ver,hM⟩,hMs⟩:=hMM;refine Aj Tryz.func123 rfl rfl fun hw hu0=>?_
 refine G2 ?_;refine O1 (Bu ziC) ?_;refine G ?_;obtain⟨J1,hσ1⟩:∃J1,J.new (.cells [.int .i64 0,.int .i64 0,.bool false])=J1:=⟨_,rfl⟩;rw[hσ1];have n1:nx J1=nx J+1:=gr;have g1:∀b,b<nx J->J1.get b=J.get b:=gr;have r1:J1.get (nx J)=some (.cells [.int .i64 0,.int .i64 0,.bool false]):=gr;have hM1:J1.get aM=some (.map 289 (Hi msV M) ver):=(g1 aM haM).trans hM;refine G4 ?_;refine O1 (G0 zt289 ar289 rfl rfl) ?_;refine G2 ?_;cases ho:M.get (k2 n)with
 |some t=>
  have ht:=hMs n t ho;refine G5 ?_;refine O1 (Nu (o:=some t) Am2 rfl ⟨ver,hM1⟩ rfl (k2ey n) ho) ?_;refine G10 ?_;refine Ab rfl (fun h1=>?_) gr
  refine G3 ?_;refine O1 (sO (cs':=msC t) r1) ?_;refine G ?_;refine Bo fun hw9=>?_
  refine G ?_
  exact⟨[msV (fT g F c n)],Am (vs:=msC (fT g F c n)) (ldC (t:=256)) rfl (by simp only[Sto.cells];grind) rfl rfl,_,_,a_ hw9 nl (fun _ _=>rfl),gr,.same rfl,rfl,MsS.of_get ⟨M,⟨ver,hM⟩,hMs⟩ gr,gr,gr⟩
 |none=>
  refine G5 ?_;refine O1 (Nu (o:=none) Am2 rfl ⟨ver,hM1⟩ rfl (k2ey n) ho) ?_;refine G10 ?_;refine Ab rfl gr (fun h1=>?_)
  refine G4 ?_;refine O1 (Bj (n:=nx J+1) ziC n1) (O1 (sO (a:=nx J+1) (off:=0) (cs:=[.int .i64 0,.int .i64 0,.bool false]) (cs':=[nV 1,nV 1,.bool false]) gr) ?_);refine G ?_;obtain⟨J2,hσ2⟩:∃J2,(J1.new (.cells [.int .i64 0,.int .i64 0,.bool false])).set (nx J+1) (.cells [nV 1,nV 1,.bool false])=J2:=⟨_,rfl⟩;rw[hσ2];have n2:nx J2=nx J+2:=gr;have g2:∀b,b<nx J1->J2.get b=J1.get b:=gr;have o2:J2.get (nx J+1)=some (.cells [nV 1,nV 1,.bool false]):=gr;have r2:J2.get (nx J)=some (.cells [.int .i64 0,.int .i64 0,.bool false]):=(g2 _ Om).trans r1;have hM2:J2.get aM=some (.map 289 (Hi msV M) ver):=(g2 aM Om).trans hM1;obtain⟨x,w,hx,hf,hw',hp,hks⟩:=hL.ci.first hi hn;have hfT:=Ajn (g:=g) hL.ci hi hn hx hf;refine G12 ?_;refine O1 (A1 elC Mw rfl rfl hx) ?_;refine G6 ?_;refine Bz x.ways.length (fun i0=>[(0,lV g F c),(2,nV 0),(3,.mp aM),(8,.pr (nx J) 0),(9,.pv [nV n,nV 0]),(12,.pr (nx J+1) 0),(42,slV eWy 2 x.ways),(43,nV x.ways.length),(44,nV i0)]) (fun i0 J0=>J0=J2/\∀v∈x.ways.take i0,Gp c.2 v=0) SL ⟨rfl,gr⟩ ?_
  rintro i0 J0 hi0 ⟨rfl,hz0⟩;refine G5 ?_;refine Ab rfl ?_ ?_<;>intro h2
  ·have bc:i0<x.ways.length:=Int.ofNat_lt.1 (of_decide_eq_true h2);obtain⟨v,hv⟩:=Ar bc;have hvm:=ab_ hv;obtain⟨hvl,hvr,hvk⟩:=hL.way hi hx hvm;have hwl:=(hL.fb.2 x (ab_ hx)).1;have htk:=List.take_add_one (l:=x.ways) (i:=i0);rw[hv]at htk;refine G5 ?_;refine O1 (A1 elC Gq rfl rfl hv) (O1 (Ac ldC rfl rfl (A6 (Gq v) _)) (Ho ziC ldC rfl (fun _=>rfl) rfl (A7 (Gq v)) rfl rfl ?_))
   refine G5 ?_;refine Ca (f158 Om (fun k hk=>(hvk k hk).2.2) J0) ?_
   refine G9 ?_;refine Ab rfl ?_ ?_<;>intro h3
   ·have hz:Gp c.2 v=0:=gr;refine G4 ?_;refine O1 (Au8 okC rfl rfl hz) ?_;refine G7 ?_;refine⟨bc,SL,rfl,fun u hu=>?_⟩
    grind
   ·have hpv:Gp c.2 v≠0:=fun q=>of_decide_eq_false h3 (bm_.2 (ef_ q))
    have hvw:v=w:=by
     rw[←cc_ i0 x.ways,List.find?_append,List.find?_eq_none.2 gr,A4 hv,List.find?_cons_of_pos (by simp[hpv])]at hf
     grind
    subst hvw;have hok:decide (Int.ofNat v.rule<Int.ofNat g.rules.length)=true:=decide_eq_true (Int.ofNat_lt.2 hvr);obtain⟨ks,ru⟩:∃ks,v.kids.map (fT g F c)=ks:=⟨_,rfl⟩;have hkl:ks.length=v.kids.length:=gr;rw[ru]at hfT;obtain⟨J3,hσ3⟩:∃J3,J0.set (nx J+1) (.cells [nV 1,nV 1,.bool (decide (Int.ofNat v.rule<Int.ofNat g.rules.length))])=J3:=⟨_,rfl⟩;have n3:nx J3=nx J+2:=gr;have g3:∀b,b≠nx J+1->J3.get b=J0.get b:=gr
    have o3:J3.get (nx J+1)=some (.cells (msC (.node (Md g v.rule) (ks.drop ks.length)))):=by
     rw[←hσ3,aa_,if_pos rfl,hok,ep_,msC,Asz.1,Asz.2]
    refine G2 ?_;refine XS (l:=[]) trivial ?_;refine G4 ?_;refine Bg rfl rfl rfl rfl rfl rfl rfl (Ae fdC rfl rfl) (Bg rfl rfl rfl rfl rfl rfl rfl (Ac ldC rfl rfl rfl) (Bg rfl rfl rfl rfl rfl rfl rfl (Ag rfl) (Bg rfl rfl rfl rfl rfl rfl rfl (Eq rfl) (Bg rfl rfl rfl rfl rfl rfl rfl (Ae fdC rfl rfl) (Bg rfl rfl rfl rfl rfl rfl rfl (Ae fdC rfl rfl) (Bg rfl rfl rfl rfl rfl rfl rfl (Ac ldC rfl rfl rfl) (Bg rfl rfl rfl rfl rfl rfl rfl (Jl slC rfl) ?_)))))));refine Bg rfl rfl rfl rfl rfl rfl rfl (Qe okC rfl rfl) (DF (A3 rfl rfl rfl) ?_);refine G ?_;refine DT (sO (cs':=[nV 1,nV 1,.bool (decide (Int.ofNat v.rule<Int.ofNat g.rules.length))]) o2) ?_;refine G ?_;rw[hσ3];refine G6 ?_;refine O1 (Agz (p:=.ofNat v.kids.length) (q:=1) okC rfl rfl gr gr) ?_;refine G3 ?_
    refine Ci (fun q:Nat=>[(0,lV g F c),(2,nV 0),(3,.mp aM),(8,.pr (nx J) 0),(9,.pv [nV n,nV 0]),(12,.pr (nx J+1) 0),(14,.pv (eWy v)),(16,iV (Int.ofNat q-1))]) (fun q J'=>q<=v.kids.length/\J'.get (nx J)=some (.cells [.int .i64 0,.int .i64 0,.bool false])/\J'.get (nx J+1)=some (.cells (msC (.node (Md g v.rule) (ks.drop q))))/\MsS g F c J' aM/\nx J+2<=nx J'/\∀b,b<nx J->b≠aM->J'.get b=J.get b) (fun q=>q) v.kids.length SL ⟨nl,(g3 _ Om).trans r2,hkl▸o3,⟨M,⟨ver,(g3 aM Om).trans hM2⟩,hMs⟩,by omega,gr⟩ ?_
    rintro q J4 ⟨hq4,hr4,ho4,hM4,n4,g4⟩;refine G6 ?_;refine TAn 2 ?_ (fun hg=>?_) ?_
    rotate_left
    ·refine Gn hg ?_;refine On hg (lO ho4) ?_;exact Ez
    refine G ?_;refine Ab rfl ?_ ?_<;>intro h4
    ·have h40:0<q:=gr
     obtain⟨q,rfl⟩:∃k,q=k+1:=⟨q-1,by omega⟩
     obtain⟨k,hk⟩:=Ar (l:=v.kids) (i:=q) Om;have hqs:Int.ofNat (q+1)-1=Int.ofNat q:=gr;rw[hqs];obtain⟨⟨j,hj,hj'⟩,hk1,hk2,hk3⟩:=hvk k (ab_ hk);have hkn:=(hks k (ab_ hk)).2;have hkq:ks[q]? =some (fT g F c k):=gr;have hdp:=hL.dep j k hj' hkn;have hjl:=hL.len hj';have dm:=ho4;refine G8 ?_;refine O1 (A1 elC Ep rfl rfl hk) ?_
     iterate 16 refine G ?_
     refine O1 (A1 elC Ep rfl rfl (O4 hk2)) ?_;refine G ?_;refine O1 (Au6 okC rfl rfl hkn) ?_;refine G ?_;refine Az rfl rfl rfl rfl (ih j hj k hj' hkn aM J4 hM4 Om) ?_;rintro _ J5 ⟨rfl,hM5,n5,g5⟩
     iterate 13 refine G ?_
     refine O1 (A1 elC Ep rfl rfl (O4 hk2)) ?_;refine G ?_;refine O1 (Au7 okC rfl rfl hkn) ?_;refine G2 ?_;have ho5:J5.get (nx J+1)=some (.cells (msC (.node (Md g v.rule) (ks.drop (q+1))))):=(g5 _ Om Om).trans ho4;obtain⟨T,hT⟩:∃T,Ax.node (Md g v.rule) (ks.drop (q+1))=T:=⟨_,rfl⟩
     have hT':Ax.node (Md g v.rule) (ks.drop q)=.node (Md g v.rule) (fT g F c k::ks.drop (q+1)):=by rw[A4 hkq]
     rw[hT]at ho5;have hn1:=As2 T;have hn2:=As2 (fT g F c k);have e1:min (Int.ofNat (msN T+msN (fT g F c k))) 4001=Int.ofNat (min (msN T+msN (fT g F c k)) 4001):=gr;have e2:max (Int.ofNat (msD T)) (Int.ofNat (msD (fT g F c k)+1))=Int.ofNat (max (msD T) (msD (fT g F c k)+1)):=gr;refine G2 ?_;refine O1 (lO ho5) ?_;refine G2 ?_;refine O1 (D3 okC rfl rfl Om) ?_;refine O1 (Ak7 (q:=4001) okC rfl rfl) ?_;refine G ?_;refine O1 (lO ho5) ?_;refine G3 ?_;refine O1 (Aw4 okC rfl rfl) ?_;refine G3 ?_;refine O1 (sO (cs':=[.int .i64 (min (Int.ofNat (msN T+msN (fT g F c k))) 4001),.int .i64 (max (Int.ofNat (msD T)) (Int.ofNat (msD (fT g F c k)+1))),.bool true]) ho5) ?_;refine G ?_;rw[e1,e2];refine G2 ?_;refine O1 (Agz (p:=.ofNat q) (q:=1) okC rfl rfl gr gr) ?_;refine G2 ?_
     refine⟨q,bl_ q,SL,by omega,gr,by rw[aa_,if_pos rfl,hT',msC,As0,As1,hT];rfl,hM5.of_get gr,gr,gr⟩
    ·have h40:q=0:=gr;subst h40;rw[db_,←hfT]at ho4;obtain⟨M4,⟨ver4,hM4⟩,rh⟩:=hM4;refine G6 ?_;refine O1 (lO ho4) (O1 (K7 (v:=fT g F c n) Am2 rfl hM4 rfl (k2ey n) rfl (fun _ h1 h2=>H6 h1 h2 rfl)) ?_)
     refine G3 ?_
     refine O1 (E8 (by rw[aa_,if_neg Om];exact ho4) ldC rfl rfl) ?_
     refine O1 (G1 (cs':=msC (fT g F c n)) (by rw[aa_,if_neg Om];exact hr4) ldC rfl rfl rfl rfl) ?_
     refine G ?_;refine Bo fun hw9=>?_
     refine G ?_
     exact⟨[msV (fT g F c n)],Am (vs:=msC (fT g F c n)) (ldC (t:=256)) rfl (by simp only[Sto.cells];grind) rfl rfl,_,_,a_ hw9 nl (fun _ _=>rfl),gr,.same rfl,rfl,MsS.of_get (MsS.put rh rfl) (by rw[aa_,if_neg Om]),gr,gr⟩
  ·grind
theorem f123{g F c E}(hL:Lst g F c E):∀(i n:Nat),E[i]? =some n->c.2.getD n 0≠0->∀(aM:Nat) (J:Sto),MsS g F c J aM->aM<nx J->Al Ew 123 [lV g F c,nV n,nV 0,.mp aM] J fun v J'=>v=msV (fT g F c n)/\MsS g F c J' aM/\nx J<=nx J'/\∀b,b<nx J->b≠aM->J'.get b=J.get b:=by
 intro i
 induction i using Nat.strongRecOn with
 |_ i ih=>exact f123n hL ih
theorem YX.up{E Ls L L' args J Post}(h:YX E Ls L args J Post):YX E (L'::Ls) L args J Post:=fun C w vs hl=>h C w vs fun M hM=>hl M (aj_ _ hM)
structure TC (Ls:List RF)(L:RF)(B:Nat)(t:Ax)(S:Sto->Prop)(aA:XE->Sto->Prop):Prop where
 lt:L.aY<B
 s:∀U U',S U->(∀b,b<B->U'.get b=U.get b)->S U'
 j:∀x U U',aA x U->(∀b,b<B->U'.get b=U.get b)->aA x U'
 y:∀U,S U->B<=nx U->YX Ew Ls L [En t] U fun x U'=>x≠.normal/\aA x U'/\nx U<=nx U'/\∀b,B<=b->b<nx U->U'.get b=U.get b
theorem TC.up{Ls L L' B t S aA}(h:TC Ls L B t S aA):TC (L'::Ls) L B t S aA:=⟨h.lt,h.s,h.j,fun U h1 h2=>(h.y U h1 h2).up⟩
def PY(B:Nat)(J:Sto)(aA:XE->Sto->Prop)(J':Sto):Prop:=(∃x,x≠.normal/\aA x J')/\nx J<=nx J'/\∀b,B<=b->b<nx J->J'.get b=J.get b
def KdV(J:Sto)(B:Nat)(K:List Ax)(v:AV):Prop:=(K=[]/\v=nS)∨∃a,B<=a/\a<nx J/\v=.sr a 0 2 K.length none/\J.get a=some (.cells (K.flatMap eT))
theorem KdV.lenA{J B K v}(h:KdV J B K v):lenA v=some K.length/\Ad9 v=true:=by
 rcases h with⟨rfl,rfl⟩|⟨a,_,_,rfl,_⟩<;>exact⟨rfl,rfl⟩
theorem KdV.of{J J' B K v}(h:KdV J B K v)(hn:nx J<=nx J')(hg:∀b,B<=b->b<nx J->J'.get b=J.get b):KdV J' B K v:=by
 rcases h with h|⟨a,h1,h2,h3,h4⟩
 ·exact .inl h
 ·exact .inr ⟨a,h1,by omega,h3,(hg a h1 h2).trans h4⟩
theorem KdV.cellsN{J B K v}(h:KdV J B K v):v.cellsN 1=some [v]:=by
 rcases h with⟨rfl,rfl⟩|⟨a,_,_,rfl,_⟩<;>rfl
theorem KdV.ld{J B K v}(h:KdV J B K v):Cz 1 false ([v].drop 0)=some v:=by
 rcases h with⟨rfl,rfl⟩|⟨a,_,_,rfl,_⟩<;>rfl
theorem KdV.fill{J B K v l}(h:KdV J B K v):Si [.str [],nS] [(0,1,sV l),(1,1,v)]=some [sV l,v]:=by
 rcases h with⟨rfl,rfl⟩|⟨a,_,_,rfl,_⟩<;>rfl
theorem KdV.src{J B K v}(h:KdV J B K v):F9 J 2 v K.length=some (K.flatMap eT):=by
 rcases h with⟨rfl,rfl⟩|⟨a,_,_,rfl,h4⟩
 ·rfl
 ·have:=D0 (l:=K.flatMap eT) (r:=[]);rw[Dl Dh,bh_]at this
  show(match J.cells a with|some vs=>Dr (K.length*2) (vs.drop 0)|none=>none)=_
  simp only[Sto.cells,h4,db_];exact this
def As4:AV->AV
 |.sr a o s n _=>.sr a o s n (some n)
 |v=>v
theorem Au9{ρ J Rr B K v x hi mx}(h:KdV J B K v)(hx:Ah Ew ρ x=some v)(h2:Iz Ew ρ hi=some (some (nV K.length)))(h3:Iz Ew ρ mx=some (some (nV K.length))):
  As Ew Rr (.slice 37 x none hi mx) ρ J (As4 v) J:=fun tm ht=>by
 obtain⟨ti,e,te,k1,k2,k3,k4,k5,k6⟩:=Qc (elC (t:=37));have e0:opdO Ew tm none=none:=rfl;have hle:=ar_ (Nat.le_refl K.length)
 rcases h with⟨rfl,rfl⟩|⟨a,_,_,rfl,_⟩
 ·have hb:Do 0 (some 0) none (some (nV 0)) (some (nV 0))=some (0,0,some 0):=rfl;simp only[opA,Aw,k1,k2,k3,ht.opd hx,ht.opdO h2,ht.opdO h3,e0,Lj,cu_,hb]
  rfl
 ·have hb:Do K.length none none (some (nV K.length)) (some (nV K.length))=some (0,K.length,some K.length):=by
   show cond (Nat.ble 0 K.length&&Nat.ble K.length K.length&&Li K.length none K.length) _ _=_
   simp only[Li,hle,be_,cond_true];rw[show Nat.ble 0 K.length=true from ar_ (aq_ _)]
   rfl
  simp only[opA,Aw,k1,k2,k3,ht.opd hx,ht.opdO h2,ht.opdO h3,e0,Lj,hb,k4,aw_,Ak,dw_,es_,fd_]
  rfl
theorem As5{ρ J Rr B n K v x hi mx}(h:KdV J B K v)(hn:K.length=n)(hx:Ah Ew ρ x=some v)(h2:Iz Ew ρ hi=some (some (nV n)))(h3:Iz Ew ρ mx=some (some (nV n))):
  As Ew Rr (.slice 37 x none hi mx) ρ J (As4 v) J:=by subst hn;exact Au9 h hx h2 h3
theorem KdV.app1{J B K v}(h:KdV J B K v)(t)(hl:K.length<=1000):B6 J 2 40 (As4 v) 1 (eT t)=some (.sr (nx J) 0 2 (K.length+1) none,J.new (.cells ((K++[t]).flatMap eT))):=by
 have hb:Nat.ble ((K.length+1)*(40+1)) sizeLim=true:=ar_ (by simp only[sizeLim];omega)
 rcases h with⟨rfl,rfl⟩|⟨a,_,_,rfl,h4⟩
 ·simp only[As4,B6,Ja,cu_]at hb⊢;rw[hb];simp only[cond_true,Ak,bd_,bs_,fk_,bh_]
 ·have b9:=D0 (l:=K.flatMap eT) (r:=[]);rw[Dl Dh,bh_]at b9
  have h0:Nat.ble (K.length+1) K.length=false:=by
   cases hh:Nat.ble (K.length+1) K.length with
   |true=>exact absurd (al_ hh) Om
   |false=>rfl
  simp only[As4,B6,aw_,cond_true,Sto.cells,h4,db_,b9,h0,Ja,bn_,hb,Ak,da_,bs_,fk_,bh_]
theorem KdV.snoc{J B K}(hB:B<=nx J):KdV (J.new (.cells (K.flatMap eT))) B K (.sr (nx J) 0 2 K.length none):=.inr ⟨nx J,hB,gr,rfl,gr⟩
theorem Ava(J K)(hl:K.length<=1000):∃v' J',B6 J 2 40 nS K.length (K.flatMap eT)=some (v',J')/\KdV J' (nx J) K v'/\nx J<=nx J'/\nx J'<=nx J+1/\∀b,b<nx J->J'.get b=J.get b:=by
 cases K with
 |nil=>exact⟨_,J,rfl,.inl ⟨rfl,rfl⟩,nl,dm_ _,fun _ _=>rfl⟩
 |cons t r=>
  have hb:Nat.ble ((r.length+1)*(40+1)) sizeLim=true:=ar_ (by simp only[sizeLim,as_]at hl⊢;omega)
  refine⟨.sr (nx J) 0 2 (t::r).length none,J.new (.cells ((t::r).flatMap eT)),?_,KdV.snoc nl,gr,gr,gr⟩;simp only[as_,B6,Ja,hb,cond_true,Ak,bd_,bn_]
theorem KdV.fz{J U B K v}(h:KdV J B K v)(hτ:∀a,B<=a->U.get a=none):Fz J U v (slV eT 2 K):=by
 rcases h with⟨rfl,rfl⟩|⟨a,h1,_,rfl,h3⟩
 ·exact .nils gr
 ·have b9:=D0 (l:=K.flatMap eT) (r:=[]);rw[Dl Dh,bh_]at b9
  exact .sr h3 (hτ a h1) b9 (dj_ (by rw[←No];exact Jq _))
theorem Avb{E nt B df K ρ J}[Se E]{ops r}(U ρ')(hf:WFS J->Ds J U)(hn:nx U=nx J)(hs:WFS J->Mm J U ρ' ρ)(k:TO E nt df B ops r K ρ' U):TO E nt df B ops r K ρ J:=
 fun ro n hr C w tm a ht st hB=>Amy U ρ' (by rw[hn];exact st.dfs.und) (hf st.sim.wfs) gr (hs st.sim.wfs).at k ro n hr C w tm a ht st hB
theorem Ds.kill{J}(hw:WFS J)(a):Ds J (J.kill a):=ft_ (hw.kill a) gr gr
theorem Axu{N}(g F c):AV.und N (lV g F c)=true:=by
 have h1:AV.und N (Af g.sorts)=true:=Fv D9 _;have h2:AV.und N (slV eR 4 g.rules)=true:=Fv Vj _;have h3:AV.und N (slV eNd 4 F)=true:=Fv Vp _;have h4:AV.und N (slV eN 1 c.1)=true:=Fv Ajp _;have h5:AV.und N (slV eN 1 c.2)=true:=Fv Ajp _
 show(((AV.und N (slV eNd 4 F))&&((AV.und N (slV eN 1 c.1))&&((AV.und N (slV eN 1 c.2))&&true)))&&((AV.und N (Af g.sorts))&&((AV.und N (slV eR 4 g.rules))&&true)))=true
 rw[h1,h2,h3,h4,h5];rfl
def As6(g:Gr)(F:List Nde)(c:Cs)(k:Nat):AV:=.fn (.func 159) [] [.pv [lV g F c],.pv [nV k]]
theorem Ap3{N g F c k}:AV.und N (As6 g F c k)=true:=by
 show(true&&((AV.und N (lV g F c)&&true)&&((true&&true)&&true)))=true
 rw[Axu];rfl
theorem f124{g F c}(k J):Cv 124 [lV g F c,nV k] J (As6 g F c k):=by
 refine Aj Tryz.func124 rfl rfl fun hw hu0=>?_
 refine G12 ?_;exact⟨_,rfl,_,_,a_ hw nl (fun _ _=>rfl),nl,.same Ap3,rfl,rfl⟩
end Go.AM
