/- A part of the proof; shortened by program. -/
import Derived.Test.YtmkaboegdoadhaaGreatDoorP35
set_option maxRecDepth 100000
set_option maxHeartbeats 4000000
set_option linter.all false
namespace Go.AM
open Go Go.Proofs
theorem Bc6{d km}:∀(l:List Hp) (b:lE),(l.foldl (d6 d km) b).fl.length<=b.fl.length+l.length/\(l.foldl (d6 d km) b).bd.length<=b.bd.length+l.length/\(l.foldl (d6 d km) b).ot.length<=b.ot.length+l.length/\(l.foldl (d6 d km) b).hy.length<=b.hy.length+l.length
 |[],b=>⟨Y,Y,Y,Y⟩
 |h::r,b=>by
  obtain⟨a,c,e,f⟩:=Bc6 (d:=d) (km:=km) r (d6 d km b h)
  have g:(d6 d km b h).fl.length<=b.fl.length+1/\(d6 d km b h).bd.length<=b.bd.length+1/\(d6 d km b h).ot.length<=b.ot.length+1/\(d6 d km b h).hy.length<=b.hy.length+1:=by
   unfold d6
   grind
  grind
def d'(X:eA)(r:Int)(a b c d:I):List I:=[.pr X.a 0,.mp X.q,.int .i64 0,.int .i64 0,D r,a,b,c,d,.str [],nS,.mp X.pq,.bool false,.bool false,nS,nS]
structure tA (X:eA)(fuel:Int)(pm N:Nat)(b:lE)(v1 v2 v3 v4:I)(U:F):Prop where
 c:U.get X.A=some (.cells (d' X fuel v1 v2 v3 v4))
 o1:aW U N eH 3 b.fl v1
 o2:aW U N cK 1 b.bd v2
 o3:aW U N cK 1 b.ot v3
 o4:aW U N eT 2 b.hy v4
 pl:B8 D U pm b.pl
 d12:jF v1 v2
 d13:jF v1 v3
 d14:jF v1 v4
 d23:jF v2 v3
 d24:jF v2 v4
 d34:jF v3 v4
 n:N<=O U
theorem jZ{v n T b y}(h:∀a,bm v=some a->a<n):jF v (.sr n 0 T b y):=λa c e=>by
 have e:some n=some a:=e
 grind
theorem aW.ltn{J N T C b}{l:List C}{v}(h:aW J N b T l v):∀a,bm v=some a->a<O J:=λa c=>(h.adr_lt c).2
theorem aW.ldv{J N T C a}{l:List C}{v r}(h:aW J N a T l v):Cz 1 false (v::r)=some v:=by
 rcases h with⟨_,rfl|rfl⟩|⟨_,_,_,_,rfl,_⟩<;>rfl
section
variable {E:aZ}{ρ:Ad}{J J':F}{Rr:bP}{t kt r a:Nat}{x y w:Operand}{u:I}{κ α:Type}[DecidableEq κ][KE κ]{enc:α->I}{m m':GM κ α}{s:κ}
theorem NM{U T a e}(j:(J.set r (.map kt (jK enc U m s) (a+1))).new (.stamp r (a+1) (KE.k s))=J')(L:cq E.P t=some (kt,U,T,e))(W:Ah E ρ x=some (.mp r))(K:J.get r=some (.map kt (Hi enc m) a))(B:Ah E ρ y=some u)(X:D4 E.P kt u=some (KE.k s)):
  As E Rr (.mapEntry t x y) ρ J (.tup [((m.get s).map enc).getD U,.stp (O J)]) J':=j▸WZ L W K B X
theorem Bcq{U T b e v}(j:J.set r (.map kt (Hi enc m') (b+1))=J')(d:m.put s v=m')(L:cq E.P t=some (kt,U,T,e))(W:Ah E ρ x=some (.mp r))(B:Ah E ρ y=some (.stp a))(i:Ah E ρ w=some (enc v))(N:∀f:TI,f.size=T->f.isAgg=e->Je f (enc v)=true)
  (c:J.get a=some (.stamp r b (KE.k s)))(K:J.get r=some (.map kt (jK enc U m s) b)):As E Rr (.entryStore t x y w) ρ J An J':=by
 subst j d;exact Kh L W B i N c K
end
theorem f89{d:Db}{s:cA}{rm:SM Rl}{a kq rq yq:Nat}{J:F}(hD:nE d)(sn:d.vars.length+d.frames.length<1000000)(hb:cO (aM d) s=0)(hS:fH d s (bZ (aM d).1 s).km rm (bZ (aM d).1 s).sm a kq rq yq J)(uw:∀l,rm.get l=F4 (aM d).1.rules l){i:Nat}{f:Fr}(hf:d.frames[i]? =some f)(uj:f.hyps.length<1000000)(uk:f.text.length<1000000)(um:∀h∈f.hyps,h.text.length<1000000)(w3:f.apart.length<1000000){r:Int}(f0:0<=r)(f9:r<=100000):
  Cv 89 [.pr a 0,nV i,D r] J (.tup [.bool (dT d (bZ (aM d).1 s) f r).1,aD gE 3 (dT d (bZ (aM d).1 s) f r).2.1,aD eI 1 (dT d (bZ (aM d).1 s) f r).2.2.1,D (dT d (bZ (aM d).1 s) f r).2.2.2]):=by
 have lg:=bA hf;have uv:∀b:Bool,b=true->b=false->False:=Z
 have ou:(aM d).2=0:=by
  have hb:=hb;unfold cO at hb
  grind
 have hW:=ZP hb;obtain⟨⟨t0,wj,sh⟩,ul⟩:=JN ou lg;have uy:f.text[0]? =some t0:=Z;obtain⟨km,uo⟩:∃km,km=(bZ (aM d).1 s).km:=⟨_,rfl⟩;refine Aj Tryz.func89 rfl rfl λhw wd=>?_
 have lc:=(hw _ _ hS.cl).1;have lj:=hS.ks.lt hw;have ly:=hS.rs.lt hw;have ns:=hS.ss.lt hw;have af:∀{ρ:Ad} {U:F} {h:Bool×List cT×List Int×Int} {u2 u3:I},Ad.at ρ 6=some (.bool h.1)->Ad.at ρ 7=some u2->Ad.at ρ 8=some u3->Ad.at ρ 9=some (D h.2.2.2)->(u2=aD gE 3 h.2.1\/u2=nS/\h.2.1=[])->(u3=aD eI 1 h.2.2.1\/u3=nS/\h.2.2.1=[])->O J<=O U->(∀b,b<O J->U.get b=J.get b)->dT d (bZ (aM d).1 s) f r=h->
   jI M Tryz.f89 (O J) (λv J'=>v=.tup [.bool (dT d (bZ (aM d).1 s) f r).1,aD gE 3 (dT d (bZ (aM d).1 s) f r).2.1,aD eI 1 (dT d (bZ (aM d).1 s) f r).2.2.1,D (dT d (bZ (aM d).1 s) f r).2.2.2]/\J'=J) ρ U:=by
  intro ρ U h u2 u3 p6 p7 p8 p9 q2 q3 hn H he;rw[he];refine⟨[.bool h.1,u2,u3,D h.2.2.2],Ba p6 (Ba p7 (Ba p8 (Ba p9 rfl))),.tup [.bool h.1,aD gE 3 h.2.1,aD eI 1 h.2.2.1,D h.2.2.2],J,bL hw ⟨hn,H⟩,Y,.tup (.cons (.same rfl) (.cons ?_ (.cons ?_ (.cons (.same rfl) .nil)))),rfl,rfl⟩
  ·rcases q2 with rfl|⟨rfl,q2⟩
   ·exact .same (Fv (λx=>NV x) _)
   ·rw[q2];exact .nils Z
  ·rcases q3 with rfl|⟨rfl,q3⟩
   ·exact .same (Fv zF _)
   ·rw[q3];exact .nils Z
 have wa:∀{x:List cT},x=[]->(nS=aD gE 3 x\/nS=nS/\x=[]):=λh=>.inr ⟨rfl,h⟩
 iterate 13 refine G ?_
 refine A (E8 hS.cl aG rfl (show Cz 1 false ((dI d s kq rq yq).drop 5)=some (aD eF 8 d.frames)from rfl)) ?_
 refine cD ?_;refine A (A1 (i:=0) aJ zF rfl rfl uy) ?_
 refine G ?_;refine A (Ko (q:=[124,45]) aV rfl rfl) ?_;refine G ?_;refine Ab rfl ?_ ?_<;>intro h1
 ·have ha:Nv f.text=false:=by
   unfold Nv;grind
  refine G8 ?_
  exact af (h:=(true,[],[],0)) rfl rfl rfl rfl (.inr ⟨rfl,rfl⟩) (.inr ⟨rfl,rfl⟩) Y zN (by unfold dT;grind)
 have ha:Nv f.text=true:=by
  unfold Nv;grind
 obtain⟨X,aa⟩:∃X:eA,X=⟨a,kq,rq,yq,O J+2,O J,O J+1⟩:=⟨_,rfl⟩
 have tz:X.a=a:=by rw[aa]
 have tw:X.A=O J+2:=by rw[aa]
 have uc:X.q=O J:=by rw[aa]
 have vz:X.pq=O J+1:=by rw[aa]
 have ua:X.kq=kq:=by rw[aa]
 have ud:X.rq=rq:=by rw[aa]
 have ue:X.yq=yq:=by rw[aa]
 have ub:X.Ok:=⟨by omega,by omega,by omega,by omega,by omega,by omega⟩
 obtain⟨N,hN⟩:=zE (O J+4);obtain⟨J1,sq⟩:=zE ((((J.new (.map 9 [] 0)).new (.map 289 [] 0)).new (.cells (d' X r nS nS nS nS))).new (.map 9 [] 0));have n1:O J1=O J+4:=Z;have gn:∀x,J1.get x=if x=O J+3 then some (.map 9 [] 0)else if x=O J+2 then some (.cells (d' X r nS nS nS nS))else if x=O J+1 then some (.map 289 [] 0)else if x=O J then some (.map 9 [] 0)else J.get x:=Z;have g1:∀b,b<O J->J1.get b=J.get b:=Z;have tn:J1.get (O J)=some (.map 9 [] 0):=Z;have vj:J1.get (O J+1)=some (.map 289 [] 0):=Z
 have r9:tA X r (O J+3) N zB nS nS nS nS J1:=⟨Z,.nil,.nil,.nil,.nil,⟨0,by rw[gn,if_pos rfl];rfl⟩,(λ_ h=>by cases h),(λ_ h=>by cases h),(λ_ h=>by cases h),(λ_ h=>by cases h),(λ_ h=>by cases h),(λ_ h=>by cases h),by omega⟩
 refine G4 ?_;refine A (Cd (n:=O J) pT rfl) ?_;refine G3 ?_;refine A (Cd (n:=O J+1) nN (Ao _ _)) ?_;refine G ?_
 refine A (PW (n:=O J+2) (cs:=d' X r nS nS nS nS) aG rfl (by rw[aa];rfl) Z) ?_
 refine G4 ?_;refine A (Cd (n:=O J+3) gG Z) ?_;refine G2 ?_;rw[sq,<-tw];refine G9 ?_;refine Ci (λx:Nat×I×I×I×I=>[(0,.pr a 0),(2,D r),(10,.pv (eF f)),(11,.pr X.A 0),(12,.mp (O J+3)),(47,aD eH 3 f.hyps),(48,nV f.hyps.length),(49,nV x.1)]) (λx U=>x.1<=f.hyps.length/\(dD d km (f.hyps.take x.1)).e=0/\tA X r (O J+3) N (dD d km (f.hyps.take x.1)) x.2.1 x.2.2.1 x.2.2.2.1 x.2.2.2.2 U/\∀b,b<N->b≠X.A->b≠O J+3->U.get b=J1.get b) (λx=>f.hyps.length-x.1) (0,nS,nS,nS,nS) SL ⟨bU _,rfl,r9,λ_ _ _ _=>rfl⟩ ?_
 rintro⟨L,S,o,w,y⟩ U ⟨un,sc,g,am⟩
 dsimp only at un sc g
 obtain⟨b,bx⟩:=zE (dD d km (f.hyps.take L));rw[bx]at sc g
 have bl:b.fl.length<=L/\b.bd.length<=L/\b.ot.length<=L/\b.hy.length<=L:=by
  have:=Bc6 (d:=d) (km:=km) (f.hyps.take L) zB;rw[show(f.hyps.take L).foldl (d6 d km) zB=b from bx,gC]at this
  obtain⟨q1,q2,q3,q4⟩:=this;have e1:zB.fl.length=0:=rfl;have e2:zB.bd.length=0:=rfl;have e3:zB.ot.length=0:=rfl;have e4:zB.hy.length=0:=rfl
  grind
 obtain⟨w6,w7,w8,w9⟩:=bl;have gw:∀b,b<O J->U.get b=J.get b:=λb hb=>(am b z z z).trans (g1 b hb)
 have s8:fH d s (bZ (aM d).1 s).km rm (bZ (aM d).1 s).sm a kq rq yq U:=hS.of_get (gw _ lc) (gw _ lj) (gw _ ly) (gw _ ns);have we:=g.n;refine G5 ?_;refine Ab rfl ?_ ?_<;>intro h2
 ·have bc:L<f.hyps.length:=Int.ofNat_lt.1 (of_decide_eq_true h2);obtain⟨h,hh⟩:=Ar bc;have li:=bA hh;have d4:=MY (d:=d) (km:=km) hh;rw[bx]at d4
  iterate 15 refine G ?_
  refine Ab rfl ?_ ?_<;>intro h3
  ·have h3:h.floating=true:=h3;obtain⟨ka,kb,uq⟩:=ul h li h3;have d9:h.text[0]? =some ka:=Z;have si:h.text[1]? =some kb:=Z
   have wc:bS h=kb:=by unfold bS;rw[uq];rfl
   have w4:h.text.headD []=ka:=Z;obtain⟨B,ut⟩:=g.pl;obtain⟨U1,t8⟩:=zE (U.set (O J+3) (.map 9 (Cn D (b.pl.put kb (Int.ofNat b.fl.length))) (B+1)));have wg:O U1=O U:=Z;have kr:∀x,x≠O J+3->U1.get x=U.get x:=Z;have vg:B8 D U1 (O J+3) (b.pl.put kb (Int.ofNat b.fl.length)):=⟨B+1,Z⟩;have l7:U1.get X.A=some (.cells (d' X r S o w y)):=(kr _ z).trans g.c
   have sd:aW U1 N eH 3 b.fl S:=g.o1.of_get z λx q=>kr x (by have:=(g.o1.adr_lt q).1;omega)
   obtain⟨U2,jh,wh,ak,l5⟩:=jB (enc:=eH) (sz:=3) (by':=48) zF (show N<=O U1 by omega) sd h (by simp only[az];omega)
   obtain⟨w1,ij⟩:∃w1,w1=I.sr (O U1) 0 3 (b.fl.length+1) none:=⟨_,rfl⟩;rw[<-ij]at jh ak
   have l9:∀{v:I} {sz:Nat} {α:Type} {enc:α->List I} {l:List α},aW U N enc sz l v->∀x,x<N->bm v≠some x:=λho x K q=>by have:=(ho.adr_lt q).1;omega
   have tt:U2.get X.A=some (.cells (d' X r S o w y)):=(l5 _ z (l9 g.o1 _ z)).trans l7;obtain⟨U3,t9⟩:=zE (U2.set X.A (.cells (d' X r w1 o w y)));have wi:O U3=O U+1:=Z;have l6:∀x,x≠X.A->U3.get x=U2.get x:=Z;have aw:U3.get X.A=some (.cells (d' X r w1 o w y)):=Z;have oo:∀x,x<O U->x≠X.A->x≠O J+3->bm S≠some x->U3.get x=U.get x:=λx K p1 p2 p3=>(l6 x p1).trans ((l5 x z p3).trans (kr x p2))
   have ah:∀{v:I} {sz:Nat} {α:Type} {enc:α->List I} {l:List α},aW U N enc sz l v->jF S v->aW U3 N enc sz l v:=λho hd=>ho.of_get z λx q=>by
    have:=ho.adr_lt q;exact oo x this.2 z z λq1=>hd x q1 q
   have j:tA X r (O J+3) N ⟨b.fl++[h],b.bd,b.ot,b.hy,b.pl.put kb (Int.ofNat b.fl.length),0⟩ w1 o w y U3:=
    ⟨aw,ak.of_get Z (λx q=>l6 x (by have:=(ak.adr_lt q).1;omega)),ah g.o2 g.d12,ah g.o3 g.d13,ah g.o4 g.d14,vg.of_get ((l6 _ z).trans (l5 _ z (l9 g.o1 _ z))),
     by rw[ij];exact(jZ λx q=>by have:=g.o2.ltn x q;omega).symm,by rw[ij];exact(jZ λx q=>by have:=g.o3.ltn x q;omega).symm,by rw[ij];exact(jZ λx q=>by have:=g.o4.ltn x q;omega).symm,g.d23,g.d24,g.d34,by omega⟩
   have jc:∀x,x<N->x≠X.A->x≠O J+3->U3.get x=J1.get x:=λx K p1 p2=>(oo x z p1 p2 (l9 g.o1 x K)).trans (am x K p1 p2)
   have s7:fH d s (bZ (aM d).1 s).km rm (bZ (aM d).1 s).sm a kq rq yq U3:=by
    have ey:∀x,x<O J->U3.get x=J.get x:=λx K=>(jc x z z z).trans (g1 x K)
    exact hS.of_get (ey _ lc) (ey _ lj) (ey _ ly) (ey _ ns)
   refine G5 ?_;refine A (E8 g.c aG rfl (show Cz 1 false ((d' X r S o w y).drop 5)=some S from g.o1.ldv)) (A (Bf bF rfl (rV g.o1).1 (rV g.o1).2) ?_)
   refine G7 ?_;refine A (A1 (i:=1) aJ zF rfl rfl si) ?_
   refine G2 ?_;refine A (Gh (enc:=D) (v:=Int.ofNat b.fl.length) bI gG rfl ut rfl rfl (λte k1 k2=>I2 k1 k2)) ?_
   refine G ?_;rw[t8];refine G ?_;refine L4 (Rr:=Dk []) (anns:=[⟨.pure,0,1⟩,⟨.pure,0,0⟩,⟨.pure,0,0⟩,⟨.pure,0,0⟩,⟨.read,0,0⟩,⟨.read,0,0⟩,⟨.pure,0,0⟩,⟨.eff,0,1⟩,⟨.pure,1,1⟩,⟨.pure,1,1⟩,⟨.eff,1,2⟩]) Di (Bw (l:=[]) trivial) Kr ?_;refine G4 ?_;refine V (E8 l7 aG rfl (show Cz 1 false ((d' X r S o w y).drop 5)=some S from g.o1.ldv)) ?_
   refine G ?_;refine V (Ai aJ bM rfl rfl rfl) (DT (Av aJ rfl bF rfl rfl rfl (new:=eH h) rfl jh) ?_);refine G2 ?_;refine DT (G1 (cs':=d' X r w1 o w y) tt aG rfl rfl (oJ ak) rfl) ?_;refine G ?_
   refine⟨⟨trivial,trivial,trivial,trivial,(λs hs=>by obtain rfl:=cI.1 hs;exact⟨_,E8 l7 (aG (t:=47)) rfl (show Cz 1 false ((d' X r S o w y).drop 5)=some S from g.o1.ldv)⟩),(λs hs=>⟨_,Ac (aG (t:=74)) rfl rfl rfl⟩),trivial,trivial,trivial,trivial,trivial,trivial⟩,?_⟩
   rw[t9];refine G2 ?_;refine X0 ?_;refine G3 ?_;refine V (E8 s7.cl aG rfl (show Cz 1 false ((dI d s kq rq yq).drop 6)=some (.mp kq)from rfl)) ?_
   refine G2 ?_;refine V (A1 (i:=0) aJ zF rfl rfl d9) ?_
   refine G ?_;refine V (kD bI gG rfl s7.ks rfl) ?_;refine G2 ?_;refine⟨rfl,rfl,?_⟩;refine Ab rfl ?_ ?_<;>intro h4
   ·have h4:kd km ka=1:=Z
    have jw:dD d km (f.hyps.take (L+1))=⟨b.fl++[h],b.bd++[b.fl.length],b.ot,b.hy,b.pl.put kb (Int.ofNat b.fl.length),0⟩:=by
     rw[d4];unfold d6;grind
    obtain⟨U4,nk,v7,E,aq⟩:=jB (enc:=cK) (sz:=1) (by':=8) zF (show N<=O U3 by omega) j.o2 b.fl.length (by simp only[az];omega)
    obtain⟨w2,a9⟩:∃w2,w2=I.sr (O U3) 0 1 (b.bd.length+1) none:=⟨_,rfl⟩;rw[<-a9]at nk E
    have a7:∀x,x<N->bm o≠some x:=λx K q=>by have:=(j.o2.adr_lt q).1;omega
    have l8:U4.get X.A=some (.cells (d' X r w1 o w y)):=(aq _ z (a7 _ z)).trans aw;obtain⟨T,a8⟩:=zE (U4.set X.A (.cells (d' X r w1 w2 w y)));have v8:O T=O U3+1:=Z;have ar:∀x,x≠X.A->T.get x=U4.get x:=Z;have ag:∀x,x<O U3->x≠X.A->bm o≠some x->T.get x=U3.get x:=λx K p1 p2=>(ar x p1).trans (aq x K p2)
    have m:∀{v:I} {sz:Nat} {α:Type} {enc:α->List I} {l:List α},aW U3 N enc sz l v->jF o v->aW T N enc sz l v:=λho hd=>ho.of_get z λx q=>by
     have:=ho.adr_lt q;exact ag x this.2 z λq1=>hd x q1 q
    have r8:tA X r (O J+3) N ⟨b.fl++[h],b.bd++[b.fl.length],b.ot,b.hy,b.pl.put kb (Int.ofNat b.fl.length),0⟩ w1 w2 w y T:=⟨Z,m j.o1 j.d12.symm,(E.of_get Z (λx q=>ar x (by have:=(E.adr_lt q).1;omega))),m j.o3 j.d23,m j.o4 j.d24,j.pl.of_get (ag _ z z (a7 _ z)),by rw[a9];exact(jZ λx q=>by have:=j.o1.ltn x q;omega),j.d13,j.d14,by rw[a9];exact(jZ λx q=>by have:=j.o3.ltn x q;omega).symm,by rw[a9];exact(jZ λx q=>by have:=j.o4.ltn x q;omega).symm,j.d34,by omega⟩
    refine G5 ?_;refine A (E8 aw aG rfl (show Cz 1 false ((d' X r w1 o w y).drop 6)=some o from j.o2.ldv)) ?_
    refine G ?_;refine Cx (Ai aJ bM rfl rfl rfl) (Dv (len:=1)) rfl rfl (A (Av aJ rfl bF rfl rfl rfl (new:=cK b.fl.length) rfl nk) ?_);refine G2 ?_;refine A (G1 (cs':=(d' X r w1 w2 w y)) l8 aG rfl rfl (oJ E) rfl) ?_;refine G ?_;rw[a8];refine G2 ?_;refine A (D3 (p:=L) (q:=1) aV rfl rfl z) ?_;refine G2 ?_;exact⟨(L+1,w1,w2,w,y),Z,SL,Z,Z,Z,λx K p1 p2=>(ag x z p1 (a7 x K)).trans (jc x K p1 p2)⟩
   ·have h4:¬kd km ka=1:=Z
    have jw:dD d km (f.hyps.take (L+1))=⟨b.fl++[h],b.bd,b.ot++[b.fl.length],b.hy,b.pl.put kb (Int.ofNat b.fl.length),0⟩:=by
     rw[d4];unfold d6;grind
    obtain⟨U4,nk,v7,E,aq⟩:=jB (enc:=cK) (sz:=1) (by':=8) zF (show N<=O U3 by omega) j.o3 b.fl.length (by simp only[az];omega)
    obtain⟨w2,a9⟩:∃w2,w2=I.sr (O U3) 0 1 (b.ot.length+1) none:=⟨_,rfl⟩;rw[<-a9]at nk E
    have a7:∀x,x<N->bm w≠some x:=λx K q=>by have:=(j.o3.adr_lt q).1;omega
    have l8:U4.get X.A=some (.cells (d' X r w1 o w y)):=(aq _ z (a7 _ z)).trans aw;obtain⟨T,a8⟩:=zE (U4.set X.A (.cells (d' X r w1 o w2 y)));have v8:O T=O U3+1:=Z;have ar:∀x,x≠X.A->T.get x=U4.get x:=Z;have ag:∀x,x<O U3->x≠X.A->bm w≠some x->T.get x=U3.get x:=λx K p1 p2=>(ar x p1).trans (aq x K p2)
    have m:∀{v:I} {sz:Nat} {α:Type} {enc:α->List I} {l:List α},aW U3 N enc sz l v->jF w v->aW T N enc sz l v:=λho hd=>ho.of_get z λx q=>by
     have:=ho.adr_lt q;exact ag x this.2 z λq1=>hd x q1 q
    have r8:tA X r (O J+3) N ⟨b.fl++[h],b.bd,b.ot++[b.fl.length],b.hy,b.pl.put kb (Int.ofNat b.fl.length),0⟩ w1 o w2 y T:=⟨Z,m j.o1 j.d13.symm,m j.o2 j.d23.symm,(E.of_get Z (λx q=>ar x (by have:=(E.adr_lt q).1;omega))),m j.o4 j.d34,j.pl.of_get (ag _ z z (a7 _ z)),j.d12,by rw[a9];exact(jZ λx q=>by have:=j.o1.ltn x q;omega),j.d14,by rw[a9];exact(jZ λx q=>by have:=j.o2.ltn x q;omega),j.d24,by rw[a9];exact(jZ λx q=>by have:=j.o4.ltn x q;omega).symm,by omega⟩
    refine G5 ?_;refine A (E8 aw aG rfl (show Cz 1 false ((d' X r w1 o w y).drop 7)=some w from j.o3.ldv)) ?_
    refine G ?_;refine Cx (Ai aJ bM rfl rfl rfl) (Dv (len:=1)) rfl rfl (A (Av aJ rfl bF rfl rfl rfl (new:=cK b.fl.length) rfl nk) ?_);refine G2 ?_;refine A (G1 (cs':=(d' X r w1 o w2 y)) l8 aG rfl rfl (oJ E) rfl) ?_;refine G ?_;rw[a8];refine G2 ?_;refine A (D3 (p:=L) (q:=1) aV rfl rfl z) ?_;refine G2 ?_;exact⟨(L+1,w1,o,w2,y),Z,SL,Z,Z,Z,λx K p1 p2=>(ag x z p1 (a7 x K)).trans (jc x K p1 p2)⟩
  ·have h3:h.floating=false:=h3;have uu:=XD ou lg h li h3
   obtain⟨hc,w0,vi⟩:∃c ct,h.text=c::ct:=by
    cases sh:h.text with
    |nil=>exact absurd sh uu
    |cons c ct=>exact⟨c,ct,rfl⟩
   have d9:h.text[0]? =some hc:=Z;refine G6 ?_;refine A (A1 (i:=0) aJ zF rfl rfl d9) ?_
   refine G ?_;refine A (Ko (q:=[124,45]) aV rfl rfl) ?_;refine G ?_;refine Ab rfl ?_ ?_<;>intro h4
   ·have ug:Nv h.text=false:=by unfold Nv;grind
    have jw:dD d km (f.hyps.take (L+1))=b:=by rw[d4];unfold d6;grind
    refine G2 ?_;refine A (D3 (p:=L) (q:=1) aV rfl rfl z) ?_;refine G2 ?_;exact⟨(L+1,S,o,w,y),Z,SL,Z,Z,Z,am⟩
   ·have ug:Nv h.text=true:=by unfold Nv;grind
    obtain⟨tr,te,d5⟩:∃tr te,B1 d h.text=(tr,te):=⟨_,_,rfl⟩
    obtain⟨Q,P,hT⟩:∃Q P,tr=.node Q P:=by cases tr;grind
    subst hT
    have jw:dD d km (f.hyps.take (L+1))=if te≠0 then⟨b.fl,b.bd,b.ot,b.hy,b.pl,te⟩else⟨b.fl,b.bd,b.ot,b.hy++[.node Q P],b.pl,0⟩:=by
     rw[d4];unfold d6;grind
    have au:=λυ=>RP d h.text υ hD sn (um h li)
    rw[d5,Cg]at au
    have lz:∀o5,I.unds o5 [sV Q,aD eT 2 P]=true:=λo5=>by rw[<-Cl];exact Es _
    refine G ?_;refine Gz 16 [.str [],nS] [sV Q,aD eT 2 P] [(17,D te)] (lz _) rfl (λmt=>?_) ?_
    ·refine oW ?_;refine AS 1 (anns:=[aP 0 1,aP 0 1,aP 0 1,aR 0 1,aP 0 1,aR 0 1,aP 0 1,aP 0 1,aP 0 1,aP 0 2,aE 0 1,aE 1 2,aP 2 2]) Di (HZ (l:=[(26,[fy d,Af h.text],.tup [.agg [sV Q,aD eT 2 P],D te])]) ⟨au,trivial⟩) Kr Kr ?_;refine V (Ag rfl) (V (Ge rfl) (V (Ae cP rfl rfl) (V (E8 s8.cl aG rfl (show Cz 3 true ((dI d s kq rq yq).drop 3)=some (fy d)from rfl)) (V (Ae cP rfl rfl) (V (Ac aG rfl rfl rfl) (V (CV rfl rfl EO) (V (Ag rfl) ?_)))))))
     refine V (S7 rfl rfl) (V (S7 rfl rfl) (DT (Bu bG) (DT (G1 (cs:=[.str [],nS]) (cs':=[sV Q,aD eT 2 P]) Z aG rfl rfl rfl rfl) ?_)));refine V (Gd rfl) (C1 ?_)
     exact⟨(by intro e he;simp at he;rcases he with rfl|rfl<;>first|exact .refl|exact K4 mt),⟨rfl,trivial⟩,sb,rfl,rfl⟩
    refine G6 ?_;refine Ab rfl ?_ ?_<;>intro h5
    ·have h5:te≠0:=Z;rw[if_pos h5]at jw
     have bs:(dD d km f.hyps).e=te:=by
      have e1:dD d km f.hyps=(f.hyps.drop (L+1)).foldl (d6 d km) (dD d km (f.hyps.take (L+1))):=by
       unfold dD;rw[<-List.foldl_append,gK]
      have e2:∀(l:List Hp) (b:lE),b.e≠0->l.foldl (d6 d km) b=b:=λl=>by
       induction l with
       |nil=>intro _ _;rfl
       |cons x l ih=>intro b hb;rw[iU,show d6 d km b x=b by unfold d6;rw[if_pos hb]];exact ih b hb
      grind
     refine G9 ?_
     exact af (h:=(false,[],[],te)) rfl rfl rfl rfl (.inr ⟨rfl,rfl⟩) (.inr ⟨rfl,rfl⟩) z gw (by unfold dT;grind)
    ·have h5:te=0:=Z;rw[if_neg (λq=>q h5)]at jw
     obtain⟨aN,uf⟩:=zE (O U)
     obtain⟨U2,sa,oh,m2,k2⟩:=aW.appZ (enc:=eT) (sz:=2) (by':=40) Dh (z:=[.str [],nS]) rfl (show N<=O U by omega) g.o4 (by simp only[az];omega)
     rw[uf]at sa oh m2 k2
     have ax:∀x,x<N->bm y≠some x:=λx K q=>by have:=(g.o4.adr_lt q).1;omega
     have tg:U2.get X.A=some (.cells (d' X r S o w y)):=(k2 _ z (ax _ z)).trans g.c
     have cd:Et (b.hy.flatMap eT++[.str [],nS]) (b.hy.length*2) [sV Q,aD eT 2 P]=some (b.hy.flatMap eT++[sV Q,aD eT 2 P]):=by
      have:=Ro (p:=b.hy.flatMap eT) (q:=[.str [],nS]) (u:=[sV Q,aD eT 2 P]) (v:=[]) rfl
      rwa[dA,dA,Dl Dh]at this
     have uh:I.beq (.agg [sV Q,aD eT 2 P]) (.agg [sV Q,aD eT 2 P])=true:=by
      have:=Z8 (.node Q P);rw[Cl]at this;exact this
     obtain⟨T,a8⟩:=zE ((U2.set aN (.cells (b.hy.flatMap eT++[sV Q,aD eT 2 P]))).set X.A (.cells (d' X r S o w (.sr aN 0 2 (b.hy.length+1) none))));have m5:O T=aN+1:=Z
     have k5:∀x,x<O U->x≠X.A->bm y≠some x->T.get x=U.get x:=λx K p1 p2=>by rw[<-a8,aU,if_neg p1,aU,if_neg z,k2 x z p2]
     have th:T.get X.A=some (.cells (d' X r S o w (.sr aN 0 2 (b.hy.length+1) none))):=Z
     have e5:T.get aN=some (.cells ((b.hy++[Ax.node Q P]).flatMap eT++[])):=by rw[<-a8,aU,if_neg z,aU,if_pos rfl,mV,dA];simp only[ej,yL,dA,Cl]
     have m:∀{v:I} {sz:Nat} {α:Type} {enc:α->List I} {l:List α},aW U N enc sz l v->jF v y->aW T N enc sz l v:=λho hd=>ho.of_get z λx q=>by
      have:=ho.adr_lt q;exact k5 x this.2 z (hd x q)
     have r8:tA X r (O J+3) N ⟨b.fl,b.bd,b.ot,b.hy++[.node Q P],b.pl,0⟩ S o w (.sr aN 0 2 (b.hy.length+1) none) T:=
      ⟨th,m g.o1 g.d14,m g.o2 g.d24,m g.o3 g.d34,.inr ⟨aN,[],by omega,by omega,by rw[gW];rfl,e5⟩,g.pl.of_get (k5 _ z z (ax _ z)),g.d12,g.d13,jZ λx q=>by have:=g.o1.ltn x q;omega,g.d23,jZ λx q=>by have:=g.o2.ltn x q;omega,jZ λx q=>by have:=g.o3.ltn x q;omega,by omega⟩
     refine G ?_
     refine SP (Rr:=Dk []) (a:=aN) (b:=X.A) (p:=b.hy.length*2) (q:=8) [.pr X.A 0,.pr X.A 0,.pr X.A 8,y,.agg [sV Q,aD eT 2 P],nV b.hy.length,.sv [.str [],nS] 2 1 (some 1),.sr aN 0 2 (b.hy.length+1) none,.pr aN (b.hy.length*2),An,.pr X.A 0,.pr X.A 8,An] 7 9 12 Di (Bw (l:=[]) trivial) rfl rfl Kr Kr rfl rfl rfl Kr Kr rfl rfl rfl rfl rfl rfl z zD zD zD (Av aJ rfl bF rfl rfl rfl (new:=[.str [],nS]) rfl sa) (G1 (cs':=b.hy.flatMap eT++[sV Q,aD eT 2 P]) oh aG rfl rfl rfl cd) (G1 (cs':=d' X r S o w (.sr aN 0 2 (b.hy.length+1) none)) tg aG rfl rfl rfl rfl) (G1 (cs:=d' X r S o w y) (cs':=d' X r S o w (.sr aN 0 2 (b.hy.length+1) none)) Z aG rfl rfl rfl rfl) rfl rfl rfl zz rfl rfl ?_ (λ_ _ _ _ _=>by kernel_rfl) (λ_ _ _ _=>by kernel_rfl) ?_
     ·intro k hk hc υ uz
      match k,hk,hc with
      |0,_,_=>exact⟨_,_,_,rfl,rfl,Ag rfl,rfl,qW⟩
      |1,_,_=>exact⟨_,_,_,rfl,rfl,Ge rfl,rfl,qW⟩
      |2,_,_=>exact⟨_,_,_,rfl,rfl,Ae (cP (t:=288) (i:=5)) rfl rfl,rfl,qW⟩
      |3,_,_=>
       rcases uz with rfl|hb
       ·exact⟨_,_,_,rfl,rfl,E8 g.c (aG (t:=37)) rfl (show Cz 1 false ((d' X r S o w y).drop 8)=some y from g.o4.ldv),rfl,A3l g.o4⟩
       ·exact(uv _ Kr hb).elim
      |4,_,_=>exact⟨_,_,_,rfl,rfl,Ac (aG (t:=39)) rfl rfl rfl,rfl,uh⟩
      |5,_,_=>exact⟨_,_,_,rfl,rfl,Bf (bF (t:=37)) rfl (rV g.o4).1 (rV g.o4).2,rfl,sj _⟩
      |6,_,_=>exact⟨_,_,_,rfl,rfl,Ai (aJ (t:=37)) bM rfl rfl rfl,rfl,rfl⟩
      |7,_,h=>cases h
      |8,_,_=>exact⟨_,_,_,rfl,rfl,Br (aJ (t:=37)) rfl rfl z,rfl,qW⟩
      |9,_,h=>cases h
      |10,_,_=>exact⟨_,_,_,rfl,rfl,Ge rfl,rfl,qW⟩
      |11,_,_=>exact⟨_,_,_,rfl,rfl,Ae (cP (t:=288) (i:=5)) rfl rfl,rfl,qW⟩
      |12,_,h=>cases h
      |k+13,hk,_=>exact absurd hk zS
     rw[a8];refine G ?_;refine A (D3 (p:=L) (q:=1) aV rfl rfl z) ?_;refine G2 ?_;exact⟨(L+1,S,o,w,.sr aN 0 2 (b.hy.length+1) none),Z,SL,Z,Z,Z,λx K p1 p2=>(k5 x z p1 (ax x K)).trans (am x K p1 p2)⟩
 ·have bj:f.hyps.length<=L:=dQ.1 (Int.not_lt.1 (λq=>of_decide_eq_false h2 q))
  rw[dG bj]at bx;refine G ?_;obtain⟨W,ay⟩:∃W,W=bZ (aM d).1 s:=⟨_,rfl⟩;obtain⟨tr,te,d5⟩:∃tr te,B1 d f.text=(tr,te):=⟨_,_,rfl⟩
  obtain⟨Q,P,hT⟩:∃Q P,tr=.node Q P:=by cases tr;grind
  subst hT;have au:=λυ=>RP d f.text υ hD sn uk
  rw[d5,Cg]at au
  have lz:∀o5,I.unds o5 [sV Q,aD eT 2 P]=true:=λo5=>by rw[<-Cl];exact Es _
  have ln:∀x:Bool×List cT×List Int×Int,(if te≠0 then(false,[],[],te)else if 6<b.bd.length then(false,[],[],4)else pK (Bal W (rT d W.km f r) b.bd [] 0 ⟨0,false,none⟩).2)=x->dT d (bZ (aM d).1 s) f r=x:=λx K=>by
   unfold dT
   grind
  refine Gz 18 [.str [],nS] [sV Q,aD eT 2 P] [(19,D te)] (lz _) rfl (λmt=>?_) ?_
  ·refine oW ?_;refine AS 1 (anns:=[aP 0 1,aP 0 1,aP 0 1,aR 0 1,aP 0 1,aR 0 1,aP 0 1,aP 0 1,aP 0 1,aP 0 2,aE 0 1,aE 1 2,aP 2 2]) Di (HZ (l:=[(26,[fy d,Af f.text],.tup [.agg [sV Q,aD eT 2 P],D te])]) ⟨au,trivial⟩) Kr Kr ?_;refine V (Ag rfl) (V (Ge rfl) (V (Ae cP rfl rfl) (V (E8 s8.cl aG rfl (show Cz 3 true ((dI d s kq rq yq).drop 3)=some (fy d)from rfl)) (V (Ae cP rfl rfl) (V (Ac aG rfl rfl rfl) (V (CV rfl rfl EO) (V (Ag rfl) ?_)))))))
   refine V (S7 rfl rfl) (V (S7 rfl rfl) (DT (Bu bG) (DT (G1 (cs:=[.str [],nS]) (cs':=[sV Q,aD eT 2 P]) Z aG rfl rfl rfl rfl) ?_)));refine V (Gd rfl) (C1 ?_)
   exact⟨(by intro e he;simp at he;rcases he with rfl|rfl<;>first|exact .refl|exact K4 mt),⟨rfl,trivial⟩,sb,rfl,rfl⟩
  refine G8 ?_;refine Ab rfl ?_ ?_<;>intro h3
  ·have h3:te≠0:=Z;refine G9 ?_;exact af (h:=(false,[],[],te)) rfl rfl rfl rfl (.inr ⟨rfl,rfl⟩) (.inr ⟨rfl,rfl⟩) z gw (ln _ Z)
  have h3:te=0:=Z;subst h3;refine G5 ?_;refine A (E8 g.c aG rfl (show Cz 1 false ((d' X r S o w y).drop 6)=some o from g.o2.ldv)) (A (Bf bF rfl (rV g.o2).1 (rV g.o2).2) ?_)
  refine G3 ?_;refine Ab rfl ?_ ?_<;>intro h4
  ·have h4:6<b.bd.length:=Int.ofNat_lt.1 (of_decide_eq_true h4);refine G8 ?_;exact af (h:=(false,[],[],4)) rfl rfl rfl rfl (.inr ⟨rfl,rfl⟩) (.inr ⟨rfl,rfl⟩) z gw (ln _ Z)
  have h4:¬6<b.bd.length:=λq=>of_decide_eq_false h4 (Int.ofNat_lt.2 q)
  obtain⟨R,hR⟩:∃R,R=rT d W.km f r:=⟨_,rfl⟩
  have ri:R=⟨b.fl,b.bd,b.ot,b.hy,.node Q P,oI b.pl f.apart,r⟩:=by
   rw[hR,show W.km=km by rw[ay,uo]];unfold rT;rw[bx,d5]
  have tv:fX W R:=by
   rw[hR,ay]
   exact wy hb lg uj Z (by rw[d5]) Z f0 f9
  obtain⟨ae,bz⟩:∃l:List I,l=[.pr X.a 0,.mp X.q,.int .i64 0,.int .i64 0,D r,S,o,w,y,sV Q,aD eT 2 P,.mp X.pq,.bool false,.bool false,nS,nS]:=⟨_,rfl⟩;obtain⟨U6,tc⟩:=zE (U.set X.A (.cells ae));have n6:O U6=O U:=Z;have g6:∀x,x≠X.A->U6.get x=U.get x:=Z;have c6:U6.get X.A=some (.cells ae):=Z;have ui:U6.get X.pq=some (.map 289 [] 0):=(g6 _ z).trans ((am _ z z z).trans Z);have se:B8 D U6 (O J+3) b.pl:=g.pl.of_get (g6 _ z);refine G7 ?_
  refine A (G1 (cs':=ae) g.c aG rfl rfl rfl (by rw[bz];rfl)) ?_
  refine G ?_;rw[tc];refine G9 ?_;refine Bz f.apart.length (λL=>[(11,.pr X.A 0),(12,.mp (O J+3)),(162,aD eP 2 f.apart),(163,nV f.apart.length),(164,nV L)]) (λL C=>O U6<=O C/\(∀x,x<O U6->x≠X.pq->C.get x=U6.get x)/\eW 289 bE C X.pq (oI b.pl (f.apart.take L))) SL ⟨Y,λ_ _ _=>rfl,0,ui⟩ ?_
  rintro i1 C w5 ⟨m0,k0,B,lu⟩;refine G5 ?_;refine Ab rfl ?_ ?_<;>intro h5
  ·have ry:i1<f.apart.length:=Int.ofNat_lt.1 (of_decide_eq_true h5);obtain⟨p,hp⟩:=Ar ry;have j0:B8 D C (O J+3) b.pl:=se.of_get (k0 _ z z);obtain⟨mm,lq⟩:=zE (oI b.pl (f.apart.take i1))
   have mj:oI b.pl (f.apart.take (i1+1))=(mm.put (kd b.pl p.a,kd b.pl p.b) true).put (kd b.pl p.b,kd b.pl p.a) true:=by
    unfold oI;rw[Fw hp,List.foldl_append];unfold oI at lq;rw[lq];rfl
   rw[lq]at lu;have r7:C.get X.A=some (.cells ae):=(k0 _ z z).trans c6
   have iw:Cz 1 false (ae.drop 11)=some (.mp X.pq):=by rw[bz];rfl
   have wb:X.pq<O C:=by omega
   obtain⟨ai,sw⟩:=zE ((C.set X.pq (.map 289 (jK bE (.bool false) mm (kd b.pl p.a,kd b.pl p.b)) (B+1))).new (.stamp X.pq (B+1) (KE.k (kd b.pl p.a,kd b.pl p.b))));have na:O ai=O C+1:=Z;have ga:ai.get X.pq=some (.map 289 (jK bE (.bool false) mm (kd b.pl p.a,kd b.pl p.b)) (B+1)):=Z;have tp:ai.get (O C)=some (.stamp X.pq (B+1) (KE.k (kd b.pl p.a,kd b.pl p.b))):=Z;have vn:∀x,x<O C->x≠X.pq->ai.get x=C.get x:=Z;obtain⟨mb,ur⟩:=zE (mm.put (kd b.pl p.a,kd b.pl p.b) true);obtain⟨aj,sx⟩:=zE (ai.set X.pq (.map 289 (Hi bE mb) (B+1+1)));have nb:O aj=O C+1:=Z;have gb:aj.get X.pq=some (.map 289 (Hi bE mb) (B+1+1)):=Z;have vu:∀x,x<O C->x≠X.pq->aj.get x=C.get x:=Z;obtain⟨an,t7⟩:=zE ((aj.set X.pq (.map 289 (jK bE (.bool false) mb (kd b.pl p.b,kd b.pl p.a)) (B+1+1+1))).new (.stamp X.pq (B+1+1+1) (KE.k (kd b.pl p.b,kd b.pl p.a))));have nc:O an=O C+2:=Z;have gc:an.get X.pq=some (.map 289 (jK bE (.bool false) mb (kd b.pl p.b,kd b.pl p.a)) (B+1+1+1)):=Z;have tq:an.get (O aj)=some (.stamp X.pq (B+1+1+1) (KE.k (kd b.pl p.b,kd b.pl p.a))):=Z;have vw:∀x,x<O C->x≠X.pq->an.get x=C.get x:=Z;refine cD ?_;refine X0 ?_;refine G3 ?_;refine V (kD bI gG rfl j0 rfl) ?_;refine G3 ?_;refine V (kD bI gG rfl j0 rfl) ?_;refine G3 ?_;refine⟨rfl,rfl,?_⟩;refine XS (l:=[]) trivial ?_;refine G3 ?_;refine V (E8 r7 aG rfl iw) ?_;refine G2 ?_;refine V (G0 fS fW rfl rfl) ?_;refine G3 ?_;refine V (E8 r7 aG rfl iw) ?_;refine G2 ?_;refine V (G0 fS fW rfl rfl) (DT (NM sw nN rfl lu rfl (yd (kd b.pl p.a) (kd b.pl p.b))) ?_);refine G ?_;refine DT (Bcq (v:=true) sx ur nN rfl rfl rfl (λte k1 k2=>I0 k1 k2) tp ga) ?_
   refine DT (NM t7 nN rfl gb rfl (yd (kd b.pl p.b) (kd b.pl p.a))) ?_;refine G ?_;refine DT (Kh (enc:=bE) (v:=true) nN rfl rfl rfl (λte k1 k2=>I0 k1 k2) tq gc) ?_
   refine G2 ?_;refine A (D3 (p:=i1) (q:=1) aV rfl rfl z) ?_;refine G2 ?_;refine⟨ry,SL,Z,Z,B+1+1+1+1,Z⟩
  have rt:f.apart.length<=i1:=dQ.1 (Int.not_lt.1 (λq=>of_decide_eq_false h5 q))
  rw[dG rt]at lu;refine G ?_;have gA:C.get X.A=some (.cells ae):=(k0 _ z z).trans c6
  have gz:∀{v:I} {sz:Nat} {α:Type} {enc:α->List I} {l:List α},aW U N enc sz l v->aW C N enc sz l v:=λho=>ho.of_get z λx q=>by
   have:=ho.adr_lt q
   grind
  have o1:=gz g.o1;have o2:=gz g.o2;have o3:=gz g.o3;have o4:=gz g.o4;refine Bo λno=>?_
  obtain⟨ao,db⟩:=zE (without (without (without (without C S) o) w) y)
  have nk:O ao=O C:=by rw[<-db,L7,L7,L7,L7]
  have gk:∀x,ao.get x=if bm y=some x then none else if bm w=some x then none else if bm o=some x then none else if bm S=some x then none else C.get x:=λx=>by rw[<-db,E0,E0,E0,E0]
  have vx:∀x,x<N->ao.get x=C.get x:=λx K=>by
   rw[gk,if_neg (λq=>by have:=(o4.adr_lt q).1;omega),if_neg (λq=>by have:=(o3.adr_lt q).1;omega),if_neg (λq=>by have:=(o2.adr_lt q).1;omega),if_neg (λq=>by have:=(o1.adr_lt q).1;omega)]
  obtain⟨ac,su⟩:=zE (ao.set X.A (.cells (cB R X 0 ⟨0,false,none⟩)));have nF:O ac=O C:=Z;have gF:∀x,x<N->x≠X.A->ac.get x=C.get x:=Z;have ap:∀x,x<O J->ac.get x=J.get x:=Z;have al:I.unds (O C) ae=true:=(no _ _ gA).2.1
  have sf:Ds C ac:=by
   rw[<-su]
   refine Ds.cellK no (by rw[<-db];exact no.without.without.without.without) nk (λx wl K=>?_) gA λU' e1 e2=>?_
   ·rw[gk]at K
    grind
   ·have ea:∀x,x≠X.A->(bm y=some x\/bm w=some x\/bm o=some x\/bm S=some x)->U'.get x=none:=λx h1 h2=>e2 x h1 (by
     rw[gk]
     grind)
    have nA:∀{v:I} {sz:Nat} {α:Type} {enc:α->List I} {l:List α},aW C N enc sz l v->∀x,bm v=some x->x≠X.A:=λho x q=>by have:=(ho.adr_lt q).1;omega
    rw[bz]at al⊢;rw[ri];simp only[I.unds,I.und,bg]at al
    refine .cons (.same (by rw[e1];exact al.1)) (.cons (.same (by rw[e1];exact al.2.1)) (.cons (.same rfl) (.cons (.same rfl) (.cons (.same rfl) (.cons (o1.fzA zF (λx q=>ea x (nA o1 x q) (.inr (.inr (.inr q)))) (A2 Mr _)) (.cons (o2.fzA zF (λx q=>ea x (nA o2 x q) (.inr (.inr (.inl q)))) (A2 zF _)) (.cons (o3.fzA zF (λx q=>ea x (nA o3 x q) (.inr (.inl q))) (A2 zF _)) (.cons (o4.fzA Dh (λx q=>ea x (nA o4 x q) (.inl q)) (A2 Es _)) (.cons (.same rfl) (.cons (.same (A2 Es _)) (.cons (.same ?_) (.cons (.same rfl) (.cons (.same rfl) (.cons (.same rfl) (.cons (.same rfl) .nil)))))))))))))))
    rw[e1]
    show Nat.ble (X.pq+1) _=true
    rw[sR];omega
  have hB:kO d s W rm R X 0 ⟨0,false,none⟩ [] ac:=by
   refine⟨?_,Z,⟨0,by rw[gF _ z z,k0 _ z z,g6 _ z,am _ z z z,uc];exact tn⟩,B,Z⟩
   rw[tz,ua,ud,ue,ay];exact hS.of_get (ap _ lc) (ap _ lj) (ap _ ly) (ap _ ns)
  have r6:=HK (Yc d) (show W.g=(aM d).1.rules by rw[ay];rfl) Z (show W.n=s.size by rw[ay];rfl) uw ub tv hB ⟨rfl,rfl,Int.le_refl 0,Z⟩
  refine PZ ac [(11,.pr X.A 0)] sf z ⟨⟨_,rfl,.same (by show Nat.ble (X.A+1) _=true;rw[sR];omega)⟩,trivial⟩ ?_
  refine G3 ?_;refine Az rfl rfl rfl rfl r6 ?_;rintro v9 J9 ⟨n9,g9,⟨k9,m9,c9,_⟩,_⟩;refine G ?_;have kf:∀x,x<O J->J9.get x=J.get x:=λx K=>(g9 x z z z).trans (ap x K)
  have tu:R.bd=b.bd:=by rw[ri]
  obtain⟨rr,ux⟩:=zE (Bal W R b.bd [] 0 ⟨0,false,none⟩);rw[tu,ux]at c9;have cx:dT d (bZ (aM d).1 s) f r=pK rr.2:=ln _ Z;obtain⟨br,dg,sp,rf⟩:=rr;refine G6 ?_;refine A (E8 c9 aG rfl (show Cz 1 false ((cB R X k9 ⟨dg,sp,rf⟩).drop 12)=some (.bool sp)from rfl)) ?_
  refine G ?_;refine Ab rfl ?_ ?_<;>intro h6
  ·have h6:sp=true:=h6;refine G8 ?_
   exact af (h:=(false,[],[],10)) rfl rfl rfl rfl (.inr ⟨rfl,rfl⟩) (.inr ⟨rfl,rfl⟩) z kf (by rw[cx];unfold pK;rw[if_pos h6])
  have h6:sp=false:=h6;refine G7 ?_;refine A (E8 c9 aG rfl (show Cz 1 false ((cB R X k9 ⟨dg,sp,rf⟩).drop 13)=some (.bool rf.isSome)from rfl)) ?_
  refine G ?_;refine Ab rfl ?_ ?_<;>intro h7
  ·obtain⟨⟨lm,le⟩,lw⟩:=gV.1 (show rf.isSome=true from h7)
   subst lw;refine G ?_;refine X0 ?_;refine G3 ?_;refine V (E8 c9 aG rfl (show Cz 1 false ((cB R X k9 ⟨dg,sp,some (lm,le)⟩).drop 14)=some (aD gE 3 lm)from rfl)) ?_
   refine G3 ?_;refine V (E8 c9 aG rfl (show Cz 1 false ((cB R X k9 ⟨dg,sp,some (lm,le)⟩).drop 15)=some (aD eI 1 le)from rfl)) ?_
   refine G5 ?_;refine⟨rfl,rfl,?_⟩;refine G ?_
   exact af (h:=(false,lm,le,0)) rfl rfl rfl rfl (.inl rfl) (.inl rfl) z kf (by rw[cx];unfold pK;grind)
  have lw:rf=none:=by
   cases rf with
   |none=>rfl
   |some x=>exact absurd h7 zS
  subst lw;refine G9 ?_
  exact af (h:=(true,[],[],0)) rfl rfl rfl rfl (.inr ⟨rfl,rfl⟩) (.inr ⟨rfl,rfl⟩) z kf (by rw[cx];unfold pK;grind)
def nG(h:Fr->Bool×Int):List Fr->Nat->Bool×Int×Int
 |[],_=>(true,0,0)
 |f::r,k=>if f.thm=true then nG h r (k+1)else if(h f).2≠0 then(false,0,(h f).2)else if(h f).1=true then nG h r (k+1)else(false,Int.ofNat k,0)
def lR(h:Fr->Bool×Int)(i:Int):List Fr->Nat->Bool->Bool×Int
 |[],_,o=>(o,0)
 |f::r,k,o=>if f.thm=true then lR h i r (k+1) o else if(h f).2≠0 then(false,(h f).2)else lR h i r (k+1) (o&&decide ((h f).1= !decide (Int.ofNat k=i)))
def jS(h:Fr->Bool×Int)(i:Int):List Fr->Nat->Int->Bool->Option (Int×Bool)
 |[],_,p,o=>some (p,o)
 |f::r,k,p,o=>if f.thm=true then jS h i r (k+1) p o else if(h f).2≠0 then none else jS h i r (k+1) (if(!(h f).1&&decide (p<0))=true then Int.ofNat k else p) (o&&decide ((h f).1= !decide (Int.ofNat k=i)))
theorem Bbe{h:Fr->Bool×Int}{i:Int}:∀{a:List Fr} {k:Nat} {p:Int} {o:Bool} {q:Int} {u:Bool},jS h i a k p o=some (q,u)->lR h i a k o=(u,0)
 |[],_,_,_,_,_,e=>by cases e;rfl
 |f::r,k,p,o,q,u,e=>by
  unfold jS at e;unfold lR
  split at e
  ·rw[if_pos (by assumption)];exact Bbe e
  ·rw[if_neg (by assumption)]
   split at e
   ·cases e
   ·rw[if_neg (by assumption)];exact Bbe e
theorem Bam{h:Fr->Bool×Int}{i:Int}:∀{b:List Fr} {k:Nat} {p:Int} {o:Bool} {q:Int} {u:Bool},0<=p->jS h i b k p o=some (q,u)->q=p
 |[],_,_,_,_,_,_,e=>by cases e;rfl
 |f::r,k,p,o,q,u,a,e=>by
  unfold jS at e
  split at e
  ·exact Bam a e
  ·split at e
   ·cases e
   ·rw[if_neg (by simp;omega)]at e
    exact Bam a e
theorem Bbf{h:Fr->Bool×Int}{i:Int}:∀{a:List Fr} {k:Nat} {o:Bool} {q:Int} {u:Bool},jS h i a k (-1) o=some (q,u)->nG h a k=(decide (q<0),max q 0,0)
 |[],_,_,_,_,e=>by cases e;rfl
 |f::r,k,o,q,u,e=>by
  unfold jS at e;unfold nG
  split at e
  ·rw[if_pos (by assumption)];exact Bbf e
  ·rw[if_neg (by assumption)]
   split at e
   ·cases e
   ·rw[if_neg (by assumption)]
    cases b:(h f).1 with
    |true=>rw[b]at e;rw[if_pos rfl];exact Bbf e
    |false=>
     rw[b]at e
     rw[if_neg zD]
     have:=Bam zS e
     rw[this];simp
structure pO (d:Db)(s:cA):Prop where
 D:nE d
 vf:d.vars.length+d.frames.length<1000000
 so:s.sorts.length<1000000
 sy:s.syms.length<1000000
 yl:∀y∈s.syms,y.vals.length<1000000
 gs:(aM d).1.sorts.length<1000000
 fr:∀f∈d.frames,f.hyps.length<1000000/\f.text.length<1000000/\(∀h∈f.hyps,h.text.length<1000000)/\f.apart.length<1000000
def jQ(d:Db)(s:cA)(f:Fr)(r:Int):Bool×List cT×List Int×Int:=if cO (aM d) s=0 then dT d (bZ (aM d).1 s) f r else(false,[],[],cO (aM d) s)
def kj(d:Db)(s:cA)(r:Int)(f:Fr):Bool×Int:=((dT d (bZ (aM d).1 s) f r).1,(dT d (bZ (aM d).1 s) f r).2.2.2)
def oO(d:Db)(s:cA)(r:Int):Bool×Int×Int:=if cO (aM d) s=0 then nG (kj d s r) d.frames 0 else(false,0,cO (aM d) s)
def lX(d:Db)(s:cA)(i:Nat)(f:Fr)(r:Int):Bool×Int:=if cO (aM d) s=0 then(if f.thm=true then(false,13)else lR (kj d s r) (Int.ofNat i) d.frames 0 true)else(false,cO (aM d) s)
theorem NZ(a b:Bool):(a==b)=decide (a=b):=Z
def DI(d:Db)(s:cA)(J:F)(p:I)(q:F):Prop:=Below (O J) J q/\(cO (aM d) s=0->p=.pr (O J+3) 0/\∃a,(∀l,a.get l=F4 (aM d).1.rules l)/\fH d s (bZ (aM d).1 s).km a (bZ (aM d).1 s).sm (O J+3) (O J) (O J+1) (O J+2) q)
theorem EX{d s}(K:pO d s)(J){r}(k:0<=r)(a:r<=100000):Al M 88 [fy d,iE s,D r] J λv f=>∃p,v=.tup [p,D (cO (aM d) s)]/\DI d s J p f:=by
 refine Aj Tryz.func88 rfl rfl λq n=>?_
 refine fJ ?_;refine Az rfl rfl rfl rfl (OX d s J K.D K.vf K.so K.sy K.yl K.gs) ?_;rintro _ U ⟨p,rfl,e,l⟩;refine G6 ?_;have j:decide (r<0)=false:=decide_eq_false z;have h:decide ((100000:Int)<r)=false:=decide_eq_false z;refine G6 ?_;refine Hq 6 _ false rfl rfl rfl rfl rfl (Eh rfl) (λH=>?_) (λH=>?_) ?_
 ·iterate 2 refine Gn H ?_
  rw[j];refine Gn H ?_
  refine Qh 2 _ false rfl rfl rfl rfl rfl (Ft rfl rfl rfl rfl (by rw[H];rfl)) (λH=>?_) (λH=>?_) ?_
  ·iterate 2 refine Gn H ?_
   refine G ?_;refine⟨rfl,?_,?_⟩
   ·exact sb
   ·rename_i g;exact congrArg (λb=>some (I.bool b)) (by assumption)
  ·iterate 2 refine Gn H ?_
   refine G ?_;exact⟨rfl,sb⟩
  refine G ?_;refine⟨rfl,?_,?_⟩
  ·exact sb
  ·exact rfl
 ·iterate 6 refine Gn H ?_
  refine G ?_;exact⟨rfl,sb⟩
 refine G ?_;refine Ab rfl ?_ ?_<;>intro o
 ·grind
 ·refine G8 ?_;refine Bo λc=>BF (i:=8) rfl λm=>?_
  refine G ?_
  exact⟨_,rfl,_,_,a_ c Y zN,e.1,.same (by show(I.und _ p&&(true&&true))=true;rw[m];rfl),p,rfl,e,l⟩
theorem ε{d s}(K:pO d s)(J):Cv 34 [fy d,iE s] J (D (cO (aM d) s)):=by
 refine Aj Tryz.func34 rfl rfl λc b=>?_
 refine cD ?_;refine Az rfl rfl rfl rfl (OX d s J K.D K.vf K.so K.sy K.yl K.gs) ?_;rintro _ U ⟨p,rfl,a,e⟩;refine cG ?_;exact⟨_,rfl,_,J,bL c a,Y,.same rfl,rfl,rfl⟩
theorem ML{d s}(K:pO d s)(J){fuel}(k:0<=fuel)(a:fuel<=100000){i f}(N:d.frames[i]? =some f):
  Cv 35 [fy d,iE s,nV i,D fuel] J (.tup [.bool (jQ d s f fuel).1,aD gE 3 (jQ d s f fuel).2.1,aD eI 1 (jQ d s f fuel).2.2.1,D (jQ d s f fuel).2.2.2]):=by
 have m:=(bQ.1 N).1;obtain⟨r,t,u,w⟩:=K.fr f (bA N);refine Aj Tryz.func35 rfl rfl λj q=>?_
 iterate 14 refine G ?_
 refine Az rfl rfl rfl rfl (EX K J k a) ?_;rintro _ U ⟨p,rfl,h,o⟩;refine G6 ?_;have n:decide (Int.ofNat i<0)=false:=decide_eq_false Z;have e:decide (Int.ofNat d.frames.length<=Int.ofNat i)=false:=decide_eq_false Z;refine G6 ?_;refine Hq 9 _ false rfl rfl rfl rfl rfl (Eh rfl) (λH=>?_) (λH=>?_) ?_
 ·iterate 2 refine Gn H ?_
  rw[n];refine Gn H ?_
  refine Qh 5 _ false rfl rfl rfl rfl rfl (Ft rfl rfl rfl rfl (by rw[H];rfl)) (λH=>?_) (λH=>?_) ?_
  ·iterate 2 refine Gn H ?_
   refine On H (Ac (v:=aD eF 8 d.frames) aG rfl rfl rfl) ?_
   iterate 2 refine Gn H ?_
   refine G ?_;refine⟨rfl,?_,?_⟩
   ·exact sb
   ·exact congrArg (λb=>some (I.bool b)) e
  ·iterate 5 refine Of H ?_
   refine G ?_;exact⟨rfl,sb⟩
  refine G ?_;refine⟨rfl,?_,rfl⟩
  repeat (first|exact Hy.refl|refine Hy.cons rfl ?_)
 ·iterate 3 refine Of H ?_
  iterate 5 refine Ou ?_
  refine Gn H ?_;refine G ?_;exact⟨rfl,sb⟩
 refine G ?_;refine Ab rfl ?_ ?_<;>intro y
 ·grind
 refine G7 ?_;refine Ab rfl ?_ ?_<;>intro c
 ·have c:cO (aM d) s≠0:=Z;refine G9 ?_;unfold jQ;rw[if_neg c];exact⟨_,rfl,.tup [.bool false,aD gE 3 [],aD eI 1 [],D (cO (aM d) s)],J,bL j h,Y,.tup (.cons (.same rfl) (.cons (.nils Z) (.cons (.nils Z) (.cons (.same rfl) .nil)))),rfl,rfl⟩
 have c:cO (aM d) s=0:=Z;obtain⟨rfl,E,g,l⟩:=o c;refine G6 ?_;refine Ca (f89 K.D K.vf c l g N r t u w k a) ?_;refine cD ?_;unfold jQ;rw[if_pos c]
 exact⟨_,rfl,_,J,bL j h,Y,.same (by
  have B:I.und (O J) (aD gE 3 (dT d (bZ (aM d).1 s) f fuel).2.1)=true:=Fv (λx=>NV x) _
  have C:I.und (O J) (aD eI 1 (dT d (bZ (aM d).1 s) f fuel).2.2.1)=true:=Fv zF _
  show(true&&(I.und (O J) (aD gE 3 _)&&(I.und (O J) (aD eI 1 _)&&(true&&true))))=true;grind),rfl,rfl⟩
theorem f36{d s}(K:pO d s)(N:d.frames.length<1000000)(J){r}(k:0<=r)(a:r<=100000):
  Cv 36 [fy d,iE s,D r] J (.tup [.bool (oO d s r).1,D (oO d s r).2.1,D (oO d s r).2.2]):=by
 refine Aj Tryz.func36 rfl rfl λm W=>?_
 iterate 13 refine G ?_
 refine Az rfl rfl rfl rfl (EX K J k a) ?_;rintro _ U ⟨p,rfl,l,T⟩;refine cG ?_;refine Ab rfl ?_ ?_<;>intro j
 ·have j:cO (aM d) s≠0:=Z;refine G8 ?_;unfold oO;rw[if_neg j];exact⟨_,rfl,_,J,bL m l,Y,.same rfl,rfl,rfl⟩
 have j:cO (aM d) s=0:=Z;obtain⟨rfl,rm,u,E⟩:=T j;obtain⟨R,C⟩:=zE (nG (kj d s r) d.frames 0)
 rw[show oO d s r=R by unfold oO;rw[if_pos j];exact C]
 refine G5 ?_;refine A (Ac (v:=aD eF 8 d.frames) aG rfl rfl rfl) ?_;refine G4 ?_;refine Bz d.frames.length (λi=>[(2,D r),(9,.pr (O J+3) 0),(28,aD eF 8 d.frames),(29,nV d.frames.length),(30,nV i)]) (λi w=>w=U/\nG (kj d s r) (d.frames.drop i) i=R) SL ⟨rfl,C⟩ ?_
 rintro i w P ⟨rfl,b⟩;refine G5 ?_;refine Ab rfl ?_ ?_<;>intro x
 ·have g:i<d.frames.length:=Int.ofNat_lt.1 (of_decide_eq_true x);obtain⟨f,n⟩:=Ar g;obtain⟨X,q2,q3,q4⟩:=K.fr f (bA n);rw[A4 n,nG]at b;refine G8 ?_;refine Rn bG aG rfl rfl zF rfl zF rfl rfl rfl rfl rfl ?_
  refine G7 ?_;refine Ab rfl ?_ ?_<;>intro y
  ·rw[if_pos (show f.thm=true from y)]at b
   refine G5 ?_;exact⟨g,SL,rfl,b⟩
  ·rw[if_neg (show ¬f.thm=true by rw[show f.thm=false from y];decide)]at b
   refine G6 ?_;refine Ca (f89 K.D K.vf j E u n X q2 q3 q4 k a) ?_;refine cD ?_;obtain⟨o,e,h⟩:∃o e,kj d s r f=(o,e):=⟨_,_,rfl⟩;have Q:(dT d (bZ (aM d).1 s) f r).1=o:=congrArg Prod.fst h;have L:(dT d (bZ (aM d).1 s) f r).2.2.2=e:=congrArg Prod.snd h;rw[Q,L];rw[h]at b;refine G5 ?_;refine Qh 2 _ (!o) rfl rfl rfl rfl rfl (Eh rfl) (λH=>?_) (λH=>?_) ?_
   ·iterate 2 refine Gn H ?_
    refine G ?_;refine⟨rfl,?_,?_⟩
    ·exact sb
    ·exact rfl
   ·iterate 2 refine Of H ?_
    refine G ?_;exact⟨rfl,sb⟩
   refine G ?_;refine Ab rfl ?_ ?_<;>intro B
   ·refine G6 ?_;refine Ab rfl ?_ ?_<;>intro c
    ·have c:e≠0:=Z;rw[if_pos c]at b;refine cG ?_;rw[<-b];exact⟨_,rfl,_,J,bL m l,Y,.same rfl,rfl,rfl⟩
    ·have c:e=0:=Z;have S:o=false:=Z;subst c;rw[if_neg (λq=>q rfl),if_neg Z]at b
     refine cD ?_;rw[<-b];exact⟨_,rfl,_,J,bL m l,Y,.same rfl,rfl,rfl⟩
   ·have B:(!decide (e=0)|| !o)=false:=B
    have c:e=0/\o=true:=Z;rw[if_neg (λq=>q c.1),if_pos c.2]at b
    refine G5 ?_;exact⟨g,SL,rfl,b⟩
 ·have t:d.frames.length<=i:=dQ.1 (Int.not_lt.1 (λq=>of_decide_eq_false x q))
  rw[cv t,nG]at b;refine G8 ?_;rw[<-b];exact⟨_,rfl,_,J,bL m l,Y,.same rfl,rfl,rfl⟩
theorem SY{d s}(K:pO d s)(X:d.frames.length<1000000)(J){r}(k:0<=r)(a:r<=100000){i h}(E:d.frames[i]? =some h):
  Cv 37 [fy d,iE s,nV i,D r] J (.tup [.bool (lX d s i h r).1,D (lX d s i h r).2]):=by
 have a7:=(bQ.1 E).1;refine Aj Tryz.func37 rfl rfl λy a8=>?_
 refine cG ?_;refine Az rfl rfl rfl rfl (EX K J k a) ?_;rintro _ U ⟨p,rfl,w,hp⟩
 iterate 14 refine G ?_
 refine Ab rfl ?_ ?_<;>intro l
 ·have l:cO (aM d) s≠0:=Z;refine G7 ?_;unfold lX;rw[if_neg l];exact⟨_,rfl,_,J,bL y w,Y,.same rfl,rfl,rfl⟩
 have l:cO (aM d) s=0:=Z;obtain⟨rfl,rm,P,T⟩:=hp l;have hl:decide (Int.ofNat i<0)=false:=decide_eq_false Z;have m:decide (Int.ofNat d.frames.length<=Int.ofNat i)=false:=decide_eq_false Z;refine G4 ?_;rw[hl];refine G ?_;refine Qh 5 _ false rfl rfl rfl rfl rfl (Eh rfl) (λH=>?_) (λH=>?_) ?_
 ·iterate 2 refine Gn H ?_
  refine On H (Ac (v:=aD eF 8 d.frames) aG rfl rfl rfl) ?_
  iterate 2 refine Gn H ?_
  refine G ?_;refine⟨rfl,?_,?_⟩
  ·exact sb
  ·exact congrArg (λb=>some (I.bool b)) m
 ·iterate 5 refine Of H ?_
  refine G ?_;exact⟨rfl,sb⟩
 refine G2 ?_;refine Ab rfl ?_ ?_<;>intro t
 ·cases t
 refine G3 ?_;refine A (Ac (v:=aD eF 8 d.frames) aG rfl rfl rfl) ?_;refine G6 ?_;refine Ab rfl ?_ ?_<;>intro g
 ·have g:h.thm=true:=g;refine G6 ?_;unfold lX;rw[if_pos l,if_pos g];exact⟨_,rfl,_,J,bL y w,Y,.same rfl,rfl,rfl⟩
 have g:¬h.thm=true:=Z;obtain⟨R,S⟩:=zE (lR (kj d s r) (Int.ofNat i) d.frames 0 true)
 rw[show lX d s i h r=R by unfold lX;rw[if_pos l,if_neg g];exact S]
 refine G9 ?_;refine A (Ac (v:=aD eF 8 d.frames) aG rfl rfl rfl) ?_;refine G4 ?_;refine Ci (λx:Nat×Bool=>[(2,nV i),(3,D r),(10,.pr (O J+3) 0),(12,.bool x.2),(48,aD eF 8 d.frames),(49,nV d.frames.length),(50,nV x.1)]) (λx Q=>x.1<=d.frames.length/\Q=U/\lR (kj d s r) (Int.ofNat i) (d.frames.drop x.1) x.1 x.2=R) (λx=>d.frames.length-x.1) (0,true) SL ⟨bU _,rfl,S⟩ ?_
 rintro⟨j,B⟩ Q ⟨L,rfl,c⟩
 dsimp only at L c
 refine G5 ?_;refine Ab rfl ?_ ?_<;>intro t
 ·have N:j<d.frames.length:=Int.ofNat_lt.1 (of_decide_eq_true t);obtain⟨f,C⟩:=Ar N;obtain⟨q1,q2,q3,q4⟩:=K.fr f (bA C);rw[A4 C,lR]at c;refine G8 ?_;refine Rn bG aG rfl rfl zF rfl zF rfl rfl rfl rfl rfl ?_
  refine G7 ?_;refine Ab rfl ?_ ?_<;>intro g
  ·rw[if_pos (show f.thm=true from g)]at c
   refine G2 ?_;refine A (D3 (p:=j) (q:=1) aV rfl rfl z) ?_;refine G2 ?_;exact⟨(j+1,B),Z,SL,Z,rfl,c⟩
  ·rw[if_neg (show ¬f.thm=true by rw[show f.thm=false from g];decide)]at c
   refine G6 ?_;refine Ca (f89 K.D K.vf l T P C q1 q2 q3 q4 k a) ?_;refine cD ?_;obtain⟨o,e,n⟩:∃o e,kj d s r f=(o,e):=⟨_,_,rfl⟩;have ho:(dT d (bZ (aM d).1 s) f r).1=o:=congrArg Prod.fst n;have W:(dT d (bZ (aM d).1 s) f r).2.2.2=e:=congrArg Prod.snd n;rw[ho,W];rw[n]at c;refine G6 ?_;refine Ab rfl ?_ ?_<;>intro u
   ·have u:e≠0:=Z;rw[if_pos u]at c;refine G7 ?_;rw[<-c];exact⟨_,rfl,_,J,bL y w,Y,.same rfl,rfl,rfl⟩
   have u:e=0:=Z;rw[if_neg (λq=>q u),<-NZ]at c
   refine G4 ?_;refine Hq 5 _ (o== !decide (Int.ofNat j=Int.ofNat i)) rfl rfl rfl rfl rfl (Eh rfl) (λ(H:B=true)=>?_) (λ(H:B=false)=>?_) ?_
   ·iterate 4 refine Gn H ?_
    refine On H (sE sH rfl rfl) ?_;refine G ?_;refine⟨rfl,?_,?_⟩
    ·exact sb
    ·exact rfl
   ·iterate 5 refine Of H ?_
    refine G ?_;exact⟨rfl,sb⟩
   refine G3 ?_;refine A (D3 (p:=j) (q:=1) aV rfl rfl z) ?_;refine G2 ?_;exact⟨(j+1,B&&(o== !decide (Int.ofNat j=Int.ofNat i))),Z,SL,Z,rfl,c⟩
 ·have m:d.frames.length<=j:=dQ.1 (Int.not_lt.1 (λq=>of_decide_eq_false t q))
  rw[cv m,lR]at c;refine G8 ?_;rw[<-c];exact⟨_,rfl,_,J,bL y w,Y,.same rfl,rfl,rfl⟩
theorem YT(s:cA)(J:F)(Q:s.sorts.length<1000000)(hc:s.syms.length<1000000):Cv 33 [iE s] J (iE s):=by
 refine Aj Tryz.func33 rfl rfl λT ac=>?_
 refine G3 ?_;refine A (Bu bG) ?_;refine G6 ?_;refine A (Bj (n:=O J+1) bG (Ao _ _)) (A (sO (a:=O J+1) (off:=0) (cs:=[.int .i64 0,nS,nS]) (cs':=[D s.size,nS,nS]) Z) ?_);refine cD ?_;refine Bz s.sorts.length (λj=>[(1,.pv (mF s)),(2,.pr (O J) 0),(3,.pr (O J+1) 0),(12,aD kC 2 s.sorts),(13,D (.ofNat s.sorts.length)),(14,D (.ofNat j))]) (λj e=>∃v,e.get (O J)=some (.cells [.int .i64 0,nS,nS])/\e.get (O J+1)=some (.cells [D s.size,v,nS])/\aW e (O J+2) kC 2 (s.sorts.take j) v/\O J+2<=O e/\(∀b,b<O J->e.get b=J.get b)) SL ⟨nS,Z,Z,.nil,Z,Z⟩ ?_
 rintro j e a9 ⟨v,p,g,E,P,N⟩;refine G5 ?_;refine Ab rfl ?_ ?_<;>intro h1
 ·have U:j<s.sorts.length:=Z;obtain⟨B,m⟩:=Ar U;have a7:=A4 m
  have bn:((s.sorts.take j).length+[B].length)*(24+1)<=az:=by rw[gC];simp[az];omega
  obtain⟨v1,y,f,d,c,_⟩:=E.app (by':=24) CA P [B] bn
  have R:=c.1;have q:y.get (O J+1)=some (.cells [D s.size,v,nS]):=(c.2 _ z).trans g;refine fJ ?_;refine A (lO g) ?_;refine G ?_;refine Cx (Ai aJ bM rfl rfl rfl) (Dv (len:=1)) rfl rfl (A (Av aJ rfl bF rfl rfl rfl (new:=[B].flatMap kC) rfl f) ?_);refine G ?_;refine A (G1 (a:=O J+1) (off:=1) (cs:=[D s.size,v,nS]) (cs':=[D s.size,v1,nS]) q aG rfl rfl (oJ d) rfl) ?_;refine G5 ?_
  refine⟨U,SL,v1,(by rw[aU,if_neg z];exact(c.2 _ z).trans p),Z,(by rw[Fw m];exact d.mono Z Z),Z,λb Q=>by rw[aU,if_neg z];exact(c.2 _ z).trans (N b Q)⟩
 ·have bj:s.sorts.length<=j:=Z;rw[dG bj]at E;refine cD ?_;refine Bz s.syms.length (λk=>[(2,.pr (O J) 0),(3,.pr (O J+1) 0),(26,aD eD 3 s.syms),(27,D (.ofNat s.syms.length)),(28,D (.ofNat k))]) (λk l=>∃u,l.get (O J+1)=some (.cells [D s.size,v,u])/\aW l (O e) eD 3 (s.syms.take k) u/\O e<=O l/\(∀b,b<O e->b≠O J+1->l.get b=e.get b)) SL ⟨nS,g,.nil,Y,λ_ _ _=>rfl⟩ ?_
  rintro k l aa ⟨u,h,K,S,w⟩;refine G5 ?_;refine Ab rfl ?_ ?_<;>intro h2
  ·have W:k<s.syms.length:=Z;obtain⟨C,o⟩:=Ar W;have a8:=A4 o
   have i:((s.syms.take k).length+[C].length)*(48+1)<=az:=by rw[gC];simp[az];omega
   obtain⟨X,y,f,d,c,_⟩:=K.app (by':=48) sI S [C] i
   have R:=c.1;have r:y.get (O J+1)=some (.cells [D s.size,v,u]):=(c.2 _ z).trans h;refine fJ ?_;refine A (lO h) ?_;refine G ?_;refine Cx (Ai aJ bM rfl rfl rfl) (Dv (len:=1)) rfl rfl (A (Av aJ rfl bF rfl rfl rfl (new:=[C].flatMap eD) rfl f) ?_);refine G ?_;refine A (G1 (a:=O J+1) (off:=2) (cs:=[D s.size,v,u]) (cs':=[D s.size,v,X]) r aG rfl rfl (oJ d) rfl) ?_;refine G5 ?_
   refine⟨W,SL,X,Z,(by rw[Fw o];exact d.mono Z Z),Z,λb Q x=>by rw[aU,if_neg x];exact(c.2 _ z).trans (w b Q x)⟩
  ·have ba:s.syms.length<=k:=Z;rw[dG ba]at K;have L:l.get (O J)=some (.cells [.int .i64 0,nS,nS]):=(w _ z z).trans p;refine G3 ?_;refine A (lO h) (A (sO (a:=O J) (off:=0) (cs:=[.int .i64 0,nS,nS]) (cs':=[D s.size,v,u]) L) ?_);refine G2 ?_
   exact⟨[.agg [D s.size,v,u]],Am (aG (t:=86)) rfl (by simp only[F.cells];rw[aU,if_pos rfl]) rfl rfl,_,J,bL T ⟨Z,Z⟩,Y,.agg (.cons (.same rfl) (.cons ((E.mono Z Z).fz CA (λa ha=>T.none z) (A2 YB _)) (.cons ((K.mono Z Z).fz sI (λa ha=>T.none z) (A2 IU _)) .nil))),rfl,rfl⟩
theorem UG{d}(h:W6 d 15 60=true):W6 d 25 100=true:=by
 unfold W6 at h⊢;simp only[bg,decide_eq_true_eq,eQ]at h⊢;obtain⟨⟨⟨g,a⟩,b⟩,c⟩:=h
 refine⟨⟨⟨by omega,a⟩,b⟩,rO.2 λf e=>?_⟩
 have:=rO.1 c f e;unfold ku at this⊢
 grind
section
variable {Rr:bP}{ρ:Ad}{J:F}{t ty p q:Nat}{k:IntKind}{x y:Operand}
theorem ZG:(Ay M.P 3).map (·.desc)=some (.int .i64):=Kr
theorem ZJ:(Ay M.P 5).isSome=true:=Kr
theorem SD(W:Ah M ρ x=some (.int k (.ofNat p)))(a:p<256):As M Rr (.convert 5 3 x) ρ J (nV p) J:=λg h=>by
 obtain⟨f,b,c⟩:=pR.1 ZG;obtain⟨i,d⟩:=gV.1 ZJ;have e:Nat.ble p 9223372036854775807=true:=dS z;simp only[bB,Aw,b,c,d,h.opd W,Pp,Me,Ak,M0,e,cond_true];rfl
theorem A4w(L:cW M.P t=true)(W:Ah M ρ x=some (nV p))(B:Ah M ρ y=some (nV q))(h:q≠0):As M Rr (.binOp .rem t x y ty) ρ J (nV (p%q)) J:=by
 obtain⟨q,rfl⟩:∃k,q=k+1:=⟨q-1,by omega⟩
 exact L0 (p:=.ofNat p) (q:=.ofNat (q+1)) L W B (by show(C7 (p%(q+1)) λm=>some (I.int .i64 (.ofNat m)))=_;rw[Ak];rfl)
end
end Go.AM
