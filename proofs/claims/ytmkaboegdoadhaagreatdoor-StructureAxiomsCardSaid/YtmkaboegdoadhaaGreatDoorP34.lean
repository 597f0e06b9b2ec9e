/- A part of the proof; shortened by program. -/
import Derived.Test.YtmkaboegdoadhaaGreatDoorP33
set_option maxRecDepth 100000
set_option maxHeartbeats 4000000
set_option linter.all false
namespace Go.AM
open Go Go.Proofs
def eA.Ok(X:eA):Prop:=X.a<X.q/\X.kq<X.q/\X.rq<X.q/\X.yq<X.q/\X.q<X.pq/\X.pq<X.A
def zq(X:eA)(T a:Nat):I:=.fn (.func 199) [] [.pv [.pr X.A 0],.pr T 0,.pr a 0]
structure iD (d:Db)(s:cA)(W:Wd)(rm:SM Rl)(R:b9)(X:eA)(M:cF)(st:dH)(m:SM (cT×I))(sz fB:Nat)(J:F):Prop where
 w:fH d s W.km rm W.sm X.a X.kq X.rq X.yq J
 mc:J.get X.A=some (.cells (cB R X M.k st))
 of:B8 eM J X.q m
 p:eW 289 bE J X.pq R.pr
 zz:J.get sz=some (.cells [D (W.n ^ M.k)])
 f:J.get fB=some (.cells [zq X sz fB])
section
variable {d:Db}{s:cA}{W:Wd}{rm:SM Rl}{R:b9}{X:eA}{M M':cF}{st st':dH}{m m':SM (cT×I)}{sz fB:Nat}{J U:F}
theorem iD.mv(h:iD d s W rm R X M st m sz fB J)(i:bY J)(P:X.Ok)(t:X.A<sz)(N:X.A<fB)(n:M'.k=M.k)(H:∀b,b<O J->b≠X.A->b≠X.q->U.get b=J.get b)(r:U.get X.A=some (.cells (cB R X M.k st')))(o:B8 eM U X.q m'):iD d s W rm R X M' st' m' sz fB U:=by
 obtain⟨⟨a,c,e,f⟩,p,q,j,k,l⟩:=h;obtain⟨u,v,w,x,y,B⟩:=P;have g:∀b,b<O J->b≠X.A->b≠X.q->U.get b=J.get b:=H
 exact⟨⟨(g _ (i _ _ a).1 z z).trans a,c.of_get (g _ (c.lt i) z z),e.of_get (g _ (e.lt i) z z),f.of_get (g _ (f.lt i) z z)⟩,Z,o,j.of_get (g _ (j.lt i) z z),by rw[n];exact(g _ (i _ _ k).1 z z).trans k,(g _ (i _ _ l).1 z z).trans l⟩
theorem iD.keep(h:iD d s W rm R X M st m sz fB J)(i:bY J)(H:∀b,b<O J->U.get b=J.get b):iD d s W rm R X M st m sz fB U:=by
 obtain⟨⟨a,c,e,f⟩,g,j,k,l,n⟩:=h;exact⟨⟨(H _ (i _ _ a).1).trans a,c.of_get (H _ (c.lt i)),e.of_get (H _ (e.lt i)),f.of_get (H _ (f.lt i))⟩,(H _ (i _ _ g).1).trans g,j.of_get (H _ (j.lt i)),k.of_get (H _ (k.lt i)),(H _ (i _ _ l).1).trans l,(H _ (i _ _ n).1).trans n⟩
theorem iD.sr(h:iD d s W rm R X M st m sz fB J){a B}(x:lB M a m B J):gT d s W rm R X M a st.cnt st.sp st.rf.isSome (RT st) (MI st) J:=
 ⟨h.w,h.mc,⟨m,h.of,λc b=>by obtain⟨v,e,f,_⟩:=x c b;grind⟩,h.p⟩
end
theorem qN{R X k b}{J:F}{l:List Int}{o}(h:J.get X.A=some (.cells (cB R X k b)))(a:J.get o=some (.cells (l.flatMap eI))):o≠X.A:=λe=>by
 subst e;rw[a]at h
 injection h with h
 injection h with h
 cases l with
 |nil=>cases h
 |cons x l=>cases h
theorem HX{q m J}{l:List Int}{o}(h:B8 eM J q m)(a:J.get o=some (.cells (l.flatMap eI))):o≠q:=λe=>by
 subst e;obtain⟨v,h⟩:=h
 grind
def yC(R:b9)(X:eA)(E:cF)(m:SM (cT×I))(n:Nat)(r:Bool×dH)(J:F)(v:I)(q:F):Prop:=
 v=.bool r.1/\O J<=O q/\(∀b,b<O J->b≠X.A->b≠X.q->q.get b=J.get b)/\q.get X.A=some (.cells (cB R X E.k r.2))/\(∃c,B8 eM q X.q c/\∀a,gO R n a->c.get a=m.get a)/\(r.1=true->jJ R r.2)
def e3(x:cT×I):List I:=[sV x.1.var,D x.1.obj,x.2]
def HG(x:cT×I):Prop:=x.2=aD eI 1 x.1.vals\/(x.2=nS/\x.1.vals=[])
theorem Bem{J U}:∀{E:List (cT×I)},(∀x∈E,HG x)->cH J U (E.flatMap e3) ((E.map (·.1)).flatMap gE)
 |[],_=>.nil
 |x::E,h=>by
  have b:=Bem (J:=J) (U:=U) (E:=E) λy d=>h y (ch _ d)
  have a:=h x (cX ..);rw[fG,ej,ej]
  show cH J U (sV x.1.var::D x.1.obj::x.2::E.flatMap e3) (sV x.1.var::D x.1.obj::aD eI 1 x.1.vals::(E.map (·.1)).flatMap gE)
  refine .cons (.same rfl) (.cons (.same rfl) (.cons ?_ b))
  rcases a with a|⟨a,c⟩
  ·rw[a];exact .same (Fv zF _)
  ·rw[a,c];exact .nils Z
theorem Ki:∀{k:Nat},k<=6->(3:Int) ^ k<=729:=λ{k} h=>by
 have:k=0\/k=1\/k=2\/k=3\/k=4\/k=5\/k=6:=by omega
 grind
theorem wL{d:Db}{s:cA}{W:Wd}{rm:SM Rl}{R:b9}{X:eA}{g:Gr}(hG:gU g)(lu:W.g=g.rules)(hW:jN W)(hn:W.n=s.size)(s8:∀l,rm.get l=F4 g.rules l)(hX:X.Ok)(S:fX W R){f:cF}(hM:kP W R R.ot.length f){st:dH}{m:SM (cT×I)}{sz fB B:Nat}{J:F}(hz:X.A<sz)(hf:X.A<fB)(hT:iD d s W rm R X f st m sz fB J)(hO:lB f (gO R R.ot.length) m B J)(ou:jJ R st):
  Al M 199 [nV R.ot.length,.pv [.pr X.A 0],.pr sz 0,.pr fB 0] J λv J'=>yC R X f m R.ot.length (lU W R f st) J v J':=by
 obtain⟨c,sp,rf⟩:=st;obtain⟨P,h2,ae,d4⟩:=ou;have P:sp=false:=P;have h2:rf=none:=h2;subst P h2;have ae:0<=c:=ae;have d4:c<=R.fuel:=d4
 have g1:1<=s.size:=by rw[<-hn];exact hW.n1
 have g3:s.size<=3:=by rw[<-hn];exact hW.n3
 have sx:=S.f9;obtain⟨x1,x2,x3,x4,x5,x6⟩:=id hX;refine Aj Tryz.func199 rfl rfl λhw tg=>?_
 have hA:X.A<O J:=(hw _ _ hT.mc).1;have hq:X.q<O J:=hT.of.lt hw;have ac:∀{ρ:Ad} {U:F} {r:Bool×dH},bY U->Ad.at ρ 5=some (.pr (O J) 0)->U.get (O J)=some (.cells [.bool r.1])->O J<=O U->(∀b,b<O J->b≠X.A->U.get b=J.get b)->U.get X.A=some (.cells (cB R X f.k r.2))->(r.1=true->jJ R r.2)->lU W R f ⟨c,false,none⟩=r->
   jI M Tryz.f199 (O J) (λv J'=>yC R X f m R.ot.length (lU W R f ⟨c,false,none⟩) J v J') ρ U:=by
  intro ρ U r ai p5 q5 ey d9 lc db he;rw[he]
  exact⟨[.bool r.1],Am (vs:=[.bool r.1]) (aG (t:=4)) p5 (by simp only[F.cells];rw[q5]) rfl rfl,.bool r.1,U,a_ ai Y zN,ey,.same rfl,rfl,ey,λb w i _=>d9 b w i,lc,⟨m,hT.of.of_get (d9 _ hq z),λ_ _=>rfl⟩,db⟩
 obtain⟨J1,jc⟩:=zE (J.new (.cells [.bool false]));have n1:O J1=O J+1:=Z;have l7:∀b,b<O J->J1.get b=J.get b:=Z;have c5:J1.get (O J)=some (.cells [.bool false]):=Z;have ln:iD d s W rm R X f ⟨c,false,none⟩ m sz fB J1:=hT.keep hw l7;have dg:J1.get X.A=some (.cells (cp R X f.k c false false nS nS)):=ln.mc;refine sG ?_;refine G3 ?_;refine A (Bj (n:=O J) bG rfl) ?_;refine G ?_;rw[jc];refine G2 ?_;refine X0 ?_;refine G4 ?_;refine V (E8 dg aG rfl (show Cz 1 false ((cp R X f.k c false false nS nS).drop 7)=some (aD cK 1 R.ot)from rfl)) ?_
 refine G3 ?_;refine⟨rfl,rfl,?_⟩;refine Ab rfl ?_ ?_<;>intro P
 ·grind
 obtain⟨J2,kf⟩:=zE (J1.set X.A (.cells (cp R X f.k (c+1) false false nS nS)));have n2:O J2=O J+1:=Z;have aa:J2.get (O J)=some (.cells [.bool false]):=Z;have ag:J2.get X.A=some (.cells (cp R X f.k (c+1) false false nS nS)):=Z;have g2:∀b,b<O J->b≠X.A->J2.get b=J.get b:=Z;refine G7 ?_;refine Ca (GW dg ae z) ?_;refine G2 ?_;rw[kf];refine Ab rfl ?_ ?_<;>intro h2
 ·have h2:R.fuel<c+1:=Z;refine G5 ?_;refine A (sO (cs':=cp R X f.k (c+1) true false nS nS) ag) ?_;refine G3 ?_
  refine A (G1 (cs':=[.bool false]) (by rw[aU,if_neg z];exact aa) aG rfl rfl rfl rfl) ?_
  refine G2 ?_;intro k
  exact ac (r:=(false,⟨c+1,true,none⟩)) k rfl Z Z Z (by rw[aU,if_neg z,aU,if_pos rfl];rfl) Z (by unfold lU;rw[if_pos h2])
 ·have h2:¬R.fuel<c+1:=Z;have a9:jJ R ⟨c+1,false,none⟩:=⟨rfl,rfl,Z,Z⟩;have lj:lB f (gO R R.ot.length) m B J2:=hO.of_get λl o _ ho=>g2 o (hw _ _ ho).1 (qN hT.mc ho)
  have lq:iD d s W rm R X f ⟨c+1,false,none⟩ m sz fB J2:=hT.mv hw hX hz hf rfl (λb w P _=>g2 b w P) ag (hT.of.of_get (g2 _ hq z))
  have ay:=lq.sr lj;have gz:=Ti S hM;rw[hn]at gz;refine G5 ?_
  refine Ca (IC ay g1 g3 hM.k6 S.lo (by have:=S.n6;omega) gz (WF S hM)) ?_
  refine G2 ?_;cases tc:Bb6 s.size R f [] R.ot with
  |false=>
   refine Co rfl rfl rfl rfl rfl rfl (Co rfl rfl rfl rfl rfl rfl (A (A3 rfl rfl rfl) ?_));refine G ?_;refine Ab rfl (λh3=>?_) Z
   refine G2 ?_;refine A (sO (cs':=[.bool true]) aa) ?_;refine G2 ?_;intro k
   exact ac (r:=(true,⟨c+1,false,none⟩)) k rfl Z Z Z (by rw[aU,if_neg z];exact ag) (λ_=>a9) (by unfold lU;grind)
  |true=>
   refine Bi rfl rfl rfl rfl rfl bT rfl rfl (Ac aG rfl rfl rfl) (AY rfl rfl rfl rfl rfl rfl rfl rfl (f203 ay hG lu hW hn s8 hM.k6 S.lh (λt ht=>PX S hM (.inl ht)) (PX S hM (.inr rfl))) ?_)
   rintro _ J3 ⟨rfl,n3,ao,K⟩;refine A (Au rfl rfl rfl) ?_;refine G ?_;have al:J3.get (O J)=some (.cells [.bool false]):=(ao _ z z).trans aa;have ap:∀b,b<O J->b≠X.A->J3.get b=J.get b:=λb w i=>(ao b z i).trans (g2 b w i)
   cases d5:jX W R f with
   |none=>
    rw[d5]at K;refine Ab rfl (λh3=>?_) Z
    refine G2 ?_;refine A (sO (cs':=[.bool true]) al) ?_;refine G2 ?_;intro k
    exact ac (r:=(true,⟨c+1,false,none⟩)) k rfl Z Z Z (by rw[aU,if_neg z];exact K) (λ_=>a9) (by unfold lU;grind)
   |some e=>
    rw[d5]at K;have K:J3.get X.A=some (.cells (cp R X f.k (c+1) false false nS (aD eI 1 e))):=K
    have r6:lU W R f ⟨c,false,none⟩=(false,⟨c+1,false,some (R.fl.map λh=>f.of h.label,e)⟩):=by unfold lU;grind
    obtain⟨J4,kr⟩:=zE (J3.set X.A (.cells (cp R X f.k (c+1) false true nS (aD eI 1 e))));have n4:O J4=O J3:=Z;have ar:J4.get X.A=some (.cells (cp R X f.k (c+1) false true nS (aD eI 1 e))):=Z;have g4:∀b,b≠X.A->J4.get b=J3.get b:=Z;obtain⟨N,hN⟩:=zE (O J4);have t8:=S.lf;refine Ab rfl Z (λh3=>?_)
    refine G6 ?_;refine A (sO (cs':=cp R X f.k (c+1) false true nS (aD eI 1 e)) K) ?_;refine G ?_;rw[kr];refine G6 ?_;refine A (E8 ar aG rfl (show Cz 1 false ((cp R X f.k (c+1) false true nS (aD eI 1 e)).drop 5)=some (aD eH 3 R.fl)from rfl)) ?_
    refine G4 ?_
    refine Ci (λx:List (cT×I)×I=>[(1,.pv [.pr X.A 0]),(5,.pr (O J) 0),(90,aD eH 3 R.fl),(91,nV R.fl.length),(92,nV x.1.length)]) (λx U=>x.1.length<=R.fl.length/\x.1.map (·.1)=(R.fl.take x.1.length).map (λh=>f.of h.label)/\(∀y∈x.1,HG y)/\aW U N e3 3 x.1 x.2/\U.get X.A=some (.cells (cp R X f.k (c+1) false true x.2 (aD eI 1 e)))/\N<=O U/\∀b,b<N->b≠X.A->U.get b=J4.get b) (λx=>R.fl.length-x.1.length) ([],nS) SL ⟨bU _,rfl,Z,.nil,ar,by omega,λ_ _ _=>rfl⟩ ?_
    rintro⟨E,v⟩ U ⟨li,a8,ax,bf,a7,nt,gt⟩
    dsimp only at li a8 ax bf a7
    refine G5 ?_;refine Ab rfl ?_ ?_<;>intro h4
    ·have af:E.length<R.fl.length:=Int.ofNat_lt.1 (of_decide_eq_true h4);obtain⟨h,hh⟩:=Ar af;have t7:=bA hh
     have hV:gO R R.ot.length h.label:=by
      have hi:=(S.ix E.length).2 af;rw[<-jG hh]
      rcases hi with hi|hi
      ·exact .inl ⟨_,hi,rfl⟩
      ·exact .inr ⟨_,Z,rfl⟩
     obtain⟨T,oo,r7,t9⟩:=hO _ hV;have gs:∀b,b<O J->b≠X.A->U.get b=J.get b:=λb w i=>(gt b z i).trans ((g4 b i).trans (ap b w i))
     have r8:B8 eM U X.q m:=hT.of.of_get (gs _ hq z)
     obtain⟨a,ha⟩:∃a,(∀j:F,(∀b,b<O U->j.get b=U.get b)->Al M 91 [T] j λu J'=>u=a/\J'=j)/\HG (f.of h.label,a)/\I.cellsN a 1=some [a]/\I.cellsN T 1=some [T]/\Cz 1 false [T]=some T/\Cz 3 true [sV (f.of h.label).var,D (f.of h.label).obj,a]=some (.agg [sV (f.of h.label).var,D (f.of h.label).obj,a]):=by
      rcases r7 with⟨rfl,sc⟩|⟨o,rfl,ho⟩
      ·exact⟨nS,λj _=>DC j,.inr ⟨rfl,sc⟩,rfl,rfl,rfl,rfl⟩
      ·have ri:=(hw _ _ ho).1;refine⟨aD eI 1 (f.of h.label).vals,λj ak=>?_,.inl rfl,rfl,rfl,rfl,rfl⟩
       refine xL (l:=(f.of h.label).vals) (tl:=[]) ?_ rfl ?_
       ·rw[dA,ak o z,gs o ri (qN hT.mc ho)];exact ho
       ·rcases(S.ix E.length).2 af with hi|hi
        ·have:=hM.be _ hi;rw[jG hh]at this
         grind
        ·have:=(hM.ot _ (by rw[List.take_length];exact hi)).1
         rw[jG hh]at this;have hp:=(Bci hW.n1 hW.n3 f.k).2;have sq:=Ki hM.k6
         grind
     obtain⟨bx,sw,lw,cx,ly,bz⟩:=ha;obtain⟨U1,l5⟩:=zE ((U.new (.cells jR)).set (O U) (.cells [sV (f.of h.label).var,D (f.of h.label).obj,T]));have th:O U1=O U+1:=Z;have l8:∀b,b<O U->U1.get b=U.get b:=Z;have am:U1.get (O U)=some (.cells [sV (f.of h.label).var,D (f.of h.label).obj,T]):=Z;obtain⟨L,l6⟩:=zE (U1.set (O U) (.cells [sV (f.of h.label).var,D (f.of h.label).obj,a]));have tn:O L=O U+1:=Z;have aq:∀b,b<O U->L.get b=U.get b:=Z;have an:L.get (O U)=some (.cells [sV (f.of h.label).var,D (f.of h.label).obj,a]):=Z;have sd:∀b,bm v=some b->N<=b/\b<O U:=λb w=>bf.adr_lt w
     have ij:aW L N e3 3 E v:=bf.of_get z λb q=>aq b (sd b q).2
     obtain⟨U3,lz,tp,iw,l9⟩:=jB (enc:=e3) (sz:=3) (by':=48) zF (show N<=O L by omega) ij (f.of h.label,a) (by simp only[az];omega)
     have Q:L.get X.A=some (.cells (cp R X f.k (c+1) false true v (aD eI 1 e))):=(aq _ z).trans a7;have lg:∀b,b<N->bm v≠some b:=Z;have au:U3.get X.A=some (.cells (cp R X f.k (c+1) false true v (aD eI 1 e))):=(l9 _ z (lg _ z)).trans Q
     have j0:Cz 1 false [v]=some v:=by rcases bf with⟨_,rfl|rfl⟩|⟨_,_,_,_,rfl,_⟩<;>rfl
     refine G9 ?_;refine Bo λai=>?_
     refine G ?_;refine XX 1 (l:=[]) trivial ?_;refine G4 ?_;refine V (E8 a7 aG rfl (show Cz 1 false ((cp R X f.k (c+1) false true v (aD eI 1 e)).drop 1)=some (.mp X.q)from rfl)) ?_
     refine G2 ?_
     refine V (Nr (v:=(f.of h.label,T)) bI pT rfl r8 rfl oo) (DT (Bj (n:=O U) bG rfl) (DT (sO (cs:=jR) (cs':=[sV (f.of h.label).var,D (f.of h.label).obj,T]) (by rw[a5,if_pos rfl];rfl)) ?_))
     refine G ?_
     refine⟨(by intro e he;simp at he;rcases he with rfl|rfl<;>first|exact .refl|exact K4 ai),?_⟩
     rw[show(U.new (.cells [.str [],.int .i64 0,nS])).set (O U) (.cells [sV (f.of h.label).var,D (f.of h.label).obj,T])=U1 from l5]
     refine G3 ?_;refine A (E8 am aG rfl ly) ?_;refine Ca (bx U1 l8) ?_;refine G ?_;refine A (G1 (cs':=[sV (f.of h.label).var,D (f.of h.label).obj,a]) am aG rfl rfl lw rfl) ?_;refine G ?_;rw[l6];refine L4 (Rr:=Dk []) (anns:=[⟨.read,0,1⟩,⟨.read,0,0⟩,⟨.pure,0,0⟩,⟨.pure,0,0⟩,⟨.read,0,0⟩,⟨.read,0,0⟩,⟨.pure,0,0⟩,⟨.eff,0,1⟩,⟨.pure,1,1⟩,⟨.pure,1,1⟩,⟨.eff,1,2⟩]) Di (Bw (l:=[]) trivial) Kr ?_;refine G4 ?_;refine V (E8 Q aG rfl (show Cz 1 false ((cp R X f.k (c+1) false true v (aD eI 1 e)).drop 14)=some v from j0)) (V (E8 an aG rfl bz) (V (Ai aJ bM rfl rfl rfl) (DT (Av aJ rfl bF rfl rfl rfl (new:=e3 (f.of h.label,a)) rfl lz) ?_)))
     refine G2 ?_;refine DT (sO (cs':=cp R X f.k (c+1) false true (.sr (O L) 0 3 (E.length+1) none) (aD eI 1 e)) au) ?_;refine G ?_
     refine⟨⟨(λs hs=>⟨_,Ac (aG (t:=280)) rfl rfl rfl⟩),(λs hs=>⟨_,Ac (aG (t:=280)) rfl rfl rfl⟩),trivial,trivial,(λs hs=>by obtain rfl:=cI.1 hs;exact⟨_,E8 Q (aG (t:=89)) rfl (show Cz 1 false ((cp R X f.k (c+1) false true v (aD eI 1 e)).drop 14)=some v from j0)⟩),(λs hs=>by obtain rfl:=cI.1 hs;exact⟨_,E8 an (aG (t:=186)) rfl bz⟩),trivial,trivial,trivial,trivial,trivial,trivial⟩,?_⟩
     refine G ?_;refine A (D3 (p:=E.length) (q:=1) aV rfl rfl z) ?_;refine G2 ?_
     refine⟨(E++[(f.of h.label,a)],.sr (O L) 0 3 (E.length+1) none),Z,⟨rfl,rfl,rfl,rfl,by show _=some (nV (E++[_]).length);rw[gW,rR];rfl,trivial⟩,Z,?_,?_,?_,Z,Z,Z⟩
     ·show(E++[(f.of h.label,a)]).map (·.1)=(R.fl.take (E++[(f.of h.label,a)]).length).map _
      rw[gW,rR,Fw hh,iG,iG,a8];rfl
     ·grind
     ·exact iw.of_get Z λb q=>by
       have q:some (O L)=some b:=q
       grind
    ·have oh:E.length=R.fl.length:=Z;rw[oh,List.take_length]at a8;have no:U.get (O J)=some (.cells [.bool false]):=(gt _ z z).trans ((g4 _ z).trans al);have gs:∀b,b<O J->b≠X.A->U.get b=J.get b:=λb w i=>(gt b z i).trans ((g4 b i).trans (ap b w i))
     refine G3 ?_;refine A (sO (cs':=[.bool false]) no) ?_;refine G2 ?_;intro k;obtain⟨j,ak⟩:=zE (U.set (O J) (.cells [.bool false]));rw[ak]at k⊢;have nu:O j=O U:=Z;have gu:∀b,b≠O J->j.get b=U.get b:=Z;have cu:j.get (O J)=some (.cells [.bool false]):=Z;have aw:j.get X.A=some (.cells (cp R X f.k (c+1) false true v (aD eI 1 e))):=(gu _ z).trans a7
     have s7:aW j N e3 3 E v:=bf.of_get z λb q=>gu b (by have:=(bf.adr_lt q).1;omega)
     have ns:∀C:F,(∀b,bm v=some b->C.get b=none)->Fz j C v (aD gE 3 (R.fl.map λh=>f.of h.label)):=λC aj=>by
      rw[<-a8]
      rcases s7 with⟨he,hv|hv⟩|⟨b,tl,P,h2,hv,h3⟩
      ·rw[he,hv];exact .nils Z
      ·rw[he,hv];exact .sv Z .nil
      ·have sa:Dr (E.length*3) ((E.flatMap e3++tl).drop 0)=some (E.flatMap e3):=by
        have:=D0 (l:=E.flatMap e3) (r:=tl)
        rwa[Dl (enc:=e3) (sz:=3) zF]at this
       rw[hv]
       have:=Fz.sr (J:=j) (U:=C) (cap:=none) h3 (aj b (by rw[hv];rfl)) sa (Bem ax)
       show Fz j C _ (.sv ((E.map (·.1)).flatMap gE) 3 (E.map (·.1)).length none)
       grind
     have mt:∀C:F,O C=O j->(∀b,bm v=some b->C.get b=none)->cH j C (cp R X f.k (c+1) false true v (aD eI 1 e)) (cB R X f.k ⟨c+1,false,some (R.fl.map λh=>f.of h.label,e)⟩):=λC r9 aj=>by
      have ah:I.unds (O C) (cp R X f.k (c+1) false true v (aD eI 1 e))=true:=by rw[r9];exact(k _ _ aw).2.1
      unfold cp gH GJ at ah;simp only[dL,fK,I.unds,bg]at ah;obtain⟨u0,u1,u2,u3,u4,u5,u6,u7,u8,u9,se,sf,sh,si,tq,sn,_⟩:=ah;exact .cons (.same u0) (.cons (.same u1) (.cons (.same u2) (.cons (.same u3) (.cons (.same u4) (.cons (.same u5) (.cons (.same u6) (.cons (.same u7) (.cons (.same u8) (.cons (.same u9) (.cons (.same se) (.cons (.same sf) (.cons (.same sh) (.cons (.same si) (.cons (ns C aj) (.cons (.same sn) .nil)))))))))))))))
     obtain⟨a,ha⟩:∃a,a=(bm v).getD (O j):=⟨_,rfl⟩;have cx:∀b,bm v=some b->a=b:=Z
     have su:O J+1<=a:=by
      cases hv:bm v with
      |none=>rw[ha,hv];show O J+1<=O j;omega
      |some b=>rw[cx b hv];have:=(bf.adr_lt hv).1;omega
     have o5:Ds j ((j.kill a).set X.A (.cells (cB R X f.k ⟨c+1,false,some (R.fl.map λh=>f.of h.label,e)⟩))):=Ds.cell k aw z λC P h2=>mt C P Z
     have gf:∀b,b<O J->b≠X.A->((j.kill a).set X.A (.cells (cB R X f.k ⟨c+1,false,some (R.fl.map λh=>f.of h.label,e)⟩))).get b=J.get b:=λb w i=>by rw[aU,if_neg i,dF,if_neg z,gu b z];grind
     rw[r6]
     exact⟨[.bool false],Am (vs:=[.bool false]) (aG (t:=4)) rfl (by simp only[F.cells];rw[cu]) rfl rfl,.bool false,_,o5,Z,.same rfl,rfl,Z,λb w P _=>gf b w P,Z,⟨m,hT.of.of_get (gf _ hq z),λ_ _=>rfl⟩,Z⟩
theorem MH{W R}(x:fX W R){n i}(L:R.ot[n]? =some i){t}(h:gO R n t):t≠R.lab i:=λe=>by
 have a:=bA L
 rcases h with⟨k,b,rfl⟩|⟨k,b,rfl⟩
 ·exact x.bo b (x.inj (.inl b) (.inr a) e▸a)
 ·exact RI x.nb L (x.inj (.inr (kJ b)) (.inr a) e▸b)
theorem PG{R n i}(L:R.ot[n]? =some i){t}:gO R (n+1) t↔gO R n t\/t=R.lab i:=by
 unfold gO
 constructor
 ·rintro(h|⟨k,a,rfl⟩)
  ·grind
  ·rcases(yG L).1 a with a|rfl
   ·grind
   grind
 ·rintro((h|⟨k,a,rfl⟩)|rfl)
  ·exact .inl h
  ·grind
  ·exact .inr ⟨i,(yG L).2 (.inr rfl),rfl⟩
theorem f199{d:Db}{s:cA}{W:Wd}{rm:SM Rl}{R:b9}{X:eA}{g:Gr}(hG:gU g)(bz:W.g=g.rules)(hW:jN W)(hn:W.n=s.size)(gz:∀l,rm.get l=F4 g.rules l)(hX:X.Ok)(hR:fX W R){sz fB:Nat}(hz:X.A<sz)(hf:X.A<fB):∀(r n:Nat) {a:cF} {j:dH} {m:SM (cT×I)} {B:Nat} {J:F},n+r=R.ot.length->kP W R n a->iD d s W rm R X a j m sz fB J->lB a (gO R n) m B J->jJ R j->
  Al M 199 [nV n,.pv [.pr X.A 0],.pr sz 0,.pr fB 0] J λv J'=>yC R X a m n (Bb7 W R (R.ot.drop n) a j) J v J'
 |0,n,a,j,m,B,J,am,hM,hT,hO,aj=>by
  have am:n=R.ot.length:=by omega
  subst am;rw[qQ];exact wL hG bz hW hn gz hX hR hM hz hf hT hO aj
 |r+1,n,a,j,m,B,J,am,hM,hT,hO,aj=>by
  have d9:n<R.ot.length:=by omega
  obtain⟨i,hi⟩:=Ar d9;have ns:=bA hi;obtain⟨h,hh⟩:=hR.at (.inr ns);have no:=bA hh
  obtain⟨c,ct,ln⟩:∃c ct,h.text=c::ct:=by
   cases ht:h.text with
   |nil=>exact absurd ht (hR.tx h no)
   |cons c ct=>exact⟨c,ct,rfl⟩
  have r7:R.srt i=c:=by rw[zZ hh,ln];rfl
  have d5:R.lab i=h.label:=jG hh;have li:h.text[0]? =some c:=Z
  have g1:1<=s.size:=by rw[<-hn];exact hW.n1
  have g3:s.size<=3:=by rw[<-hn];exact hW.n3
  obtain⟨p1,p2⟩:=Bci hW.n1 hW.n3 a.k;have p3:=Ki hM.k6
  obtain⟨P,su⟩:=Int.eq_ofNat_of_zero_le (show 0<=W.n ^ a.k by omega)
  have s7:P<1000000:=Z;have v1:=rN (k:=kd W.km c) g1;have v3:=y0 (k:=kd W.km c) g3;obtain⟨f,cx⟩:∃f:List Int->dH->Bool×dH,f=λl s=>Bb7 W R (R.ot.drop (n+1)) (a.put ⟨R.lab i,0,l⟩) s:=⟨_,rfl⟩
  have cd:Bb7 W R (R.ot.drop n) a j=iy (bR s.size (kd W.km c)) f (fE P) j:=by rw[A4 hi,Bb7,r7,hn,<-cx];grind
  rw[cd];obtain⟨x1,x2,x3,x4,x5,x6⟩:=id hX;refine sg ?_;refine Mo Tryz.func199 (Ke _ _ Tryz.func199) rfl rfl λhw sq=>?_
  have hA:X.A<O J:=(hw _ _ hT.mc).1;have hq:X.q<O J:=hT.of.lt hw;have sc:=(hw _ _ hT.zz).1;have sa:=(hw _ _ hT.f).1;have aw:∀{ρ:Ad} {U:F} {u:Bool×dH},bY U->Ad.at ρ 5=some (.pr (O J+1) 0)->U.get (O J+1)=some (.cells [.bool u.1])->O J+1<=O U->(∀b,b<O J->b≠X.A->b≠X.q->U.get b=J.get b)->U.get X.A=some (.cells (cB R X a.k u.2))->(∃E,B8 eM U X.q E/\∀K,gO R n K->E.get K=m.get K)->(u.1=true->jJ R u.2)->iy (bR s.size (kd W.km c)) f (fE P) j=u->
    jI M Tryz.f199 (O J) (λv J'=>yC R X a m n (iy (bR s.size (kd W.km c)) f (fE P) j) J v J') ρ U:=by
   intro ρ U u ap p5 q5 sf lw l6 oh d4 he;rw[he]
   exact⟨[.bool u.1],Am (vs:=[.bool u.1]) (aG (t:=4)) p5 (by simp only[F.cells];rw[q5]) rfl rfl,.bool u.1,U,a_ ap Y (λ_ _=>rfl),by omega,.same rfl,rfl,by omega,lw,l6,oh,d4⟩
  obtain⟨Q,iw⟩:∃Q,J.bump.new (.cells [.bool false])=Q:=⟨_,rfl⟩;have n1:O Q=O J+2:=Z;have ae:∀b,b<O J->Q.get b=J.get b:=Z;have c5:Q.get (O J+1)=some (.cells [.bool false]):=Z;have ai:iD d s W rm R X a j m sz fB Q:=hT.keep hw ae;obtain⟨C,j0⟩:∃C,(Q.new (.cells [.str [],.bool false,nS])).set (O Q) (.cells (eH h))=C:=⟨_,rfl⟩;have n2:O C=O J+3:=Z;have g2:∀b,b<O Q->C.get b=Q.get b:=Z;have c6:C.get (O Q)=some (.cells (eH h)):=Z;have a7:iD d s W rm R X a j m sz fB C:=hT.keep hw λb N=>(g2 b z).trans (ae b N)
  have ri:C.get sz=some (.cells [nV P]):=by have:=a7.zz;grind
  refine Oo ?_
  iterate  3 refine G ?_
  refine A (Bj (n:=O J+1) bG (Bm J)) ?_;refine G ?_;rw[iw]
  iterate  2 refine G ?_
  refine Dy λdf=>X0 ?_
  iterate  4 refine G ?_
  refine V (E8 ai.mc aG rfl (show Cz 1 false ((cB R X a.k j).drop 7)=some (aD cK 1 R.ot)from rfl)) ?_
  iterate  3 refine G ?_
  refine⟨rfl,rfl,?_⟩;refine A0 rfl (λh1=>?_) (λh1=>absurd (Int.ofNat_lt.2 d9) (of_decide_eq_false h1))
  refine G ?_;refine Dy λdf=>Bo λap=>XX 1 (l:=[]) trivial ?_
  iterate  3 refine G ?_
  refine V (E8 ai.mc aG rfl (show Cz 1 false ((cB R X a.k j).drop 5)=some (aD eH 3 R.fl)from rfl)) ?_
  iterate  3 refine G ?_
  refine V (E8 ai.mc aG rfl (show Cz 1 false ((cB R X a.k j).drop 7)=some (aD cK 1 R.ot)from rfl)) ?_
  iterate  5 refine G ?_
  refine DT (Bj (n:=O Q) bG rfl) (DT (sO (cs:=[.str [],.bool false,nS]) (cs':=eH h) (by rw[a5,if_pos rfl])) ?_)
  refine G ?_
  refine⟨(by intro e he;simp at he;rcases he with rfl|rfl<;>first|exact .refl|exact K4 ap),?_⟩
  rw[j0]
  iterate  2 refine G ?_
  refine Dy λdf=>XI (l:=[(196,[.pr X.a 0,D (kd W.km c)],C,D (bR s.size (kd W.km c)),C),(200,[nV P,D (bR s.size (kd W.km c))],C,EH P (bR s.size (kd W.km c)),C)]) ⟨mQ d s X.a X.kq X.rq X.yq (kd W.km c) C a7.w.cl,wX P _ C,trivial⟩ ?_
  refine V (lO ri) ?_
  iterate  4 refine G ?_
  refine V (E8 a7.mc aG rfl (show Cz 1 false ((cB R X a.k j).drop 0)=some (.pr X.a 0)from rfl)) ?_
  iterate  4 refine G ?_
  refine V (E8 a7.mc aG rfl (show Cz 1 false ((cB R X a.k j).drop 0)=some (.pr X.a 0)from rfl)) ?_
  iterate  2 refine G ?_
  refine V (E8 a7.w.cl aG rfl (show Cz 1 false ((dI d s X.kq X.rq X.yq).drop 6)=some (.mp X.kq)from rfl)) ?_
  refine G ?_;refine V (E8 c6 aG rfl (show Cz 1 false ((eH h).drop 2)=some (Af h.text)from rfl)) (V (A1 (i:=0) aJ (λ_=>rfl) rfl rfl li) ?_)
  refine G ?_;refine V (kD bI gG rfl a7.w.ks rfl) ?_;refine G ?_
  refine DT (Bq rfl rfl (Dw (by decide) Bv)) ?_
  refine G ?_
  refine⟨rfl,by simp,?_⟩
  obtain⟨S,lg⟩:∃S,O C+1=S:=⟨_,rfl⟩;obtain⟨J7,jc⟩:∃J7,C.bump.new (.loop .ready)=J7:=⟨_,rfl⟩;have n7:O J7=O C+2:=Z;have g7:∀b,b<O C->J7.get b=C.get b:=Z;have y7:J7.get S=some (.loop .ready):=Z;have ah:∀b,b<O J->J7.get b=J.get b:=λb N=>(g7 b z).trans ((g2 b z).trans (ae b N))
  refine G ?_;refine L6 rfl (λtm r8=>?_)
  rw[jc,lg];refine mB (vQ (L:=⟨S,tm,Tryz.f199.ntmps,_,_,_⟩) (I:=λK U=>U.get S=some (.loop .ready)/\S<O U/\U.get (O J+1)=some (.cells [.bool false])/\U.get (O Q)=some (.cells (eH h))/\U.get X.A=some (.cells (cB R X a.k K))/\jJ R K/\(∃E,B8 eM U X.q E/\∀t,gO R n t->E.get t=m.get t)/\∀b,b<O J->b≠X.A->b≠X.q->U.get b=J.get b)
   (aA:=λx K U=>x=.ret/\U.get S=some (.loop (H2 .ret))/\U.get (O J+1)=some (.cells [.bool false])/\U.get X.A=some (.cells (cB R X a.k K))/\(∃E,B8 eM U X.q E/\∀t,gO R n t->E.get t=m.get t)/\∀b,b<O J->b≠X.A->b≠X.q->U.get b=J.get b) (f:=f) (cX ..) v1 z s7 J7 j ⟨?ext,?y⟩ ⟨y7,by omega,Z,Z,by rw[ah _ hA];exact hT.mc,aj,⟨m,hT.of.of_get (ah _ hq),λ_ _=>rfl⟩,λb N _ _=>ah b N⟩) ?post
  case ext=>
   rintro K U U' p ⟨e1,e2,e3,e4,e5,e6,⟨E,e7,e8⟩,e9⟩ hp se H
   exact⟨Z,by omega,Z,Z,Z,e6,⟨E,e7.of_get (H _ z z),e8⟩,Z⟩
  case y=>
   rintro l K p U hp sn lj hl hr ⟨ij,r9,t5,t6,l8,lz,⟨E,⟨ar,oo⟩,db⟩,mt⟩;obtain⟨U1,kf⟩:∃U1,U.set S (.loop .busy)=U1:=⟨_,rfl⟩;have sw:O U1=O U:=Z;have T:∀b,b≠S->U1.get b=U.get b:=Z;have y1:U1.get S=some (.loop .busy):=Z;have ax:U1.get X.A=some (.cells (cB R X a.k K)):=(T _ z).trans l8;have au:U1.get (O Q)=some (.cells (eH h)):=(T _ z).trans t6;have ey:U1.get X.q=some (.map 9 (Cn eM E) ar):=(T _ z).trans oo;obtain⟨w,ao⟩:∃w:cT×I,w=(⟨h.label,0,l⟩,.sr p 0 1 P (some P)):=⟨_,rfl⟩;obtain⟨U2,kr⟩:∃U2,U1.set X.q (.map 9 (Cn eM (E.put h.label w)) (ar+1))=U2:=⟨_,rfl⟩;have sx:O U2=O U:=Z;have a8:∀b,b≠X.q->U2.get b=U1.get b:=Z;have r6:B8 eM U2 X.q (E.put h.label w):=⟨ar+1,Z⟩;have ag:∀b,b<O J->b≠X.A->b≠X.q->U2.get b=J.get b:=λb N h1 h2=>(a8 b h2).trans ((T b z).trans (mt b N h1 h2))
   have bx:iD d s W rm R X (a.put ⟨R.lab i,0,l⟩) K (E.put h.label w) sz fB U2:=hT.mv hw hX hz hf rfl ag ((a8 _ z).trans ax) r6;have ou:U2.get p=some (.cells (l.flatMap eI)):=(a8 _ z).trans ((T _ z).trans lj)
   have lc:lB (a.put ⟨R.lab i,0,l⟩) (gO R (n+1)) (E.put h.label w) (O U2) U2:=λt ht=>by
    rcases(PG hi).1 ht with ht|rfl
    ·have si:=MH hR hi ht;obtain⟨v,k1,k2,k3⟩:=hO t ht
     have a9:(a.put ⟨R.lab i,0,l⟩).of t=a.of t:=by show(if t=R.lab i then _ else _)=_;grind
     have om:t≠h.label:=Z
     refine⟨v,by rw[a9,dP,if_neg om,db t ht];exact k1,?_,λo ho=>?_⟩
     ·rw[a9]
      rcases k2 with k2|⟨o,k2,k4⟩
      ·exact .inl k2
      ·exact .inr ⟨o,k2,(ag o (hw _ _ k4).1 (qN hT.mc k4) (HX hT.of k4)).trans k4⟩
     ·rcases k2 with⟨rfl,_⟩|⟨o',rfl,k4⟩
      ·cases ho
      ·cases ho;have:=(hw _ _ k4).1;omega
    ·have a9:(a.put ⟨R.lab i,0,l⟩).of (R.lab i)=⟨R.lab i,0,l⟩:=by show(if R.lab i=R.lab i then _ else _)=_;grind
     rw[a9,d5]
     refine⟨.sr p 0 1 P (some P),by rw[dP,if_pos rfl,ao],.inr ⟨p,by rw[hl],ou⟩,λo ho=>?_⟩
     cases ho;omega
   have l9:kP W R (n+1) (a.put ⟨R.lab i,0,l⟩):=hM.put hR hi Z Z;have ih:=f199 hG bz hW hn gz hX hR hz hf r (n+1) z l9 bx lc lz
   have lq:Bb7 W R (R.ot.drop (n+1)) (a.put ⟨R.lab i,0,l⟩) K=f l K:=by rw[cx]
   rw[lq]at ih;refine Tk r8 rfl Kr Kr Kr ij r9 ?_
   iterate  3 refine G ?_
   refine⟨ij,?_⟩;rw[show U.set S (.loop .busy)=U1 from kf]
   iterate  2 refine G ?_
   refine Dy λdf=>XS (l:=[]) trivial ?_
   iterate  4 refine G ?_
   refine V (E8 ax aG rfl (show Cz 1 false ((cB R X a.k K).drop 1)=some (.mp X.q)from rfl)) ?_
   refine G ?_;refine V (E8 au aG rfl (show Cz 1 false ((eH h).drop 0)=some (sV h.label)from rfl)) ?_
   refine G ?_;refine V (E8 au aG rfl (show Cz 1 false ((eH h).drop 0)=some (sV h.label)from rfl)) ?_
   iterate  2 refine G ?_
   refine DT (Gh (enc:=eM) (v:=w) bI pT rfl ey rfl (by rw[ao];rfl) (λte k1 k2=>by rw[ao];exact H6 k1 k2 rfl)) ?_
   refine G ?_;rw[kr]
   iterate  2 refine G ?_
   refine A (lO bx.f) ?_;refine G ?_
   refine A (D3 (p:=n) (q:=1) aV rfl rfl (by have:=hR.lo;omega)) ?_
   refine Az rfl rfl rfl rfl ih ?_;rintro _ J3 ⟨rfl,n3,af,ay,⟨m3,dg,o5⟩,lu⟩
   iterate  2 refine G ?_
   have y3:J3.get S=some (.loop .busy):=(af S z z z).trans ((a8 _ z).trans y1);have s8:J3.get (O J+1)=some (.cells [.bool false]):=(af _ z z z).trans ((a8 _ z).trans ((T _ z).trans t5));have sd:∀b,b<O J->b≠X.A->b≠X.q->J3.get b=J.get b:=λb N h1 h2=>(af b z h1 h2).trans (ag b N h1 h2)
   have ac:∀t,gO R n t->m3.get t=m.get t:=λt ht=>by
    rw[o5 t ((PG hi).2 (.inl ht)),dP,if_neg (by rw[<-d5];exact MH hR hi ht)];exact db t ht
   cases N:(f l K).1 with
   |false=>
    refine A0 rfl (λh3=>?_) Z
    iterate  2 refine G ?_
    refine A (sO (cs':=[.bool false]) s8) ?_
    iterate  2 refine G ?_
    refine⟨Z,?_⟩
    rw[if_neg (by decide)]
    exact⟨by simp,rfl,Z,Z,by rw[aU,if_neg Z,aU,if_neg z];exact ay,⟨m3,dg.of_get Z,ac⟩,Z⟩
   |true=>
    refine A0 rfl Z (λh3=>?_)
    refine G ?_;refine⟨y3,?_⟩;rw[if_pos rfl]
    exact⟨rfl,⟨by rw[aU,if_pos rfl];rfl,Z,Z,Z,by rw[aU,if_neg Z];exact ay,lu N,⟨m3,dg.of_get Z,ac⟩,Z⟩,Z⟩
  case post=>
   rintro u J' ⟨sh,aa⟩;cases N:(iy (bR s.size (kd W.km c)) f (fE P) j).1 with
   |true=>
    rw[if_pos N]at aa;obtain⟨aq,_,t5,_,l7,ly,⟨m9,al,ak⟩,l5⟩:=aa;refine⟨.normal,aq,?_⟩
    iterate  2 refine G ?_
    refine A (G1 (cs':=[.bool true]) (by rw[dF,if_neg z];exact t5) aG rfl rfl rfl rfl) ?_
    iterate  2 refine G ?_
    intro an;exact aw (u:=(true,(iy (bR s.size (kd W.km c)) f (fE P) j).2)) an rfl Z Z Z Z ⟨m9,al.of_get Z,ak⟩ (λ_=>ly) (Prod.ext N rfl)
   |false=>
    rw[if_neg Z]at aa;obtain⟨x,_,rfl,aq,t5,l7,⟨m9,al,ak⟩,l5⟩:=aa;refine⟨.ret,aq,λan=>?_⟩
    exact aw (u:=(false,(iy (bR s.size (kd W.km c)) f (fE P) j).2)) an rfl Z Z Z Z ⟨m9,al.of_get Z,ak⟩ Z (Prod.ext N rfl)
def WP(f:Nat):Bool:=Nat.beq f 26||Nat.beq f 197
noncomputable def EZ:aZ:={ M with pu:=WP }
theorem oW{j B l c Q f J}(h:T EZ j l B c Q f J):T M j l B c Q f J:=λy n u C w E a v d t=>
 wpIn_mono (h y n u C w E a v ⟨d.sim,d.glob,d.tmps,d.size,d.dfs⟩ t) λe G K ⟨x,g,i,m,k,o,p,q,b,r,s⟩=>⟨x,g,i,m,k,o,p,q,⟨b.sim,b.glob,b.tmps,b.size,b.dfs⟩,r,s⟩
theorem MV{E Rr f J}{t tys:Nat}{x y p q}(L:cW E.P t=true)(W:Ah E f x=some (nV p))(B:Ah E f y=some (nV q)):As E Rr (.call ⟨.builtin .max,#[x,y],#[t,tys]⟩) f J (nV (max p q)) J:=by
 have h:=BE (Rr:=Rr) (J:=J) (tys:=tys) L W B;have e:max (Int.ofNat p) (Int.ofNat q)=Int.ofNat (max p q):=Z;rw[e]at h;exact h
structure kO (d:Db)(s:cA)(W:Wd)(rm:SM Rl)(R:b9)(X:eA)(k:Nat)(st:dH)(m:SM (cT×I))(J:F):Prop where
 w:fH d s W.km rm W.sm X.a X.kq X.rq X.yq J
 mc:J.get X.A=some (.cells (cB R X k st))
 of:B8 eM J X.q m
 p:eW 289 bE J X.pq R.pr
theorem kO.mv{d s W e R X k c q E m n J U}(h:kO d s W e R X k q m J)(i:bY J)(P:X.Ok)(H:∀b,b<O J->b≠X.A->b≠X.q->U.get b=J.get b)(p:U.get X.A=some (.cells (cB R X c E)))(o:B8 eM U X.q n):kO d s W e R X c E n U:=by
 obtain⟨⟨a,f,g,j⟩,r,t,l⟩:=h;obtain⟨u,v,w,x,y,B⟩:=P;exact⟨⟨(H _ (i _ _ a).1 z z).trans a,f.of_get (H _ (f.lt i) z z),g.of_get (H _ (g.lt i) z z),j.of_get (H _ (j.lt i) z z)⟩,p,o,l.of_get (H _ (l.lt i) z z)⟩
def yf(R:b9)(E:cF)(i o:Nat):cF:=⟨(E.put ⟨R.lab i,Int.ofNat o,[]⟩).of,max E.k (o+1)⟩
theorem Bbp{R i o}:∀{a b:List Nat} {c:cF},a.length=b.length->Bcn R (a++[i]) (b++[o]) c=yf R (Bcn R a b c) i o
 |[],[],c,_=>rfl
 |x::a,y::b,c,h=>by
  show Bcn R (a++[i]) (b++[o]) _=yf R (Bcn R a b _) i o
  exact Bbp Z
 |[],y::b,_,h=>by cases h
 |x::a,[],_,h=>by cases h
def mP(R:b9)(n:Nat)(E:cF)(m:SM (cT×I)):Prop:=E.k<=6/\∀k∈R.bd.take n,∃o:Nat,(E.of (R.lab k)).obj=Int.ofNat o/\o<E.k/\(E.of (R.lab k)).vals=[]/\m.get (R.lab k)=some (E.of (R.lab k),nS)
theorem mP.step{R n i o E m}(h:mP R n E m)(L:R.bd[n]? =some i)(l:o<6):mP R (n+1) (yf R E i o) (m.put (R.lab i) (⟨R.lab i,Int.ofNat o,[]⟩,nS)):=by
 refine⟨by show max E.k (o+1)<=6;have:=h.1;omega,λk a=>?_⟩
 have b:∀t,(yf R E i o).of t=if t=R.lab i then⟨R.lab i,Int.ofNat o,[]⟩else E.of t:=λ_=>rfl
 rw[b,dP]
 by_cases e:R.lab k=R.lab i
 ·rw[if_pos e,if_pos e]
  exact⟨o,rfl,by show o<max E.k (o+1);omega,rfl,rfl⟩
 ·rw[if_neg e,if_neg e]
  rcases(yG L).1 a with a|rfl
  ·obtain⟨c,d,j,f,g⟩:=h.2 k a
   exact⟨c,d,by show c<max E.k (o+1);omega,f,g⟩
  grind
def JJ(R:b9)(X:eA)(r:Bool×dH)(J q:F):Prop:=
 O J<=O q/\(∀b,b<O J->b≠X.A->b≠X.q->q.get b=J.get b)/\(∃k a,q.get X.A=some (.cells (cB R X k r.2))/\B8 eM q X.q a)/\(r.1=true->jJ R r.2)
theorem FM{d:Db}{s:cA}{W:Wd}{rm:SM Rl}{R:b9}{X:eA}{g:Gr}(hG:gU g)(bz:W.g=g.rules)(hW:jN W)(hn:W.n=s.size)(ij:∀l,rm.get l=F4 g.rules l)(hX:X.Ok)(hR:fX W R){k:Nat}{c:dH}{m:SM (cT×I)}{J:F}(N:kO d s W rm R X k c m J)(d4:jJ R c){f:List Nat}{ob:Nat}(j:J.get ob=some (.cells (f.flatMap cK)))(l8:f.length=R.bd.length)(dg:∀o∈f,o<6):
  Al M 170 [.pr X.A 0,.sr ob 0 1 f.length (some f.length)] J λv J'=>v=.bool (rI W R f c).1/\JJ R X (rI W R f c) J J':=by
 have g1:1<=s.size:=by rw[<-hn];exact hW.n1
 have g3:s.size<=3:=by rw[<-hn];exact hW.n3
 obtain⟨x1,x2,x3,x4,x5,x6⟩:=id hX;have l5:=hR.n6;refine Aj Tryz.func170 rfl rfl λhw l9=>?_
 have hA:X.A<O J:=(hw _ _ N.mc).1;have hq:X.q<O J:=N.of.lt hw;have kf:=(hw _ _ j).1
 have jc:ob≠X.A:=λe=>by
  rw[e,N.mc]at j
  injection j with j
  injection j with j
  cases f with
  |nil=>cases j
  |cons x l=>cases j
 have kr:ob≠X.q:=λe=>by
  obtain⟨v,h⟩:=N.of
  grind
 obtain⟨J1,ao⟩:=zE (J.set X.A (.cells (cB R X 0 c)));have n1:O J1=O J:=Z;have ag:J1.get X.A=some (.cells (cB R X 0 c)):=Z;have af:∀b,b≠X.A->J1.get b=J.get b:=Z;refine sG ?_;refine fJ ?_;refine A (sO (cs':=cB R X 0 c) N.mc) ?_;refine G ?_;rw[ao];refine G6 ?_;refine A (E8 ag aG rfl (show Cz 1 false ((cB R X 0 c).drop 6)=some (aD cK 1 R.bd)from rfl)) ?_
 refine G4 ?_;refine Bz R.bd.length (λB=>[(1,.sr ob 0 1 f.length (some f.length)),(2,.pv [.pr X.A 0]),(16,aD cK 1 R.bd),(17,nV R.bd.length),(18,nV B)]) (λB u=>O u=O J/\(∀b,b≠X.A->b≠X.q->u.get b=J.get b)/\∃a L,a=Bcn R (R.bd.take B) (f.take B) If/\u.get X.A=some (.cells (cB R X a.k c))/\B8 eM u X.q L/\mP R B a L) SL ⟨n1,λb C _=>af b C,If,m,rfl,ag,N.of.of_get (af _ z),bU _,Z⟩ ?_
 rintro B u l6 ⟨n0,ae,a,L,a9,r,am,K⟩;refine G5 ?_;refine Ab rfl ?_ ?_<;>intro C
 ·have bc:B<R.bd.length:=Int.ofNat_lt.1 (of_decide_eq_true C);obtain⟨i,hi⟩:=Ar bc
  obtain⟨o,ho⟩:=Ar (show B<f.length by omega)
  obtain⟨h,hh⟩:=hR.at (.inl (bA hi));have d5:R.lab i=h.label:=jG hh;have aj:=dg o (bA ho);have l7:=K.1;obtain⟨au,db⟩:=am;have ak:u.get ob=some (.cells (f.flatMap cK++[])):=Z;obtain⟨w,aa⟩:∃w:cT×I,w=(⟨h.label,Int.ofNat o,[]⟩,nS):=⟨_,rfl⟩;obtain⟨U1,ar⟩:=zE (u.set X.q (.map 9 (Cn eM (L.put h.label w)) (au+1)));have S:U1.get X.A=some (.cells (cB R X a.k c)):=Z;have al:U1.get ob=some (.cells (f.flatMap cK++[])):=Z;have T:=K.step hi aj;rw[d5,<-aa]at T;refine cG ?_;refine XS (l:=[]) trivial ?_;refine G4 ?_;refine V (E8 r aG rfl (show Cz 1 false ((cB R X a.k c).drop 1)=some (.mp X.q)from rfl)) ?_
  refine G3 ?_;refine V (E8 r aG rfl (show Cz 1 false ((cB R X a.k c).drop 5)=some (aD eH 3 R.fl)from rfl)) ?_
  refine G7 ?_;refine V (E8 r aG rfl (show Cz 1 false ((cB R X a.k c).drop 5)=some (aD eH 3 R.fl)from rfl)) ?_
  refine G6 ?_;refine V (Br aJ rfl rfl z) ?_;refine V (Dg (enc:=cK) (l:=f) (tl:=[]) zF aG rfl ak ho zF) ?_
  refine G ?_
  refine DT (Gh (enc:=eM) (v:=w) bI pT rfl db rfl (by rw[aa];rfl) (λte k1 k2=>by rw[aa];exact H6 k1 k2 rfl)) ?_
  refine G ?_;rw[ar];refine XS (l:=[]) trivial ?_;refine G5 ?_;refine V (E8 S aG rfl (show Cz 1 false ((cB R X a.k c).drop 2)=some (nV a.k)from rfl)) ?_
  refine G2 ?_;refine V (Br aJ rfl rfl z) ?_;refine V (Dg (enc:=cK) (l:=f) (tl:=[]) zF aG rfl al ho zF) ?_
  refine V (D3 (p:=o) (q:=1) aV rfl rfl z) ?_;refine V (MV (p:=a.k) (q:=o+1) aV rfl rfl) ?_;refine G3 ?_;refine DT (sO (cs':=cB R X (max a.k (o+1)) c) S) ?_;refine G5 ?_
  refine⟨bc,SL,Z,Z,yf R a i o,L.put h.label w,?_,by rw[aU,if_pos rfl];rfl,⟨au+1,Z⟩,T⟩
  rw[Fw hi,Fw ho,Bbp Z,a9]
 ·have bj:R.bd.length<=B:=dQ.1 (Int.not_lt.1 (λq=>of_decide_eq_false C q))
  rw[dG bj,dG (show f.length<=B by omega)]at a9
  have an:rI W R f c=Bb7 W R (R.ot.drop 0) a c:=by unfold rI;rw[a9];rfl
  have U:=K.1;have ah:∀k∈R.bd,∃o:Nat,(a.of (R.lab k)).obj=Int.ofNat o/\o<a.k/\(a.of (R.lab k)).vals=[]/\L.get (R.lab k)=some (a.of (R.lab k),nS):=λk hk=>K.2 k Z
  have ai:kP W R 0 a:=⟨U,λi hi=>Z,Z,Z⟩
  obtain⟨p1,p2⟩:=Bci hW.n1 hW.n3 a.k;have ey:=EU g1 g3 U;obtain⟨P,ap⟩:=zE ((u.new (.cells [.int .i64 0])).set (O u) (.cells [D (s.size ^ a.k)]));have n2:O P=O J+1:=Z;have a7:∀b,b<O J->P.get b=u.get b:=Z;have cz:P.get (O J)=some (.cells [D (s.size ^ a.k)]):=Z;obtain⟨y,aq⟩:=zE ((P.new (.cells [.nil .nilFunc])).set (O J+1) (.cells [zq X (O J) (O J+1)]));have n3:O y=O J+2:=Z;have a8:∀b,b<O P->y.get b=P.get b:=Z;have cf:y.get (O J+1)=some (.cells [zq X (O J) (O J+1)]):=Z;have ac:∀b,b<O J->b≠X.A->b≠X.q->y.get b=J.get b:=λb hb C h2=>(a8 b z).trans ((a7 b hb).trans (ae b C h2))
  have aw:y.get X.A=some (.cells (cB R X a.k c)):=(a8 _ z).trans ((a7 _ hA).trans r);have gz:B8 eM y X.q L:=am.of_get ((a8 _ z).trans (a7 _ hq));have E:=N.mv hw hX ac aw gz;have bx:iD d s W rm R X a c L (O J) (O J+1) y:=⟨E.w,E.mc,E.of,E.p,Z,cf⟩
  have ay:lB a (gO R 0) L 0 y:=λt ht=>by
   rcases ht with⟨k,hk,rfl⟩|⟨i,hi,_⟩
   ·obtain⟨o,_,_,h3,h4⟩:=ah k hk
    exact⟨_,h4,.inl ⟨rfl,h3⟩,λo ho=>by cases ho⟩
   grind
  have Q:=f199 hG bz hW hn ij hX hR hA (show X.A<O J+1 by omega) R.ot.length 0 z ai bx ay d4
  rw[<-an]at Q;refine G ?_;refine Bo λiw=>?_
  refine G ?_;refine oW ?_;refine AS 1 (anns:=[aR 0 1,aP 0 1,aP 0 1,aP 0 1,aR 0 1,aP 0 1,aP 0 1,aP 0 1,aR 0 1,aR 0 1,aP 0 1,aP 0 1,aP 0 1,aR 0 1,aP 0 1,aE 0 1,aE 1 2]) Di (HZ (l:=[(197,[D s.size,nV a.k],D (el s.size 10000 a.k 1))]) ⟨λυ=>uQ s.size a.k υ g1 g3 z,trivial⟩) Kr Kr ?_
  refine V (Ac aG rfl rfl rfl) (V (Ge rfl) (V (Ae cP rfl rfl) (V (Ae cP rfl rfl) (V (E8 r aG rfl (show Cz 1 false ((cB R X a.k c).drop 0)=some (.pr X.a 0)from rfl)) (V (Ge rfl) (V (Ae cP rfl rfl) (V (Ae cP rfl rfl) ?_)))))))
  refine V (E8 ((ae _ z z).trans N.w.cl) aG rfl (show Cz 1 false ((dI d s X.kq X.rq X.yq).drop 0)=some (D s.size)from rfl)) ?_
  refine V (Ac aG rfl rfl rfl) (V (Ge rfl) (V (Ae cP rfl rfl) (V (Ae cP rfl rfl) (V (E8 r aG rfl (show Cz 1 false ((cB R X a.k c).drop 2)=some (nV a.k)from rfl)) (V (CV rfl rfl EO) (DT (Bu bG) (DT (G1 (cs:=[.int .i64 0]) (cs':=[D (el s.size 10000 a.k 1)]) Z aG rfl rfl rfl rfl) ?_)))))))
  refine G ?_
  refine⟨(by intro e he;simp at he;rcases he with rfl|rfl<;>first|exact .refl|exact K4 iw),?_⟩
  rw[ey,ap,n0];refine G2 ?_;refine A (Bj (n:=O J+1) bG n2) ?_;refine G4 ?_
  refine A (sO (cs:=[.nil .nilFunc]) (cs':=[zq X (O J) (O J+1)]) (by rw[a5,if_pos n2.symm])) ?_
  refine G ?_;rw[aq];refine G2 ?_;refine A (lO cf) (Az rfl rfl rfl rfl Q ?_);rintro _ J4 ⟨rfl,n4,g4,ax,⟨m4,d9,_⟩,cx⟩;refine G3 ?_;intro j0
  exact⟨_,rfl,_,J4,a_ j0 Y zN,by omega,.same rfl,rfl,by omega,λb hb C h2=>(g4 b z C h2).trans (ac b hb C h2),⟨a.k,m4,ax,d9⟩,cx⟩
def IL(X:eA)(w a:Nat):I:=.fn (.func 169) [] [.pr w 0,.pv [.pr X.A 0],.pr a 0]
theorem kO.mv2{d:Db}{s:cA}{W:Wd}{e:SM Rl}{R:b9}{X:eA}{k c:Nat}{p E:dH}{m a:SM (cT×I)}{J U:F}(h:kO d s W e R X k p m J)(P:X.Ok)(H:∀b,b<X.A->b≠X.q->U.get b=J.get b)(n:U.get X.A=some (.cells (cB R X c E)))(o:B8 eM U X.q a):kO d s W e R X c E a U:=by
 obtain⟨⟨f,g,i,j⟩,q,r,l⟩:=h;obtain⟨t,u,v,w,x,y⟩:=P;exact⟨⟨(H _ z z).trans f,g.of_get (H _ z z),i.of_get (H _ z z),j.of_get (H _ z z)⟩,n,o,l.of_get (H _ z z)⟩
structure z0 (d:Db)(s:cA)(W:Wd)(rm:SM Rl)(R:b9)(X:eA)(oB fB ob:Nat)(st:dH)(cur:List Nat)(J:F):Prop where
 ba:∃k m,kO d s W rm R X k st m J
 hoB:J.get oB=some (.cells [.sr ob 0 1 R.bd.length (some R.bd.length)])
 hfB:J.get fB=some (.cells [IL X oB fB])
 hob:J.get ob=some (.cells (cur.flatMap cK))
def wS(R:b9)(X:eA)(T n:Nat)(t:List Nat)(r:Bool×dH)(J q:F):Prop:=
 O J<=O q/\(∀b,b<O J->b≠X.A->b≠X.q->b≠T->q.get b=J.get b)/\(∃a:List Nat,a.length=R.bd.length/\a.take n=t.take n/\q.get T=some (.cells (a.flatMap cK)))/\(∃k c,q.get X.A=some (.cells (cB R X k r.2))/\B8 eM q X.q c)/\(r.1=true->jJ R r.2)
theorem Bd3{C:Type}{n:Nat}{x:C}:∀{l:List C},n<l.length->(l.set n x).take (n+1)=l.take n++[x]:=λ{l} h=>by
 rw[Fw (show(l.set n x)[n]? =some x from f_ h),List.take_set_of_le Y]
theorem vV{C:Type}{n:Nat}{x:C}{l:List C}:(l.set n x).take n=l.take n:=List.take_set_of_le Y
theorem f169{d:Db}{s:cA}{W:Wd}{rm:SM Rl}{R:b9}{X:eA}{g:Gr}(hG:gU g)(aj:W.g=g.rules)(hW:jN W)(hn:W.n=s.size)(au:∀l,rm.get l=F4 g.rules l)(hX:X.Ok)(hR:fX W R){oB fB T:Nat}(q1:X.A<T)(q2:T<oB)(q3:T<fB)(r n y:Nat){st:dH}{cur:List Nat}{J:F}(kf:n+r=R.bd.length)(a7:cur.length=R.bd.length)(jc:y<=n)(h6:∀o∈cur.take n,o<6)(hT:z0 d s W rm R X oB fB T st cur J)(an:jJ R st):
  Al M 169 [nV n,nV y,.pr oB 0,.pv [.pr X.A 0],.pr fB 0] J λv J'=>v=.bool (Bal W R (R.bd.drop n) (cur.take n) y st).1/\wS R X T n cur (Bal W R (R.bd.drop n) (cur.take n) y st) J J':=by
 obtain⟨x1,x2,x3,x4,x5,x6⟩:=id hX;refine Aj Tryz.func169 rfl rfl λhw kr=>?_
 have aq:=(hw _ _ hT.hob).1;have gz:=(hw _ _ hT.hoB).1;have ey:=(hw _ _ hT.hfB).1;have ay:=hR.n6;refine sG ?_;refine G4 ?_;refine ON ?_;refine G4 ?_;refine A (lO hT.hoB) (A (Bf bF rfl rfl rfl) ?_);refine G2 ?_;refine Ab rfl ?_ ?_<;>intro h1
 ·have h1:n=R.bd.length:=gI (of_decide_eq_true h1)
  have hr:r=0:=by omega
  subst hr
  have hu:Bal W R (R.bd.drop n) (cur.take n) y st=rI W R cur st:=by rw[h1,qQ,dG z];rfl
  obtain⟨k,m,hB⟩:=hT.ba;have a8:=FM hG aj hW hn au hX hR hB an hT.hob a7 (λo ho=>h6 o Z)
  rw[a7]at a8;refine G3 ?_;refine A (lO hT.hoB) (Az rfl rfl rfl rfl a8 ?_);rintro _ J1 ⟨rfl,n1,g1,⟨k1,m1,ax,d5⟩,bz⟩;refine G3 ?_;intro S;rw[hu];exact⟨_,rfl,_,J1,a_ S Y zN,n1,.same rfl,rfl,n1,(λb hb q1 q2 _=>g1 b hb q1 q2),⟨cur,a7,rfl,(g1 _ aq z z).trans hT.hob⟩,⟨k1,m1,ax,d5⟩,bz⟩
 ·have h1:n≠R.bd.length:=λe=>of_decide_eq_false h1 (congrArg _ e)
  obtain⟨r,rfl⟩:∃q,r=q+1:=⟨r-1,by omega⟩
  have d4:n<R.bd.length:=by omega
  obtain⟨i,hi⟩:=Ar d4;obtain⟨c,ap⟩:∃c,c=cur.take n:=⟨_,rfl⟩;have ij:c.length=n:=Z;obtain⟨f,hf⟩:∃f:Nat->dH->Bool×dH,f=λo s=>if GK R c i o=true then(true,s)else Bal W R (R.bd.drop (n+1)) (c++[o]) (max y (o+1)) s:=⟨_,rfl⟩
  have hu:Bal W R (R.bd.drop n) (cur.take n) y st=Bbc f (List.range (y+1)) st:=by rw[A4 hi,Bal,<-ap,hf]
  rw[hu];refine G2 ?_;refine LV ?_;refine G4 ?_;refine A (D3 (p:=y) (q:=1) aV rfl rfl z) ?_;refine G3 ?_;refine Bz (y+1) (λw=>[(0,nV n),(1,nV y),(2,.pr oB 0),(3,.pv [.pr X.A 0]),(4,.pr fB 0),(18,nV (y+1)),(19,nV w)]) (λw J0=>∃(j:dH) (a:List Nat),a.length=R.bd.length/\a.take n=c/\z0 d s W rm R X oB fB T j a J0/\jJ R j/\O J<=O J0/\(∀b,b<O J->b≠X.A->b≠X.q->b≠T->J0.get b=J.get b)/\Bbc f ((List.range (y+1)).drop w) j=Bbc f (List.range (y+1)) st) SL ⟨st,cur,a7,ap.symm,hT,an,Y,λ_ _ _ _ _=>rfl,rfl⟩ ?_
  rintro w J0 iw ⟨j,a,nq,ac,B,P,n0,g0,C⟩;refine G5 ?_;refine Ab rfl ?_ ?_<;>intro h2
  ·have bc:w<y+1:=Int.ofNat_lt.1 (of_decide_eq_true h2);rw[A4 (show(List.range (y+1))[w]? =some w from List.getElem?_range bc),Bbc]at C
   obtain⟨k0,m0,x⟩:=B.ba
   iterate 15 refine G ?_
   refine Bz n (λi2=>[(0,nV n),(1,nV y),(2,.pr oB 0),(3,.pv [.pr X.A 0]),(4,.pr fB 0),(8,nV w),(18,nV (y+1)),(19,nV w),(22,nV n),(23,nV i2)]) (λi2 J2=>J2=J0/\((R.bd.zip c).take i2).any (λp=>decide (p.2=w)&&R.prB i p.1)=false) SL ⟨rfl,rfl⟩ ?_
   rintro i2 J2 j0 ⟨rfl,ai⟩;refine G5 ?_;refine Ab rfl ?_ ?_<;>intro h3
   ·have bv:i2<n:=Int.ofNat_lt.1 (of_decide_eq_true h3)
    obtain⟨bk,bx⟩:=Ar (show i2<R.bd.length by omega)
    obtain⟨ok,d9⟩:=Ar (show i2<c.length by omega)
    have aw:(R.bd.zip c)[i2]? =some (bk,ok):=List.getElem?_zip_eq_some.2 ⟨bx,d9⟩;have ar:a[i2]? =some ok:=Z
    have Q:J2.get T=some (.cells (a.flatMap cK++[])):=by rw[dA];exact B.hob
    have am:decide (Int.ofNat ok=Int.ofNat w)=decide (ok=w):=decide_eq_decide.2 ⟨λh=>gI h,λh=>congrArg _ h⟩
    refine G9 ?_;refine X0 ?_;refine V (lO B.hoB) ?_;refine G ?_;refine V (Br (aJ (t:=31)) rfl rfl z) ?_;refine V (Dg (enc:=cK) (l:=a) (tl:=[]) zF (aG (t:=3)) rfl Q ar zF) ?_
    refine G3 ?_;refine xI 20 ((R.pr.get (Int.ofNat i,Int.ofNat bk)).getD false) (λH=>?_) (λ_=>?_)
    ·iterate 3 refine fD H ?_
     refine gR H (E8 x.mc (aG (t:=286)) rfl (show Cz 1 false ((cB R X k0 j).drop 11)=some (.mp X.pq)from rfl)) ?_
     iterate 3 refine fD H ?_
     refine gR H (E8 x.mc (aG (t:=31)) rfl (show Cz 1 false ((cB R X k0 j).drop 6)=some (aD cK 1 R.bd)from rfl)) ?_
     iterate 6 refine fD H ?_
     refine gR H (E8 x.mc (aG (t:=31)) rfl (show Cz 1 false ((cB R X k0 j).drop 6)=some (aD cK 1 R.bd)from rfl)) ?_
     iterate 3 refine fD H ?_
     refine gR H (G0 fS fW rfl rfl) (gR H (tB nN rfl x.p rfl (yd (Int.ofNat i) (Int.ofNat bk))) ?_);exact iX
    refine G ?_;refine⟨rfl,rfl,?_⟩;refine Ab rfl ?_ ?_<;>intro h4
    ·have a9:(decide (Int.ofNat ok=Int.ofNat w)&&(R.pr.get (Int.ofNat i,Int.ofNat bk)).getD false)=true:=h4;rw[am]at a9;have qr:GK R c i w=true:=e_.2 ⟨(bk,ok),bA aw,a9⟩;have af:f w j=(true,j):=Z;rw[af,if_pos rfl]at C;refine G5 ?_;refine⟨bc,SL,j,a,nq,ac,B,P,n0,g0,C⟩
    ·have E:(decide (Int.ofNat ok=Int.ofNat w)&&(R.pr.get (Int.ofNat i,Int.ofNat bk)).getD false)=false:=h4;rw[am]at E;have E:(decide (ok=w)&&R.prB i bk)=false:=E;refine G5 ?_
     refine⟨bv,SL,rfl,by rw[Fw aw,List.any_append,ai,yR,E];rfl⟩
   ·have ba:n<=i2:=dQ.1 (Int.not_lt.1 (λq=>of_decide_eq_false h3 q))
    rw[dG Z]at ai
    have af:f w j=Bal W R (R.bd.drop (n+1)) (c++[w]) (max y (w+1)) j:=by
     rw[hf];simp only;rw[if_neg (by show ¬(R.bd.zip c).any _=true;grind)]
    have ay:=hR.n6
    have Q:J2.get T=some (.cells (a.flatMap cK++[])):=by rw[dA];exact B.hob
    obtain⟨U,dg⟩:=zE (J2.set T (.cells ((a.set n w).flatMap cK++[])));have l5:O U=O J2:=Z;have K:∀b,b≠T->U.get b=J2.get b:=Z;have L:z0 d s W rm R X oB fB T j (a.set n w) U:=⟨⟨k0,m0,x.mv2 hX (λb hb _=>K b z) ((K _ z).trans x.mc) (x.of.of_get (K _ z))⟩,(K _ z).trans B.hoB,(K _ z).trans B.hfB,Z⟩
    have db:(a.set n w).take (n+1)=c++[w]:=by rw[Bd3 z,ac]
    have ih:=f169 hG aj hW hn au hX hR q1 q2 q3 r (n+1) (max y (w+1)) (st:=j) (cur:=a.set n w) z Z z Z L P;rw[db,<-af]at ih;refine G3 ?_;refine A (lO B.hoB) ?_;refine G2 ?_;refine A (Br aJ rfl rfl z) ?_;refine A (Tb (enc:=cK) (u:=w) (l:=a) (tl:=[]) zF aG rfl rfl rfl Q z) ?_
    refine G ?_;rw[dg];refine G2 ?_;refine A (lO L.hfB) ?_;refine G ?_;refine A (D3 (p:=n) (q:=1) aV rfl rfl z) ?_;refine G2 ?_;refine A (D3 (p:=w) (q:=1) aV rfl rfl z) ?_;refine A (MV (p:=y) (q:=w+1) aV rfl rfl) (Az rfl rfl rfl rfl ih ?_);rintro _ J3 ⟨rfl,n3,g3,⟨N,aa,al,ak⟩,⟨k3,m3,ah,ao⟩,cx⟩;refine G2 ?_;have ag:∀b,b<O J->b≠X.A->b≠X.q->b≠T->J3.get b=J.get b:=λb hb p1 p2 p3=>(g3 b z p1 p2 p3).trans ((K b p3).trans (g0 b hb p1 p2 p3))
    have ae:N.take n=c:=by
     have:=congrArg (List.take n) al
     grind
    refine Ab rfl ?_ ?_<;>intro h4
    ·have h4:(f w j).1=false:=Z;rw[if_neg Z]at C;refine G5 ?_;intro S;rw[<-C]
     exact⟨_,rfl,_,J3,a_ S Y zN,by omega,.same rfl,rfl,by omega,ag,⟨N,aa,Z,ak⟩,⟨k3,m3,ah,ao⟩,Z⟩
    ·have h4:(f w j).1=true:=Z;rw[if_pos h4]at C;refine G5 ?_
     refine⟨bc,SL,(f w j).2,N,aa,ae,⟨⟨k3,m3,x.mv2 hX (λb hb p2=>(g3 b z z p2 z).trans (K b z)) ah ao⟩,(g3 _ z z z z).trans L.hoB,(g3 _ z z z z).trans L.hfB,ak⟩,cx h4,by omega,ag,C⟩
  ·have bj:y+1<=w:=dQ.1 (Int.not_lt.1 (λq=>of_decide_eq_false h2 q))
   rw[List.drop_of_length_le Z,Bbc]at C;obtain⟨k0,m0,x⟩:=B.ba;refine G6 ?_;intro S;rw[<-C];exact⟨_,rfl,_,J0,a_ S Y zN,n0,.same rfl,rfl,n0,g0,⟨a,nq,Z,B.hob⟩,⟨k0,m0,x.mc,x.of⟩,λ_=>P⟩
 termination_by r
theorem HK{d:Db}{s:cA}{W:Wd}{e:SM Rl}{R:b9}{X:eA}{g:Gr}(T:gU g)(o:W.g=g.rules)(E:jN W)(hn:W.n=s.size)(u:∀l,e.get l=F4 g.rules l)(P:X.Ok)(y:fX W R){k:Nat}{h:dH}{m:SM (cT×I)}{J:F}(x:kO d s W e R X k h m J)(r:jJ R h):
  Al M 139 [.pr X.A 0] J λ_ N=>JJ R X (Bal W R R.bd [] 0 h) J N:=by
 have U:=y.n6;refine Aj Tryz.func139 rfl rfl λK a7=>?_
 have w:X.A<O J:=(K _ _ x.mc).1;have hq:X.q<O J:=x.of.lt K;obtain⟨c,f⟩:=zE (((((J.new (.cells (rep [.int .i64 0] R.bd.length))).new (.cells [nS])).set (O J+1) (.cells [.sr (O J) 0 1 R.bd.length (some R.bd.length)])).new (.cells [.nil .nilFunc])).set (O J+2) (.cells [IL X (O J+1) (O J+2)]));have n1:O c=O J+3:=Z;have L:O (((J.new (.cells (rep [.int .i64 0] R.bd.length))).new (.cells [nS])).set (O J+1) (.cells [.sr (O J) 0 1 R.bd.length (some R.bd.length)]))=O J+2:=Z;have i:∀b,b<O J->c.get b=J.get b:=Z
 have hz:∀q:Nat,rep [.int .i64 0] q=(List.replicate q (0:Nat)).flatMap cK:=λq=>by
  induction q with
  |zero=>rfl
  |succ q ih=>rw[List.replicate_succ,ej,<-ih];rfl
 have B:z0 d s W e R X (O J+1) (O J+2) (O J) h (List.replicate R.bd.length 0) c:=⟨⟨k,m,x.mv2 P (λb C _=>i b z) ((i _ w).trans x.mc) (x.of.of_get (i _ hq))⟩,Z,Z,Z⟩
 have a:=f169 T o E hn u P y w (eU _) z R.bd.length 0 0 z (kA ..) Y Z B r;rw[kn,List.take_zero]at a;refine sG ?_;refine G9 ?_;refine A (E8 x.mc aG rfl (show Cz 1 false ((cB R X k h).drop 6)=some (aD cK 1 R.bd)from rfl)) ?_
 refine G ?_
 refine A (O3 (n:=R.bd.length) aJ rfl rfl (by simp only[az];omega)) ?_
 refine A (Bj (n:=O J+1) bG (Ao _ _)) (A (sO (cs:=[nS]) (cs':=[.sr (O J) 0 1 R.bd.length (some R.bd.length)]) (by rw[a5,Ao,if_pos rfl])) ?_)
 refine G3 ?_;refine A (Bj (n:=O J+2) bG L) ?_;refine G4 ?_
 refine A (sO (cs:=[.nil .nilFunc]) (cs':=[IL X (O J+1) (O J+2)]) (by rw[a5,L,if_pos rfl])) ?_
 refine G ?_;rw[f];refine G ?_;refine A (lO B.hfB) (Az rfl rfl rfl rfl a ?_);rintro _ Q ⟨rfl,n2,S,_,⟨k2,m2,j,t⟩,p⟩;refine G ?_;intro v
 exact⟨[],rfl,.tup [],Q,a_ v Y zN,by omega,.same rfl,by omega,λb C p1 p2=>(S b z p1 p2 z).trans (i b C),⟨k2,m2,j,t⟩,p⟩
end Go.AM
