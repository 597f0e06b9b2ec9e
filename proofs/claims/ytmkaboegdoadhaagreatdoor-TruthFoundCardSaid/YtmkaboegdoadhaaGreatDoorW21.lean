/- A part. -/
import Derived.Test.YtmkaboegdoadhaaGreatDoorW19
set_option maxRecDepth 100000
set_option maxHeartbeats 4000000
set_option linter.unusedSimpArgs false
set_option linter.unusedVariables false
namespace Go.AM
open Go Go.Proofs
theorem f151{g text N X S J}(h:ChS g text N X S J)(bn:S.sets.length<=1000000):Al Ew 151 [.pr X.c 0] J fun _ J'=>∃X',ChS g text N X' S.open' J'/\Lk X J X' J':=by
 have hN:=h.lo .c _ rfl;have hlv:=h.lv;have hlm:=h.lm
 have hcS:adr X.vS≠some X.c:=fun e=>by cases h.inj .s .c X.c e rfl
 have hcI:adr X.vI≠some X.c:=fun e=>by cases h.inj .i .c X.c e rfl
 obtain⟨J1,qm,n1,ho1,g1⟩:=dn_ (by':=24) O0 Om h.sets nS (by simp only[sizeLim];omega)
 have hc1:=(g1 X.c hN.2 hcS).trans h.cl
 generalize hσ2:J1.set X.c (.cells [Af g.sorts,slV eR 4 g.rules,.mp X.mR,Af text,.sr (nx J) 0 1 (X.vals.length+1) none,X.vI,.mp X.mD])=J2
 have n2:nx J2=nx J+1:=by rw[←hσ2,Aq,n1]
 have hc2:J2.get X.c=some (.cells [Af g.sorts,slV eR 4 g.rules,.mp X.mR,Af text,.sr (nx J) 0 1 (X.vals.length+1) none,X.vI,.mp X.mD]):=by rw[←hσ2,aa_,if_pos rfl]
 have g2:∀c,c≠X.c->J2.get c=J1.get c:=fun c hc=>by rw[←hσ2,aa_,if_neg hc]
 obtain⟨J3,hσ3⟩:∃J3,J2.new (.map 351 [] 0)=J3:=⟨_,rfl⟩
 have n3:nx J3=nx J+2:=by rw[←hσ3,Ao,n2]
 have g3:∀c,c<nx J2->J3.get c=J2.get c:=fun c hc=>by rw[←hσ3,ag_,if_neg Om]
 have hm3:J3.get (nx J2)=some (.map 351 [] 0):=by rw[←hσ3,ag_,if_pos rfl]
 have jo:∀a,adr X.vI=some a->a<nx J:=fun a ha=>(h.lo .i a ha).2
 have hSI:∀a,adr X.vI=some a->adr X.vS≠some a:=fun a ha e=>by cases h.inj .s .i a e ha
 have hI3:Own J3 N eMp 1 X.ms X.vI:=h.is.of_get Om fun a ha=>by
  have:=jo a ha
  rw[g3 a Om,g2 a (fun e=>hcI (by rw[ha,e])),g1 a this (hSI a ha)]
 obtain⟨J4,nk,n4,ho4,g4⟩:=dn_ (by':=8) Z6 Om hI3 (nx J2) (by simp only[sizeLim];omega)
 have e34:nx J3=nx J2+1:=by omega
 rw[e34]at nk ho4 n4 g4;have hc4:=(g4 X.c Om hcI).trans ((g3 X.c Om).trans hc2)
 have hS4:Own J4 N eV 1 (X.vals++[nS]) (.sr (nx J) 0 1 (X.vals.length+1) none):=ho1.of_get Om fun a ha=>by
  cases ha
  rw[g4 _ Om (fun e=>by have:=jo _ e;omega),g3 _ Om,g2 _ Om]
 have dk:=h.openS (m:=nx J2) (b:=nx J2+1) (U:=J4.set X.c (.cells ((X.more (nx J) (nx J2) (nx J2+1)).cells g text))) Om Om (by rw[Aq];omega) (by rw[aa_,if_pos rfl])
  (hS4.of_get (by rw[Aq];exact nl) fun a ha=>by cases ha;rw[aa_,if_neg Om])
  (ho4.of_get (by rw[Aq];exact nl) fun a ha=>by cases ha;rw[aa_,if_neg Om])
  ⟨0,by rw[aa_,if_neg Om,g4 _ Om (fun e=>by have:=jo _ e;omega)];exact hm3⟩
  (fun c hc h1 h2 h3=>by rw[aa_,if_neg h1,g4 c Om h3,g3 c Om,g2 c h1,g1 c hc h2])
 refine Aj Tryz.func151 rfl rfl fun hw hu0=>?_
 refine G6 ?_;refine O1 (lO h.cl) (Cx (Ai elC byW rfl rfl rfl) (Dv (len:=1)) rfl rfl (O1 (Av elC rfl slC rfl rfl rfl (new:=eV nS) rfl qm) ?_));refine G2 ?_;refine O1 (sO (cs':=[Af g.sorts,slV eR 4 g.rules,.mp X.mR,Af text,.sr (nx J) 0 1 (X.vals.length+1) none,X.vI,.mp X.mD]) hc1) ?_;refine G ?_;rw[hσ2];refine Asl ?_;refine G5 ?_;refine O1 (lO hc2) (O1 (Gx Am3) ?_);rw[hσ3];refine Cx (Ai elC byW rfl rfl rfl) (Dv (len:=1)) rfl rfl (O1 (Av elC rfl slC rfl rfl rfl (new:=eMp (nx J2)) rfl nk) ?_);refine G2 ?_;refine O1 (sO (cs':=(X.more (nx J) (nx J2) (nx J2+1)).cells g text) hc4) ?_;refine G ?_;intro hw5
 exact⟨[],rfl,_,_,a_ hw5 nl (fun _ _=>rfl),by rw[Aq];omega,.same rfl,_,dk.1,dk.2⟩
section
variable {g:Gr}{text:List Str}{N:Nat}{X:Cp}{S:Ch}{J:Sto}
theorem Acn(s):D4 Ew.P 232 (.agg (eSp s))=some (KE.k (sk s)):=by
 obtain⟨a,b,c⟩:=s
 kernel_rfl
theorem ChS.doneS(h:ChS g text N X S J){s}{M:GM Kk Bool}{ver}(hMx:∀y,(y∈S.done->M.get (sk y)=some true)/\(y∉S.done->M.get (sk y)=none)):
  ChS g text N X { S with done:=s::S.done } (J.set X.mD (.map 232 (Hi bE (M.put (sk s) true)) ver))/\Lk X J X (J.set X.mD (.map 232 (Hi bE (M.put (sk s) true)) ver)):=by
 have oth:∀t a,X.loc t=some a->t≠.d->(J.set X.mD (.map 232 (Hi bE (M.put (sk s) true)) ver)).get a=J.get a:=fun t a ht n=>by
  rw[aa_,if_neg (fun e=>n (h.inj t .d a ht (by rw[e];rfl)))]
 refine⟨⟨h.inj,fun t a ht=>by rw[Aq];exact h.lo t a ht,(oth .c _ rfl (by simp)).trans h.cl,h.sets.of_get (by rw[Aq];exact nl) fun a ha=>oth .s a ha (by simp),h.is.of_get (by rw[Aq];exact nl) fun a ha=>oth .i a ha (by simp),h.lv,h.lm,fun k l u hl hu=>?_,fun k l u hl hu=>(h.mps k l u hl hu).of_get (oth (.m k) u hu (by simp)),?_⟩,⟨rfl,rfl,rfl,by rw[Aq];exact nl,fun t a ht=>.inl ⟨t,ht⟩,fun b hb hn=>by rw[aa_,if_neg (fun e=>hn .d (by rw[e];rfl))]⟩⟩
 ·exact(h.vals k l u hl hu).of_get (by rw[Aq];exact nl) fun a ha=>oth (.v k) a (by show(X.vals[k]?).bind adr=_;rw[hu];exact ha) (by simp)
 ·refine⟨M.put (sk s) true,⟨ver,by rw[aa_,if_pos rfl]⟩,fun y=>?_⟩
  rw[fp_]
  by_cases hy:y=s
  ·subst hy;simp
  ·rw[if_neg (fun e=>hy (Ask.1 e))]
   refine⟨fun hh=>(hMx y).1 ?_,fun hh=>(hMx y).2 fun h'=>hh (aj_ _ h')⟩
   rcases an_.1 hh with hh|hh
   ·exact absurd hh hy
   ·exact hh
end
theorem Qz{j k}:∀{l:List It} {S:Ch},(S.set k).length<=((S.adds j l).set k).length
 |[],_=>nl
 |x::l,S=>by
  show _<=(((S.add j x).adds j l).set k).length
  exact ai_ Ts Qz
theorem Aco{g s k}:∀{f i:Nat} {S:Ch},(S.set k).length<=((adv g s f i S).set k).length
 |0,_,_=>nl
 |f+1,i,S=>by
  unfold adv
  split
  ·exact nl
  ·exact ai_ Yd Aco
theorem Ajq{g n j k x S}:(S.set k).length<=((Dj g n j x S).set k).length:=by
 unfold Dj
 split
 ·split
  ·exact nl
  ·show(({ S with done:=(rSo g x.1,x.2.2,j)::S.done }:Ch).set k).length<=_
   exact Aco
 ·split
  ·exact nl
  ·split
   ·exact ai_ Qz Ts
   ·exact Qz
theorem Acp{ρ J Rr t kt sz r x y u κ}[DecidableEq κ][KE κ]{m}{k:κ}(hi:mpI Ew.P t=some (kt,.bool false,sz,false))(hx:Ah Ew ρ x=some (.mp r))(hm:GAt kt bE J r m)(hy:Ah Ew ρ y=some u)(hk:D4 Ew.P kt u=some (KE.k k)):
  As Ew Rr (.lookup t x y false) ρ J (.bool ((m.get k).getD false)) J:=by
 have:=Amz (Rr:=Rr) hi hx hm hy hk
 have e:((m.get k).map bE).getD (.bool false)=.bool ((m.get k).getD false):=by cases m.get k<;>rfl
 grind
theorem Afo{j}:∀{l:List It} {S:Ch},(S.adds j l).done=S.done
 |[],_=>rfl
 |x::l,S=>by show((S.add j x).adds j l).done=_;rw[Afo,gn_]
theorem Asm{g j n}(h:j<=n):Cu g j<=Cu g n:=Nat.mul_le_mul_left _ (Nat.mul_le_mul_left _ (Nat.succ_le_succ h))
theorem f153{g text N n X S J rv}(h:ChS g text N X S J)(hr:RlS g rv X J)(hok:Gj g S){j}(hj:j<S.sets.length)(hn:S.sets.length<=n+1)(hb:Cu g n<=30000000)(hR:g.rules.length<=1000000):Al Ew 153 [.pr X.c 0,nV j] J fun _ J'=>∃X',ChS g text N X' (cls g n j (Cu g n+1) 0 S) J'/\Lk X J X' J':=by
 refine Aj Tryz.func153 rfl rfl fun hw hu0=>?_
 refine G5 ?_;refine Ci (fun q:Nat×Ch=>[(0,.pr X.c 0),(1,nV j),(4,nV q.1)]) (fun q J0=>∃Y,ChS g text N Y q.2 J0/\Lk X J Y J0/\Gj g q.2/\q.2.sets.length=S.sets.length/\q.1<=(q.2.set j).length/\q.1<=Cu g n/\cls g n j (Cu g n+1-q.1) q.1 q.2=cls g n j (Cu g n+1) 0 S) (fun q=>Cu g n+1-q.1) (0,S) SL ⟨X,h,Lk.refl _ _,hok,rfl,aq_ _,aq_ _,rfl⟩ ?_
 rintro⟨i0,T0⟩ J0 ⟨Y,hY,hL,cq,hlT,hi0,hib,hfu⟩;have hlT:T0.sets.length=S.sets.length:=hlT;have hi0:i0<=(T0.set j).length:=hi0;have hib:i0<=Cu g n:=hib;have hfu:cls g n j (Cu g n+1-i0) i0 T0=cls g n j (Cu g n+1) 0 S:=hfu;have hY:ChS g text N Y T0 J0:=hY;have cq:Gj g T0:=cq
 have hj1:j<T0.sets.length:=by omega
 obtain⟨l,hl⟩:=Ar hj1
 obtain⟨v,hv⟩:=Ar (show j<Y.vals.length by rw[hY.lv];exact hj1)
 have hvl:=(ae_.1 hv).1;have cd:=ej_ hl;rw[cd]at hi0;have bf:=hY.vals _ l v hl hv;obtain⟨aS,tS,_,zS2,hvS,hgS⟩:=hY.sets.sr hvl
 have hcl:J0.get X.c=some (.cells [Af g.sorts,slV eR 4 g.rules,.mp Y.mR,Af text,.sr aS 0 1 Y.vals.length none,Y.vI,.mp Y.mD]):=by rw[←hvS,←hL.c];exact hY.cl
 have hlb:l.length<=Cu g n:=by have:=(cq.set (j:=j)).bound (n:=n) Om;grind
 have hv1:∀r,Cz 1 false (eV v++r)=some v:=fun r=>by
  rcases bf with⟨_,rfl|rfl⟩|⟨a,tl,_,_,rfl,_⟩<;>rfl
 refine G7 ?_;refine O1 (lO hcl) ?_;refine G ?_;refine O1 (Br elC rfl rfl hvl) (O1 (Dg O0 ldC rfl hgS hv hv1) (O1 (Bf slC rfl bf.lenA.1 bf.lenA.2) ?_));refine G2 ?_;refine Ab rfl ?_ ?_<;>intro h1
 ·have bc:i0<l.length:=gr;obtain⟨x,hx⟩:=Ar bc;obtain⟨a,tl,_,_,hva,hga⟩:=bf.sr bc
  have hxo:Vm g j x:=cq _ l hl|>.2 x (au_.2 ⟨_,hx⟩)
  obtain⟨MD,⟨vD,hMD⟩,dh⟩:=hY.done;have hst:=Ack (n:=n) (x:=x) cq hxo
  have dt:cls g n j (Cu g n+1-(i0+1)) (i0+1) (Dj g n j x T0)=cls g n j (Cu g n+1) 0 S:=by
   rw[←hfu,show Cu g n+1-i0=(Cu g n+1-(i0+1))+1 by omega]
   simp only[cls,cd,hx]
  have hnl:i0+1<=((Dj g n j x T0).set j).length:=by
   have:=Ajq (g:=g) (n:=n) (j:=j) (x:=x) (S:=T0) (k:=j)
   grind
  refine G8 ?_;refine O1 (lO hcl) ?_;refine G ?_;refine O1 (Br elC rfl rfl hvl) (O1 (Dg O0 ldC rfl hgS hv hv1) ?_);refine G ?_;refine O1 (Br elC (show _=some (AV.sr a 0 3 l.length none)from congrArg some hva) rfl bc) (O1 (Dg Rx ldC rfl hga hx fun _=>rfl) ?_)
  refine G6 ?_;refine Ca (show Al Ew 188 [.pr X.c 0,itV x] J0 _ from f188 g X.c j x _ J0 hcl hxo) ?_
  refine G3 ?_;refine Ho ziC ldC rfl (fun _=>rfl) rfl (A7 (Ahg _)) rfl rfl ?_
  refine G9 ?_;refine Ab rfl ?_ ?_<;>intro h2
  ·have hn0:nxI g x=none:=by cases hh:nxI g x with|none=>rfl|some p=>rw[hh]at h2;simp at h2
   obtain⟨r,hr0⟩:=Ar hxo.1
   have hso:rSo g x.1=r.sort:=by unfold rSo;rw[hr0]
   obtain⟨s0,hs0⟩:∃s0:Sp,(r.sort,x.2.2,j)=s0:=⟨_,rfl⟩
   have hsE:eSp s0=[sV r.sort,nV x.2.2,nV j]:=by rw[←hs0];rfl
   refine Gz 8 [.str [],.int .i64 0,.int .i64 0] (eSp s0) [] rfl rfl (fun hw0=>?_) ?_
   ·refine XX 1 (l:=[]) trivial ?_;refine G4 ?_
    refine DF (lO hcl) (DF (Bp Ii rfl rfl (by decide) rfl) ?_)
    refine G4 ?_
    refine DF (Bp Ii rfl rfl (by decide) rfl) ?_
    refine G3 ?_
    refine DT (Bu ziC) (DT (G1 (cs:=[.str [],.int .i64 0,.int .i64 0]) (cs':=eSp s0) gr ldC rfl rfl rfl (by rw[hsE];rfl)) ?_)
    refine G ?_
    exact⟨(by intro e he;simp at he;rcases he with rfl|rfl<;>first|exact .refl|exact K4 hw0),trivial,sb,rfl,rfl⟩
   refine G2 ?_;refine X0 ?_;refine G3 ?_;refine DF (lO hcl) ?_;refine G ?_;refine DF (Acp Va rfl ⟨vD,hMD⟩ rfl (Acn s0)) ?_;refine G ?_;refine⟨rfl,rfl,?_⟩;refine Ab rfl ?_ ?_<;>intro h3
   ·have hin:s0∈T0.done:=Classical.byContradiction gr
    have eS:Dj g n j x T0=T0:=by unfold Dj;grind
    refine G6 ?_;refine⟨(i0+1,Dj g n j x T0),gr,SL,Y,gr,hL,hst.ok,hst.len.trans hlT,hnl,gr,dt⟩
   ·have hin:s0∉T0.done:=gr
    have eS:Dj g n j x T0=adv g s0 (Cu g n+1) 0 { T0 with done:=s0::T0.done }:=by unfold Dj;grind
    obtain⟨hD1,hD2⟩:=hY.doneS (s:=s0) (ver:=vD+1) dh
    have hs1:s0.2.1<=s0.2.2:=by rw[←hs0];exact hxo.2.2
    have hs2:s0.2.2=j:=by rw[←hs0]
    refine G2 ?_;refine XS (l:=[]) trivial ?_;refine G3 ?_;refine DF (lO hcl) ?_;refine G ?_
    refine DT (K7 (v:=true) Va rfl hMD rfl (Acn s0) rfl (fun te h1 h2=>by simp[Je,h1,h2])) ?_
    refine G4 ?_;refine Az rfl rfl rfl rfl (show Al Ew 189 [.pr X.c 0,.agg (eSp s0)] _ _ from hL.c▸f189 hD1 s0 cq hs1 gr gr hb) ?_
    rintro u1 J1 ⟨Z,hZ,hLZ⟩;refine G6 ?_;refine⟨(i0+1,Dj g n j x T0),gr,SL,Z,gr,hL.trans (hD2.trans hLZ),hst.ok,hst.len.trans hlT,hnl,gr,dt⟩
  ·obtain⟨p,hp⟩:∃p,nxI g x=some p:=by cases hh:nxI g x with|none=>rw[hh]at h2;simp at h2|some p=>exact⟨p,rfl⟩
   have hbx:x.2.1<=30000000:=ai_ (ai_ hxo.2.1 W9) (ai_ (Alo hxo.1) hb)
   have hnS:nxS (nxI g x)=p.sort:=by rw[hp];rfl
   have hbj:Cu g j<=30000000:=ai_ (Asm Om) hb;refine G3 ?_;refine O1 (Ac ldC rfl rfl (Nt _)) (O1 (Ko (q:=[]) okC rfl rfl) ?_);refine G2 ?_;refine Ab rfl ?_ ?_<;>intro h3
   ·have hne:p.sort≠[]:=gr;refine G4 ?_;refine O1 (Ac ldC rfl rfl (Nt _)) ?_;refine G ?_;refine Az rfl rfl rfl rfl (show Al Ew 152 [.pr X.c 0,sV (nxS (nxI g x)),nV j] J0 _ from hL.c▸f152 hY (hr.lk hL) _ hj1 cq hbj hR) ?_
    rintro u1 J1 ⟨Z,hZ,hLZ⟩;obtain⟨ME,⟨vE,hME⟩,hMEx⟩:=hZ.done
    have qp:J1.get X.c=some (.cells (Z.cells g text)):=by rw[←(hL.trans hLZ).c];exact hZ.cl
    have hdZ:(T0.pred g (nxS (nxI g x)) j).done=T0.done:=Afo;refine G2 ?_;refine X0 ?_;refine G3 ?_;refine DF (lO qp) ?_;refine G ?_;refine DF (Ac ldC rfl rfl (Nt _)) ?_;refine G3 ?_;refine DF (Acp Va rfl ⟨vE,hME⟩ rfl (Acn (nxS (nxI g x),j,j))) ?_;refine G ?_;refine⟨rfl,rfl,?_⟩;refine Ab rfl ?_ ?_<;>intro h4
    ·have hin:(p.sort,j,j)∈(T0.pred g p.sort j).done:=Classical.byContradiction gr
     have eS:Dj g n j x T0=(T0.pred g p.sort j).add j (upI x):=by unfold Dj;grind
     rw[hnS]at hZ;have ib:Gj g (T0.pred g p.sort j):=cq.adds Vn;refine G3 ?_
     refine O1 (Bp Ii rfl rfl (by decide) rfl) ?_
     refine G ?_
     refine O1 (Bp Ii rfl rfl (by decide) rfl) ?_
     refine G2 ?_
     refine O1 (Bp Ii rfl rfl (by decide) rfl) ?_
     refine G ?_
     refine O1 (G0 Anl Ii rfl rfl) (Az rfl rfl rfl rfl (show Al Ew 187 [.pr X.c 0,nV j,itV (upI x)] J1 _ from(hL.trans hLZ).c▸f187 hZ (upI x) (by show j<(T0.adds j _).sets.length;rw[dx_];exact hj1) (ai_ ((ib.set (j:=j)).bound (n:=n) Om) hb)) ?_)
     rintro u2 J2 ⟨V,hV,hLV⟩;refine G6 ?_;refine⟨(i0+1,Dj g n j x T0),gr,SL,V,gr,(hL.trans hLZ).trans hLV,hst.ok,hst.len.trans hlT,hnl,gr,dt⟩
    ·have hin:(p.sort,j,j)∉T0.done:=gr
     have eS:Dj g n j x T0=T0.pred g p.sort j:=by unfold Dj;grind
     rw[hnS]at hZ;refine G6 ?_;refine⟨(i0+1,Dj g n j x T0),gr,SL,Z,gr,hL.trans hLZ,hst.ok,hst.len.trans hlT,hnl,gr,dt⟩
   ·have he:p.sort=[]:=gr
    have eS:Dj g n j x T0=T0:=by unfold Dj;grind
    refine G6 ?_;refine⟨(i0+1,Dj g n j x T0),gr,SL,Y,gr,hL,hst.ok,hst.len.trans hlT,hnl,gr,dt⟩
 ·have bj:l.length<=i0:=gr
  have ma:T0=cls g n j (Cu g n+1) 0 S:=by
   rw[←hfu,show Cu g n+1-i0=(Cu g n-i0)+1 by omega]
   simp only[cls,cd,List.getElem?_eq_none_iff.2 bj]
  refine Bo fun hw0=>?_
  refine G ?_;exact⟨[],rfl,_,_,a_ hw0 nl (fun _ _=>rfl),hL.n,.same rfl,Y,gr,hL⟩
theorem ChS.below{g text N X S J U}(h:ChS g text N X S J)(hB:Below (nx J) J U):ChS g text N X S U:=by
 have g0:∀t a,X.loc t=some a->U.get a=J.get a:=fun t a ht=>hB.2 a (h.lo t a ht).2
 refine⟨h.inj,fun t a ht=>⟨(h.lo t a ht).1,ak_ (h.lo t a ht).2 hB.1⟩,(g0 .c _ rfl).trans h.cl,h.sets.of_get hB.1 fun a ha=>g0 .s a ha,h.is.of_get hB.1 fun a ha=>g0 .i a ha,h.lv,h.lm,fun k l u hl hu=>(h.vals k l u hl hu).of_get hB.1 fun a ha=>g0 (.v k) a (by show(X.vals[k]?).bind adr=_;grind),fun k l u hl hu=>(h.mps k l u hl hu).of_get (g0 (.m k) u hu),h.done.of_get (g0 .d _ rfl)⟩
theorem Lk.below{g text N X S J U}(h:ChS g text N X S J)(hB:Below (nx J) J U):Lk X J X U:=⟨rfl,rfl,rfl,hB.1,fun t a ht=>.inl ⟨t,ht⟩,fun b hb _=>hB.2 b hb⟩
theorem Asn{g l sym}:(Ma g l sym).length<=l.length:=List.length_filterMap_le _ _
theorem Aps{g}{l:List It}{sym i x}(h:l[i]? =some x):Ma g (l.take (i+1)) sym=Ma g (l.take i) sym++(Ahd g sym x).toList:=by
 have e:l.take (i+1)=l.take i++[x]:=by rw[List.take_add_one,h];rfl
 unfold Ma
 grind
theorem Apt{g sym x y}(h:Ahd g sym x=some y):y=upI x/\∃p,nxI g x=some p:=by
 unfold Ahd at h
 grind
def nxY:Option Pt->Str
 |some p=>p.symbol
 |none=>[]
theorem Au1(o):Cz 1 false ((nxC o).drop 0)=some (sV (nxY o)):=by cases o<;>rfl
theorem Ano{g sym x}:(Ahd g sym x).isSome=((nxI g x).isSome&&decide (nxS (nxI g x)=[])&&decide (nxY (nxI g x)=sym)):=by
 unfold Ahd;cases nxI g x with
 |none=>rfl
 |some p=>
  show(if p.sort=[]/\p.symbol=sym then some (upI x)else none).isSome=(true&&decide (p.sort=[])&&decide (p.symbol=sym))
  by_cases h1:p.sort=[]<;>by_cases h2:p.symbol=sym<;>simp[h1,h2]
theorem Apu{g n}:Cu g n<=Cu g (n+1):=Nat.mul_le_mul_left _ (Nat.mul_le_mul_left _ Om)
theorem f154{g text N X S J}(h:ChS g text N X S J){j}(hj:S.sets.length=j+1)(hjt:j<text.length)(hok:Gj g S)(hb1:Cu g (j+1)<=30000000)(bn:S.sets.length<=1000000):Al Ew 154 [.pr X.c 0,nV j] J fun v J'=>match S.scan g text j with
  |none=>v=.bool false/\∃X',ChS g text N X' S J'/\Lk X J X' J'
  |some aC=>v=.bool true/\∃X',ChS g text N X' aC J'/\Lk X J X' J':=by
 obtain⟨sym,htx⟩:=Ar hjt;have np:text.getD j []=sym:=gr;have hb:Cu g j<=30000000:=ai_ Apu hb1
 obtain⟨l,hl⟩:=Ar (show j<S.sets.length by omega)
 obtain⟨v,hv⟩:=Ar (show j<X.vals.length by rw[h.lv];omega)
 have hvl:=(ae_.1 hv).1;have bf:=h.vals _ l v hl hv;obtain⟨aS,tS,_,zS2,hvS,hgS⟩:=h.sets.sr hvl
 have hcl:J.get X.c=some (.cells [Af g.sorts,slV eR 4 g.rules,.mp X.mR,Af text,.sr aS 0 1 X.vals.length none,X.vI,.mp X.mD]):=by rw[←hvS];exact h.cl
 have hlb:l.length<=30000000:=ai_ ((hok _ l hl).bound (n:=j) nl) hb
 have hv1:∀r,Cz 1 false (eV v++r)=some v:=fun r=>by
  rcases bf with⟨_,rfl|rfl⟩|⟨a,tl,_,_,rfl,_⟩<;>rfl
 refine Aj Tryz.func154 rfl rfl fun hw hu0=>?_
 iterate 14 refine G ?_
 refine O1 (lO hcl) ?_;refine G ?_;refine O1 (Br elC rfl rfl hvl) (O1 (Dg O0 ldC rfl hgS hv hv1) (O1 (Bf slC rfl bf.lenA.1 bf.lenA.2) ?_));refine G3 ?_;refine Ci (fun q:Nat×AV=>[(0,.pr X.c 0),(1,nV j),(5,q.2),(18,v),(19,nV l.length),(20,nV q.1)]) (fun q J0=>q.1<=l.length/\Below (nx J) J J0/\Own J0 (nx J) eIt 3 (Ma g (l.take q.1) sym) q.2) (fun q=>l.length-q.1) (0,nS) SL ⟨aq_ _,fn_,.nil⟩ ?_
 rintro⟨i0,u⟩ J0 ⟨hi0,hB0,c9⟩;have hi0:i0<=l.length:=hi0;have hB0:Below (nx J) J J0:=hB0;have hY:ChS g text N X S J0:=h.below hB0;have hul:(Ma g (l.take i0) sym).length<=30000000:=ai_ Asn (ai_ gr hlb);have c9:Own J0 (nx J) eIt 3 (Ma g (l.take i0) sym) u:=c9;refine G5 ?_;refine Ab rfl ?_ ?_<;>intro h1
 ·have bc:i0<l.length:=gr;obtain⟨x,hx⟩:=Ar bc;obtain⟨a,tl,_,_,hva,hga⟩:=(hY.vals _ l v hl hv).sr bc;have hxo:Vm g j x:=(hok _ l hl).2 x (au_.2 ⟨_,hx⟩);have htk:=Aps (g:=g) (sym:=sym) hx;have nq:J0.get X.c=_:=hY.cl;refine G5 ?_;refine O1 (Br elC (show _=some (AV.sr a 0 3 l.length none)from congrArg some hva) rfl bc) (O1 (Dg Rx ldC rfl hga hx fun _=>rfl) ?_)
  refine G6 ?_;refine Ca (show Al Ew 188 [.pr X.c 0,itV x] J0 _ from f188 g X.c j x _ J0 nq hxo) ?_
  refine G3 ?_;refine Ho ziC ldC rfl (fun _=>rfl) rfl (A7 (Ahg _)) rfl rfl ?_
  refine G2 ?_;refine Gg [(47,.bool ((nxI g x).isSome&&decide (nxS (nxI g x)=[])&&decide (nxY (nxI g x)=sym)))] ?_ ?_
  ·rcases av_ ((nxI g x).isSome)with hg1|hg1
   ·rcases av_ (decide (nxS (nxI g x)=[]))with hg6|hg6
    ·refine X0 ?_;refine G3 ?_;refine Xn (Ac ldC rfl rfl (Nt _)) ?_;refine G4 ?_;refine Xn (Ac ldC rfl rfl (Au1 _)) ?_;refine G3 ?_;refine Xn (lO nq) ?_;refine G6 ?_;exact⟨rfl,rfl,⟨⟨Cb,trivial⟩,sb,rfl⟩⟩
    ·refine X0 ?_;refine G3 ?_;refine Xn (Ac ldC rfl rfl (Nt _)) ?_;refine Wn (w:=R2 hg6 hg1) (H5 (q:=[]) okC rfl rfl) (DF (A3 rfl (R2 hg6 hg1) rfl) (DF (Ag rfl) (Wx (w:=R2 hg6 hg1) (Wx (w:=R2 hg6 hg1) (Wx (w:=R2 hg6 hg1) (Wx (w:=R2 hg6 hg1) (Wx (w:=R2 hg6 hg1) ?_)))))));refine Wx (w:=R2 hg6 hg1) (Wx (w:=R2 hg6 hg1) (Wx (w:=R2 hg6 hg1) (Wx (w:=R2 hg6 hg1) (Wx (w:=R2 hg6 hg1) (DF (Au rfl (R2 hg6 hg1) rfl) (C1 ?_))))));exact⟨rfl,rfl,⟨⟨congrArg (fun b=>some (AV.bool b)) (R2 hg6 hg1),trivial⟩,sb,rfl⟩⟩
   ·refine X0 ?_;refine DF (Ag rfl) (DF (Ag rfl) (Wx (w:=R1 hg1) (Wx (w:=R1 hg1) (Wx (w:=R1 hg1) (DF (Au rfl (R1 hg1) rfl) (DF (Ag rfl) (Wx (w:=R1 hg1) ?_)))))));refine Wx (w:=R1 hg1) (Wx (w:=R1 hg1) (Wx (w:=R1 hg1) (Wx (w:=R1 hg1) (Wx (w:=R1 hg1) (Wx (w:=R1 hg1) (Wx (w:=R1 hg1) (Wx (w:=R1 hg1) ?_)))))));refine Wx (w:=R1 hg1) (DF (Au rfl (R1 hg1) rfl) (C1 ?_));exact⟨rfl,rfl,⟨⟨congrArg (fun b=>some (AV.bool b)) (R1 hg1),trivial⟩,sb,rfl⟩⟩
  refine Ab rfl ?_ ?_<;>intro h2
  ·rw[←Ano]at h2;obtain⟨x',hx'⟩:=bg_.1 h2;obtain⟨hxu,p,hp⟩:=Apt hx';subst hxu;have hbx:x.2.1<=30000000:=ai_ (ai_ hxo.2.1 W9) (ai_ (Alo (n:=j) hxo.1) hb);have hNσ:=(h.lo .c _ rfl)
   obtain⟨J1,hap,n1,ho1,g1⟩:=dn_ (by':=24) Rx hB0.1 c9 (upI x) (by simp only[sizeLim];omega)
   refine G2 ?_
   refine O1 (Bp Ii rfl rfl (by decide) rfl) ?_
   refine G ?_
   refine O1 (Bp Ii rfl rfl (by decide) rfl) ?_
   refine G2 ?_
   refine O1 (Bp Ii rfl rfl (by decide) rfl) ?_
   refine G ?_;refine O1 (G0 Anl Ii rfl rfl) (Cx (Ai elC byW rfl rfl rfl) (Dv (len:=1)) rfl rfl (O1 (Av elC rfl slC rfl rfl rfl (new:=eIt (upI x)) rfl hap) ?_));refine G6 ?_
   refine⟨(i0+1,.sr (nx J0) 0 3 ((Ma g (l.take i0) sym).length+1) none),gr,SL,bc,⟨by have:=hB0.1;omega,fun b hb=>by rw[g1 b (by have:=hB0.1;omega) (fun e=>by have:=c9.adr_lt e;omega),hB0.2 b hb]⟩,gr⟩
  ·rw[←Ano]at h2
   have hx':Ahd g sym x=none:=by cases hh:Ahd g sym x with|none=>rfl|some _=>rw[hh]at h2;cases h2
   refine G5 ?_;refine⟨(i0+1,u),gr,SL,bc,hB0,gr⟩
 ·have bj:l.length<=i0:=gr;have htk:l.take i0=l:=at_ bj;rw[htk]at c9 hul;refine G5 ?_;refine O1 (Bf slC rfl c9.lenA.1 c9.lenA.2) ?_;refine G2 ?_;refine Ab rfl ?_ ?_<;>intro h2
  ·have fj:Ma g l sym=[]:=ce_ gr;refine G4 ?_;refine Bo fun hw0=>?_
   refine G ?_;refine⟨_,rfl,_,_,a_ hw0 nl (fun _ _=>rfl),hB0.1,.same rfl,?_⟩
   have e:S.scan g text j=none:=by unfold Ch.scan;rw[ej_ hl,np,fj]
   rw[e];exact⟨rfl,X,hY,Lk.below h hB0⟩
  ·have hne:Ma g l sym≠[]:=gr;refine G4 ?_;refine Az rfl rfl rfl rfl (f151 hY Om) ?_;rintro u1 J1 ⟨Y1,hY1,hL1⟩
   have hu1:Own J1 (nx J) eIt 3 (Ma g l sym) u:=c9.of_get hL1.n fun b hb=>hL1.fr b (c9.adr_lt hb).2 fun t ht=>by have:=(h.lo t b ht).2;have:=(c9.adr_lt hb).1;omega
   refine G5 ?_;refine O1 (Bf slC rfl hu1.lenA.1 hu1.lenA.2) ?_;refine G3 ?_;refine Bz (Ma g l sym).length (fun i2=>[(0,.pr X.c 0),(1,nV j),(65,u),(66,nV (Ma g l sym).length),(67,nV i2)]) (fun i2 J2=>Own J2 (nx J) eIt 3 (Ma g l sym) u/\(∀b,nx J<=b->b<nx J1->(∀t,Y1.loc t≠some b)->J2.get b=J1.get b)/\∃Y,ChS g text N Y (S.open'.adds (j+1) ((Ma g l sym).take i2)) J2/\Lk Y1 J1 Y J2) SL ⟨hu1,fun _ _ _ _=>rfl,Y1,hY1,Lk.refl _ _⟩ ?_
   rintro i2 J2 hi2 ⟨hu2,hfr2,Y2,hY2,hL2⟩;refine G5 ?_;refine Ab rfl ?_ ?_<;>intro h3
   ·have bv:i2<(Ma g l sym).length:=gr;obtain⟨x2,hx2⟩:=Ar bv;obtain⟨a2,tl2,ha2,ha2',qq,qv⟩:=hu2.sr bv
    have hj1:j+1<(S.open'.adds (j+1) ((Ma g l sym).take i2)).sets.length:=by rw[dx_];show j+1<(S.sets++[[]]).length;simp[hj]
    have ib:Gj g (S.open'.adds (j+1) ((Ma g l sym).take i2)):=(Ahe hok).adds fun y hy=>Ase (hok _ l hl).2 y (cm_ hy)
    refine G5 ?_;refine O1 (Br elC (show _=some (AV.sr a2 0 3 (Ma g l sym).length none)from congrArg some qq) rfl bv) (O1 (Dg Rx ldC rfl qv hx2 fun _=>rfl) ?_)
    refine G7 ?_;refine Az rfl rfl rfl rfl (show Al Ew 187 [.pr X.c 0,nV (j+1),itV x2] J2 _ from(hL1.trans hL2).c▸f187 hY2 x2 hj1 (ai_ ((ib.set (j:=j+1)).bound (n:=j+1) nl) hb1)) ?_
    rintro u3 J3 ⟨Z,hZ,hLZ⟩;refine G5 ?_;rw[←Afn hx2]at hZ
    have hdj:∀b,nx J<=b->b<nx J1->(∀t,Y1.loc t≠some b)->∀t,Y2.loc t≠some b:=fun b h1 h2 h3 t ht=>by
     rcases hL2.sub t b ht with⟨w,hw⟩|hw
     ·exact h3 w hw
     ·omega
    refine⟨bv,SL,hu2.of_get hLZ.n fun b hb=>?_,fun b h1 h2 h3=>?_,Z,hZ,hL2.trans hLZ⟩
    ·have hb1:=(c9.adr_lt hb);have hbn:=hL1.n
     exact hLZ.fr b (by have:=hL2.n;omega) (hdj b hb1.1 Om fun t ht=>by
      rcases hL1.sub t b ht with⟨w,hw⟩|hw
      ·have:=(h.lo w b hw).2;omega
      ·omega)
    ·rw[hLZ.fr b (by have:=hL2.n;omega) (hdj b h1 h2 h3)];grind
   ·have ba:(Ma g l sym).length<=i2:=gr;rw[at_ ba]at hY2;refine G5 ?_;refine Bo fun hw3=>?_
    refine G ?_;have hLL:=((Lk.below h hB0).trans hL1).trans hL2;refine⟨_,rfl,_,_,a_ hw3 nl (fun _ _=>rfl),hLL.n,.same rfl,?_⟩
    have e:S.scan g text j=some (S.open'.adds (j+1) (Ma g l sym)):=by
     unfold Ch.scan;rw[ej_ hl,np]
     grind
    rw[e];exact⟨rfl,Y2,hY2,hLL⟩
theorem f120(r J):Cv 120 [.agg (eR r)] J (.bool true):=by
 refine Aj Tryz.func120 rfl rfl fun hw hu0=>?_
 refine G10 ?_;exact⟨_,rfl,_,_,a_ hw nl (fun _ _=>rfl),nl,.same rfl,rfl,rfl⟩
theorem Q0{E ρ J Rr t n sz x v agg cs}(hi:ldI E.P t=some (sz,agg))(hx:Ah E ρ x=some v)(hc:v.cellsN sz=some cs)(hn:nx J=n):As E Rr (.box t x) ρ J (.pr n 0) (J.new (.cells cs)):=by subst hn;exact Aqy hi hx hc
theorem Ahh{ρ J Rr t sz r x y agg z u α enc}{m:SM α}{s}(h9:Fs Ew.P 9=true)(hi:mpI Ew.P t=some (9,z,sz,agg))(hx:Ah Ew ρ x=some (.mp r))(hm:B8 enc J r m)(hy:Ah Ew ρ y=some (sV s))(ho:((m.get s).map enc).getD z=u):
  As Ew Rr (.lookup t x y false) ρ J u J:=by subst ho;exact W4 h9 hi hx hm hy
def Mv(g:Gr)(i:Nat)(s:Str):List Nat:=(List.range i).filter fun k=>decide (rSo g k=s)
theorem Apv{g i s}:(Mv g i s).length<=i:=by
 unfold Mv
 grind
theorem Alp{g i s r}(h:g.rules[i]? =some r):Mv g (i+1) s=if s=r.sort then Mv g i s++[i]else Mv g i s:=by
 unfold Mv
 have e:rSo g i=r.sort:=by unfold rSo;rw[h]
 rw[List.range_succ,fy_]
 grind
structure RB (g:Gr)(N i mR:Nat)(rv:SM AV)(J:Sto):Prop where
 map:B8 (fun v:AV=>v) J mR rv
 lo:∀s v a,rv.get s=some v->adr v=some a->N<=a/\a<nx J
 inj:∀s t v w a,rv.get s=some v->rv.get t=some w->adr v=some a->adr w=some a->s=t
 get:∀s,match rv.get s with|none=>Mv g i s=[]|some v=>Own J 0 eN 1 (Mv g i s) v
theorem RB.start{g N mR J}(h:J.get mR=some (.map 9 [] 0)):RB g N 0 mR [] J:=⟨⟨0,h⟩,fun s v a h=>(by cases h),fun s t v w a h=>(by cases h),fun s=>rfl⟩
theorem RB.own{g N i mR rv J}(h:RB g N i mR rv J)(s):∃v,((rv.get s=none/\v=nS)∨rv.get s=some v)/\Own J 0 eN 1 (Mv g i s) v/\True:=by
 have:=h.get s;cases hs:rv.get s with
 |none=>rw[hs]at this;exact⟨_,.inl ⟨rfl,rfl⟩,by rw[this];exact .nil,trivial⟩
 |some v=>rw[hs]at this;exact⟨v,.inr rfl,this,trivial⟩
theorem RB.step{g N i mR ver rv J J1 r v}(h:RB g N i mR rv J)(hr:g.rules[i]? =some r)(hm:mR<N)(hN:N<=nx J)(hv:(rv.get r.sort=none/\v=nS)∨rv.get r.sort=some v)(n1:nx J1=nx J+1)
  (ho:Own J1 0 eN 1 (Mv g i r.sort++[i]) (.sr (nx J) 0 1 ((Mv g i r.sort).length+1) none))(g1:∀a,a<nx J->adr v≠some a->J1.get a=J.get a):
  RB g N (i+1) mR (rv.put r.sort (.sr (nx J) 0 1 ((Mv g i r.sort).length+1) none)) (J1.set mR (.map 9 (Cn (fun v:AV=>v) (rv.put r.sort (.sr (nx J) 0 1 ((Mv g i r.sort).length+1) none))) ver)):=by
 refine⟨⟨ver,gr⟩,fun s w a hs ha=>?_,fun s t w z a hs ht ha hb=>?_,fun s=>?_⟩
 ·rw[Aq];rw[ch_]at hs
  split at hs
  ·cases hs;cases ha;omega
  ·have:=h.lo s w a hs ha;omega
 ·rw[ch_]at hs ht
  split at hs<;>split at ht
  ·grind
  ·cases hs;cases ha;have:=h.lo t z _ ht hb;omega
  ·cases ht;cases hb;have:=h.lo s w _ hs ha;omega
  ·exact h.inj s t w z a hs ht ha hb
 ·rw[ch_,Alp hr]
  by_cases e:s=r.sort
  ·subst e;rw[if_pos rfl,if_pos rfl]
   exact ho.of_get gr fun a ha=>by cases ha;grind
  ·rw[if_neg e,if_neg e];have:=h.get s;cases hs:rv.get s with
   |none=>rw[hs]at this;exact this
   |some w=>
    rw[hs]at this;refine this.of_get gr fun a ha=>?_
    have hl:=h.lo s w a hs ha;rw[aa_,if_neg Om,g1 a hl.2 fun hva=>?_]
    rcases hv with⟨_,rfl⟩|hv
    ·cases hva
    ·exact e (h.inj _ _ _ _ _ hs hv ha hva)
theorem RB.rls{g N mR rv J X}(h:RB g N g.rules.length mR rv J)(hx:X.mR=mR)(hm:mR<nx J)(hl:∀t a,X.loc t=some a->a<N/\a≠mR):RlS g rv X J:=by
 refine⟨by rw[hx];exact h.map,fun a ha=>?_,h.get⟩
 rcases ha with rfl|⟨s,v,hs,hv⟩
 ·grind
 ·have:=h.lo s v a hs hv
  grind
theorem Anp{g n m}(h:n<=m):Cu g n<=Cu g m:=Nat.mul_le_mul_left _ (Nat.mul_le_mul_left _ Om)
abbrev cp0(c:Nat):Cp:=⟨c+2,c,c+1,nS,nS,[],[]⟩
theorem X0.loc_lt{c t a}(h:(cp0 c).loc t=some a):a<c+3/\a≠c:=by
 cases t with
 |c=>have h:c+2=a:=by_ h;omega
 |d=>have h:c+1=a:=by_ h;omega
 |s=>cases h
 |i=>cases h
 |v j=>cases j<;>cases h
 |m j=>cases j<;>cases h
theorem X0.chS{g text c J}(hd:J.get (c+1)=some (.map 232 [] 0))(hc:J.get (c+2)=some (.cells ((cp0 c).cells g text)))(hn:c+3<=nx J):ChS g text c (cp0 c) ⟨[],[]⟩ J:=by
 refine⟨fun t u a ht hu=>?_,fun t a ht=>?_,hc,.nil,.nil,rfl,rfl,fun j l v hj=>gr,fun j l m hj=>gr,⟨[],⟨0,hd⟩,fun x=>⟨fun h=>(by cases h),fun _=>rfl⟩⟩⟩
 ·cases t<;>cases u<;>first|rfl|(cases ht;cases hu;done)|(cases ht;done)|(cases hu;done)|(rename_i j;cases j<;>cases ht;done)|(rename_i j;cases j<;>cases hu;done)|(rename_i j k;cases j<;>cases ht)|(have h1:c+2=a:=by_ ht;have h2:c+1=a:=by_ hu;omega)|(have h1:c+1=a:=by_ ht;have h2:c+2=a:=by_ hu;omega)
 ·have h1:=X0.loc_lt ht;cases t with
  |c=>have h:c+2=a:=by_ ht;omega
  |d=>have h:c+1=a:=by_ ht;omega
  |s=>cases ht
  |i=>cases ht
  |v j=>cases j<;>cases ht
  |m j=>cases j<;>cases ht
theorem X0.blw{c X J J0 U}(hB:Below c J J0)(hn:c+3<=nx J0)(hL:Lk (cp0 c) J0 X U):Below c J U:=⟨ai_ hB.1 hL.n,fun b hb=>by
 rw[hL.fr b Om fun t ht=>?_,hB.2 b hb]
 cases t with
 |c=>have:=by_ ht;simp[cp0]at this;omega
 |d=>have:=by_ ht;simp[cp0]at this;omega
 |s=>cases ht
 |i=>cases ht
 |v j=>cases j<;>cases ht
 |m j=>cases j<;>cases ht⟩
theorem f119(g sort text J)(hb:Cu g text.length<=30000000)(hR:g.rules.length<=1000000)(hl:text.length<1000000):Al Ew 119 [grV g,sV sort,Af text,.fn (.func 120) [] []] J fun v J'=>∃X rv,v=.pr X.c 0/\ChS g text (nx J) X (Ej g sort text) J'/\RlS g rv X J'/\Below (nx J) J J':=by
 obtain⟨J1,hσ1⟩:∃J1,((J.new (.map 9 [] 0)).new (.map 232 [] 0)).new (.cells ((cp0 (nx J)).cells g text))=J1:=⟨_,rfl⟩;have hm1:J1.get (nx J)=some (.map 9 [] 0):=gr;have hd1:J1.get (nx J+1)=some (.map 232 [] 0):=gr;have hc1:J1.get (nx J+2)=some (.cells ((cp0 (nx J)).cells g text)):=gr;have hn1:nx J1=nx J+3:=gr
 have hB1:Below (nx J) J J1:=⟨by omega,gr⟩
 refine Aj Tryz.func119 rfl rfl fun hw hu0=>?_
 refine G8 ?_;refine O1 (Gx Ae5) ?_;refine G ?_;refine O1 (Cd (n:=nx J+1) Va (Ao _ _)) ?_;refine G ?_;refine O1 (Q0 (n:=nx J+2) (cs:=(cp0 (nx J)).cells g text) ldC rfl rfl gr) ?_;refine G2 ?_;rw[hσ1];refine G9 ?_
 refine Bz g.rules.length (fun i0=>[(1,sV sort),(2,Af text),(3,.fn (.func 120) [] []),(9,.pr (nx J+2) 0),(20,slV eR 4 g.rules),(21,nV g.rules.length),(22,nV i0)]) (fun i0 J0=>∃rv,RB g (nx J+3) i0 (nx J) rv J0/\Below (nx J) J J0/\J0.get (nx J+1)=some (.map 232 [] 0)/\J0.get (nx J+2)=some (.cells ((cp0 (nx J)).cells g text))/\nx J+3<=nx J0) SL ⟨[],RB.start hm1,hB1,hd1,hc1,by omega⟩ ?_
 rintro i0 J0 hi0 ⟨rv,hrb,hB0,hd0,hc0,hn0⟩;refine G5 ?_;refine Ab rfl ?_ ?_<;>intro h1
 ·have bc:i0<g.rules.length:=gr;obtain⟨r,hr⟩:=Ar bc;refine G7 ?_;refine O1 (Ac ldC rfl rfl (A6 (Qy r) _)) (Rn ziC ldC rfl rfl (fun _=>rfl) rfl (fun _=>rfl) rfl (A7 (Qy r)) rfl rfl rfl ?_)
  refine G5 ?_;refine Ca (f120 r J0) ?_;refine G ?_;refine Ab rfl ?_ ?_<;>intro h2
  ·obtain⟨v,hv,bf,_⟩:=hrb.own r.sort;obtain⟨ver,hM⟩:=hrb.map
   obtain⟨J1,hap,n1,ho1,g1⟩:=dn_ (by':=8) Ep (aq_ _) bf i0 (by simp only[sizeLim];have:=Apv (g:=g) (i:=i0) (s:=r.sort);omega)
   have hv3:∀b,b<nx J+3->adr v≠some b:=fun b hb e=>by
    rcases hv with⟨_,rfl⟩|hv
    ·cases e
    ·have:=(hrb.lo _ _ _ hv e).1;omega
   have hM1:=(g1 (nx J) Om (hv3 _ Om)).trans hM;have hd1':=(g1 (nx J+1) Om (hv3 _ Om)).trans hd0;have qw:=(g1 (nx J+2) Om (hv3 _ Om)).trans hc0;have hvg:((rv.get r.sort).map fun v:AV=>v).getD nS=v:=gr
   refine L4 (Rr:=Dk []) (anns:=[⟨.pure,0,1⟩,⟨.pure,0,1⟩,⟨.pure,0,1⟩,⟨.read,0,1⟩,⟨.pure,0,1⟩,⟨.read,0,1⟩,⟨.pure,0,0⟩,⟨.pure,0,0⟩,⟨.pure,0,0⟩,⟨.read,0,0⟩,⟨.pure,0,0⟩,⟨.read,0,0⟩,⟨.read,0,0⟩,⟨.pure,0,0⟩,⟨.pure,0,0⟩,⟨.eff,0,1⟩,⟨.eff,1,2⟩]) Di (Bw (l:=[]) trivial) Kr ?_;refine G3 ?_;refine DF (lO hc0) ?_;refine G5 ?_;refine DF (lO hc0) ?_;refine G2 ?_;refine DF (Ahh st9 Ae5 rfl hrb.map rfl hvg) ?_;refine G ?_
   refine DF (Ai elC byW rfl rfl rfl) (DT (Av elC rfl slC rfl rfl rfl (new:=eN i0) rfl hap) (DT (Gh (v:=.sr (nx J0) 0 1 ((Mv g i0 r.sort).length+1) none) st9 Ae5 rfl hM1 rfl rfl (fun te k1 k2=>by unfold Je;rw[k2];rfl)) ?_))
   refine G ?_
   refine⟨⟨trivial,trivial,trivial,(fun s hs=>by simp at hs;rcases hs with rfl|rfl;exact⟨_,E8 hc0 (ldC (t:=160)) rfl rfl⟩;exact⟨_,E8 qw (ldC (t:=160)) rfl rfl⟩),trivial,(fun s hs=>⟨_,Ac (ldC (t:=9)) rfl rfl rfl⟩),trivial,trivial,trivial,(fun s hs=>by simp at hs;subst hs;exact⟨_,E8 hc0 (ldC (t:=160)) rfl rfl⟩),trivial,(fun s hs=>⟨_,Ac (ldC (t:=9)) rfl rfl rfl⟩),(fun s hs=>by simp at hs;subst hs;exact⟨_,Ahh st9 Ae5 rfl hrb.map rfl hvg⟩),trivial,trivial,trivial,trivial,trivial⟩,?_⟩
   refine G4 ?_;refine⟨bc,SL,_,hrb.step hr Om hn0 hv n1 ho1 g1,⟨gr,fun b hb=>?_⟩,?_,?_,gr⟩
   ·rw[aa_,if_neg gr,g1 b Om (hv3 b Om),hB0.2 b hb]
   ·grind
   grind
  ·cases h2
 ·have bj:g.rules.length=i0:=Nat.le_antisymm gr hi0;subst bj;have qx:ChS g text (nx J) (cp0 (nx J)) ⟨[],[]⟩ J0:=X0.chS hd0 hc0 hn0;have hr0:=hrb.rls (X:=(cp0 (nx J))) rfl Om (fun t a ht=>X0.loc_lt ht)
  refine G4 ?_;refine Az rfl rfl rfl rfl (f151 qx (aq_ _)) ?_;rintro u1 J1 ⟨X1,hX1,hL1⟩;have qz:Gj g (Ch.open' ⟨[],[]⟩):=Ahe fun j l hj=>gr
  refine G5 ?_
  refine Az rfl rfl rfl rfl (show Al Ew 152 [.pr (nx J+2) 0,sV sort,nV 0] J1 _ from(show X1.c=nx J+2 from hL1.c)▸f152 hX1 (hr0.lk hL1) sort (j:=0) (by show 0<([]++[[]]).length;simp) qz (ai_ (Anp (aq_ _)) hb) hR) ?_
  rintro u2 J2 ⟨X2,hX2,hL2⟩;have hX2:ChS g text (nx J) X2 (Aci g sort) J2:=hX2;have qy:=hL1.trans hL2;refine G6 ?_;refine Ci (fun q:Nat×Ch=>[(2,Af text),(9,.pr (nx J+2) 0),(12,nV q.1)]) (fun q U=>∃Y,ChS g text (nx J) Y q.2 U/\Lk (cp0 (nx J)) J0 Y U/\Gj g q.2/\q.2.sets.length=q.1+1/\q.1<=text.length/\Aji g text (text.length+1-q.1) q.1 q.2=Ej g sort text) (fun q=>text.length-q.1) (0,Aci g sort) SL ⟨X2,hX2,qy,Afl.1,Afl.2,aq_ _,rfl⟩ ?_
  rintro⟨j,S⟩ U ⟨Y,hY,hL,hok,bl,hjt,bq⟩;have hY:ChS g text (nx J) Y S U:=hY;have hok:Gj g S:=hok;have bl:S.sets.length=j+1:=bl;have hjt:j<=text.length:=hjt;have bq:Aji g text (text.length+1-j) j S=Ej g sort text:=bq;have hk:=Asd (n:=text.length) (j:=j) (Cu g text.length+1) 0 S hok;refine G6 ?_;refine Az rfl rfl rfl rfl (show Al Ew 153 [.pr (nx J+2) 0,nV j] U _ from(show Y.c=nx J+2 from hL.c)▸f153 (n:=text.length) hY (hr0.lk hL) hok (j:=j) Om Om hb hR) ?_
  rintro u3 U1 ⟨Z,hZ,hLZ⟩;have d7:=hL.trans hLZ
  have nw:(cls g text.length j (Cu g text.length+1) 0 S).sets.length=j+1:=by rw[hk.len];exact bl
  refine G ?_
  rw[show text.length+1-j=(text.length-j)+1 by omega]at bq
  simp only[Aji]at bq
  by_cases hjl:j=text.length
  ·rw[if_pos hjl]at bq;have bq:cls g text.length j (Cu g text.length+1) 0 S=Ej g sort text:=bq;refine G6 ?_
   have hd:decide ((Int.ofNat j)=Int.ofNat text.length)=true:=decide_eq_true (by rw[hjl])
   rw[hd];refine G ?_;refine Co rfl rfl rfl rfl rfl rfl (Co rfl rfl rfl rfl rfl rfl (Co rfl rfl rfl rfl rfl rfl (Co rfl rfl rfl rfl rfl rfl (O1 (A3 rfl rfl rfl) ?_))));refine G ?_;refine Ab rfl (fun h2=>?_) gr
   refine G5 ?_;refine Bo fun hw9=>?_
   refine G ?_;rw[bq]at hZ
   exact⟨_,rfl,_,_,a_ hw9 nl (fun _ _=>rfl),ai_ hB0.1 d7.n,.same (by show Nat.blt (nx J+2) _=true;exact Ce (by have:=d7.n;omega)),Z,rv,by rw[show Z.c=nx J+2 from d7.c];rfl,hZ,hr0.lk d7,X0.blw hB0 hn0 d7⟩
  ·have ql:j<text.length:=by omega
   rw[if_neg hjl]at bq;refine G6 ?_;have hd:decide ((Int.ofNat j)=Int.ofNat text.length)=false:=decide_eq_false (fun e=>hjl (ci_ e))
   rw[hd];refine G ?_;refine Bi rfl rfl rfl rfl rfl noR rfl rfl (Ag rfl) (Bi rfl rfl rfl rfl rfl noR rfl rfl (Ag rfl) (Aij rfl rfl rfl rfl rfl rfl rfl rfl (show Al Ew 154 [.pr (nx J+2) 0,nV j] U1 _ from(show Z.c=nx J+2 from d7.c)▸f154 hZ nw ql hk.ok (ai_ (Anp Om) hb) Om) ?_))
   intro u4 U2 hp;cases hsc:(cls g text.length j (Cu g text.length+1) 0 S).scan g text j with
   |none=>
    rw[hsc]at hp bq;have bq:cls g text.length j (Cu g text.length+1) 0 S=Ej g sort text:=bq;obtain⟨rfl,W,hW,hLW⟩:=hp;have eo:=d7.trans hLW;refine Bi rfl rfl rfl rfl rfl noR rfl rfl (Dc rfl) (O1 (Au rfl rfl rfl) ?_);refine G ?_;refine Ab rfl (fun h2=>?_) gr
    refine G5 ?_;refine Bo fun hw9=>?_
    refine G ?_;rw[bq]at hW
    exact⟨_,rfl,_,_,a_ hw9 nl (fun _ _=>rfl),ai_ hB0.1 eo.n,.same (by show Nat.blt (nx J+2) _=true;exact Ce (by have:=eo.n;omega)),W,rv,by rw[show W.c=nx J+2 from eo.c];rfl,hW,hr0.lk eo,X0.blw hB0 hn0 eo⟩
   |some aC=>
    rw[hsc]at hp bq;obtain⟨rfl,W,hW,hLW⟩:=hp;have eo:=d7.trans hLW;have hso:=Auy hk.ok hsc;refine Bi rfl rfl rfl rfl rfl noR rfl rfl (Dc rfl) (O1 (Au rfl rfl rfl) ?_);refine G ?_;refine Ab rfl gr (fun h2=>?_)
    refine G6 ?_;refine⟨(j+1,aC),gr,SL,W,hW,eo,hso.1,gr,gr,gr⟩
abbrev Lk4:=Int×Int×Int×Int
instance:KE Lk4 where
 k p:=.agg [.int .i64 p.1,.int .i64 p.2.1,.int .i64 p.2.2.1,.int .i64 p.2.2.2]
 eq a b:=by
  obtain⟨s,x,y,z⟩:=a;obtain⟨t,u,v,w⟩:=b;simp only[Key.eq,Key.eqs,Nn,Ed]
  grind
def lk(r d a t:Nat):Lk4:=(.ofNat r,.ofNat d,.ofNat a,.ofNat t)
theorem Axn{r d a t r' d' a' t'}:lk r d a t=lk r' d' a' t'↔r=r'/\d=d'/\a=a'/\t=t':=by
 simp only[lk,ba_]
 grind
theorem Apw(r d a t):D4 Ew.P 386 (.agg [nV r,nV d,nV a,nV t])=some (KE.k (lk r d a t)):=Kr
def Vo(g:Gr)(D:List Sp)(text:List Str)(J:Sto)(m:Nat):Prop:=∃M:GM Lk4 Bool,GAt 386 bE J m M/\∀r d a t b,M.get (lk r d a t)=some b->b=ldP D text t ((rPt g r).drop d) a
theorem Vo.of_get{g D text J U m}(h:Vo g D text J m)(hg:U.get m=J.get m):Vo g D text U m:=by
 obtain⟨M,h1,h2⟩:=h;exact⟨M,h1.of_get hg,h2⟩
theorem Vo.put{g D text}{J:Sto}{m r d a t ver}{M:GM Lk4 Bool}{b}(h:∀r d a t b,M.get (lk r d a t)=some b->b=ldP D text t ((rPt g r).drop d) a)(hb:b=ldP D text t ((rPt g r).drop d) a):Vo g D text (J.set m (.map 386 (Hi bE (M.put (lk r d a t) b)) ver)) m:=by
 refine⟨_,GAt.put,fun r' d' a' t' b' h'=>?_⟩
 rw[fp_]at h'
 split at h'
 ·rename_i e
  obtain⟨rfl,rfl,rfl,rfl⟩:=Axn.1 e
  grind
 grind
structure PkF (mT:Nat)(J J':Sto):Prop where
 n:nx J<=nx J'
 g:∀b,b<nx J->b≠mT->J'.get b=J.get b
theorem PkF.refl{mT J}:PkF mT J J:=⟨nl,fun _ _ _=>rfl⟩
theorem PkF.trans{mT J U υ}(h:PkF mT J U)(k:PkF mT U υ):PkF mT J υ:=⟨ai_ h.n k.n,fun b hb hn=>by rw[k.g b (ak_ hb h.n) hn,h.g b hb hn]⟩
theorem PkF.set{mT J o}:PkF mT J (J.set mT o):=⟨gr,gr⟩
structure PkB (g:Gr)(text:List Str)(D:List Sp)(X:Cp)(P mN mT:Nat)(lv:AV)(J:Sto):Prop where
 pk:J.get P=some (.cells [.pr X.c 0,.mp mN,lv,.mp mT])
 cl:J.get X.c=some (.cells (X.cells g text))
 dn:Apr 232 sk D J X.mD
 rs:Vo g D text J mT
 lt:P<nx J/\X.c<nx J/\X.mD<nx J/\mT<nx J
section
variable {g:Gr}{text:List Str}{D:List Sp}{X:Cp}{P mN mT:Nat}{lv:AV}{J J':Sto}
theorem PkB.ne(h:PkB g text D X P mN mT lv J):P≠mT/\X.c≠mT/\X.mD≠mT:=by
 obtain⟨M,⟨v,hM⟩,_⟩:=h.rs;obtain⟨M',⟨v',hM'⟩,_⟩:=h.dn;refine⟨fun e=>?_,fun e=>?_,fun e=>?_⟩
 ·have:=h.pk;grind
 ·have:=h.cl;grind
 grind
theorem PkB.keep(h:PkB g text D X P mN mT lv J)(hf:PkF mT J J')(hr:Vo g D text J' mT):PkB g text D X P mN mT lv J':=by
 obtain⟨n1,n2,n3⟩:=h.ne;obtain⟨l1,l2,l3,l4⟩:=h.lt;have:=hf.n
 exact⟨(hf.g _ l1 n1).trans h.pk,(hf.g _ l2 n2).trans h.cl,h.dn.of_get (hf.g _ l3 n3),hr,by omega,by omega,by omega,by omega⟩
theorem PkB.of_get(h:PkB g text D X P mN mT lv J)(hn:nx J<=nx J')(hg:∀b,b=P∨b=X.c∨b=X.mD∨b=mT->J'.get b=J.get b):PkB g text D X P mN mT lv J':=by
 obtain⟨l1,l2,l3,l4⟩:=h.lt
 exact⟨(hg _ (.inl rfl)).trans h.pk,(hg _ (.inr (.inl rfl))).trans h.cl,h.dn.of_get (hg _ (.inr (.inr (.inl rfl)))),h.rs.of_get (hg _ (.inr (.inr (.inr rfl)))),by omega,by omega,by omega,by omega⟩
end
theorem Nu{ρ J Rr t kt sz r x y agg z u κ α}[DecidableEq κ][KE κ]{enc m}{k:κ}{o:Option α}(hi:mpI Ew.P t=some (kt,z,sz,agg))(hx:Ah Ew ρ x=some (.mp r))(hm:GAt kt enc J r m)(hy:Ah Ew ρ y=some u)(hk:D4 Ew.P kt u=some (KE.k k))(ho:m.get k=o):
  As Ew Rr (.lookup t x y true) ρ J (.tup [(o.map enc).getD z,.bool o.isSome]) J:=by subst ho;exact Arl hi hx hm hy hk
theorem Alq{f a n m}(h:m<=n)(ht:(List.range' a m).any f=true):(List.range' a n).any f=true:=gr
theorem Yz{f a n}:(List.range' a (n+1)).any f=((List.range' a n).any f||f (a+n)):=gr
structure PkL (L:List Sp)(N mN:Nat)(lv:AV)(J:Sto):Prop where
 num:∃M:GM Kk Nat,GAt 232 nV J mN M/\∀s,M.get (sk s)=if s∈L then some (L.idxOf s)else none
 lst:Own J N eSp 3 L lv
 lt:mN<N/\N<=nx J
theorem PkL.of_get{L N mN lv J U}(h:PkL L N mN lv J)(hn:nx J<=nx U)(hm:U.get mN=J.get mN)(hg:∀a,adr lv=some a->U.get a=J.get a):PkL L N mN lv U:=by
 obtain⟨⟨M,h1,h2⟩,h3,h4,h5⟩:=h
 exact⟨⟨M,h1.of_get hm,h2⟩,h3.of_get hn hg,h4,by omega⟩
structure PkM (N P mN:Nat)(lv:AV)(J:Sto)(lv':AV)(J':Sto):Prop where
 n:nx J<=nx J'
 a:∀a,adr lv'=some a->adr lv=some a∨nx J<=a
 g:∀b,b<nx J->b≠P->b≠mN->adr lv≠some b->J'.get b=J.get b
theorem PkM.refl{N P mN lv J}:PkM N P mN lv J lv J:=⟨nl,fun a h=>.inl h,fun _ _ _ _ _=>rfl⟩
theorem Apx{L}{s t:Sp}(hs:s∉L):(if t∈L++[s]then some ((L++[s]).idxOf t)else none)=if t=s then some L.length else if t∈L then some (L.idxOf t)else none:=gr
theorem zt386:(match Ay Ew.P 386 with|some ti=>ti.zero|none=>none)=some [.int .i64 0,.int .i64 0,.int .i64 0,.int .i64 0]:=Kr
theorem Jy(p):(ePt p).length=3:=rfl
theorem Z7(r l):Cz 1 false ((eR r++l).drop 2)=some (slV ePt 3 r.parts):=rfl
theorem Tt(p):Cz 1 false ((ePt p).drop 1)=some (sV p.sort):=rfl
theorem Awd(p):Cz 1 false ((ePt p).drop 0)=some (sV p.symbol):=rfl
def Aso(g:Gr)(text:List Str)(D:List Sp)(X:Cp)(P mN mT:Nat)(lv:AV)(r d t:Nat)(ps':List Pt)(e:Nat)(J J1:Sto):Prop:=
 Al Ew 192 [.pr P 0,nV r,nV (d+1),nV e,nV t] J (fun u υ=>u=.bool (ldP D text t ps' e)/\υ=J1)/\PkB g text D X P mN mT lv J1/\PkF mT J J1
inductive I6 (g:Gr)(text:List Str)(D:List Sp)(X:Cp)(P mN mT:Nat)(lv:AV)(r d a t:Nat)(p:Pt)(ps':List Pt):Nat->Bool->Sto->Sto->Prop where
 |stop' {e:Nat} {b:Bool} {J:Sto} (h:¬e<=t∨b=true):I6 g text D X P mN mT lv r d a t p ps' e b J J
 |miss' {e:Nat} {J U:Sto} (h:e<=t) (hin:(p.sort,a,e)∉D) (h2:I6 g text D X P mN mT lv r d a t p ps' (e+1) false J U):I6 g text D X P mN mT lv r d a t p ps' e false J U
 |hit' {e:Nat} {J J1 U:Sto} (h:e<=t) (hin:(p.sort,a,e)∈D) (h1:Aso g text D X P mN mT lv r d t ps' e J J1) (h2:I6 g text D X P mN mT lv r d a t p ps' (e+1) (ldP D text t ps' e) J1 U):I6 g text D X P mN mT lv r d a t p ps' e false J U
section
variable {g:Gr}{text:List Str}{D:List Sp}{X:Cp}{P mN mT:Nat}{lv:AV}{r d a t:Nat}{p:Pt}{ps':List Pt}{e:Nat}{b:Bool}{J U:Sto}
theorem I6.stop(h:I6 g text D X P mN mT lv r d a t p ps' e b J U)(hs:¬e<=t∨b=true):J=U:=by
 cases h with
 |stop' _=>rfl
 |miss' h _ _=>rcases hs with hs|hs;exact absurd h hs;cases hs
 |hit' h _ _ _=>rcases hs with hs|hs;exact absurd h hs;cases hs
theorem I6.miss(h:I6 g text D X P mN mT lv r d a t p ps' e false J U)(hs:e<=t)(hin:(p.sort,a,e)∉D):I6 g text D X P mN mT lv r d a t p ps' (e+1) false J U:=by
 cases h with
 |stop' h=>rcases h with h|h;exact absurd hs h;cases h
 |miss' _ _ h=>exact h
 |hit' _ h _ _=>exact absurd h hin
theorem I6.hit(h:I6 g text D X P mN mT lv r d a t p ps' e false J U)(hs:e<=t)(hin:(p.sort,a,e)∈D):∃J1,Al Ew 192 [.pr P 0,nV r,nV (d+1),nV e,nV t] J (fun u υ=>u=.bool (ldP D text t ps' e)/\υ=J1)/\PkB g text D X P mN mT lv J1/\PkF mT J J1/\I6 g text D X P mN mT lv r d a t p ps' (e+1) (ldP D text t ps' e) J1 U:=by
 cases h with
 |stop' h=>rcases h with h|h;exact absurd hs h;cases h
 |miss' _ h _=>exact absurd hin h
 |hit' _ _ h1 h2=>exact⟨_,h1.1,h1.2.1,h1.2.2,h2⟩
theorem I6.ex(ih:∀(e:Nat) (J:Sto),e<=t->PkB g text D X P mN mT lv J->∃J1,Aso g text D X P mN mT lv r d t ps' e J J1):∀(k e:Nat) (b:Bool) (J:Sto),t+1-e=k->PkB g text D X P mN mT lv J->∃U,I6 g text D X P mN mT lv r d a t p ps' e b J U/\PkB g text D X P mN mT lv U/\PkF mT J U:=by
 intro k
 induction k with
 |zero=>intro e b J hk h;exact⟨J,.stop' (.inl Om),h,.refl⟩
 |succ k ihk=>
  intro e b J hk h;cases b with
  |true=>exact⟨J,.stop' (.inr rfl),h,.refl⟩
  |false=>
   by_cases hin:(p.sort,a,e)∈D
   ·obtain⟨J1,h1⟩:=ih e J Om h;obtain⟨U,h2,h3,h4⟩:=ihk (e+1) (ldP D text t ps' e) J1 Om h1.2.1;exact⟨U,.hit' Om hin h1 h2,h3,h1.2.2.trans h4⟩
   ·obtain⟨U,h2,h3,h4⟩:=ihk (e+1) false J Om h;exact⟨U,.miss' Om hin h2,h3,h4⟩
end
def Acq(g:Gr)(text:List Str)(D:List Sp)(X:Cp)(P mN mT:Nat)(lv:AV)(r d a t:Nat)(J J9:Sto):List Pt->Prop
 |[]=>J9=J
 |p::ps'=>if p.sort=[]then(if a<t/\text.getD a []=p.symbol then Al Ew 192 [.pr P 0,nV r,nV (d+1),nV (a+1),nV t] J (fun u υ=>u=.bool (ldP D text t ps' (a+1))/\υ=J9)else J9=J)else I6 g text D X P mN mT lv r d a t p ps' a false J J9
theorem Anq{g text D X P mN mT lv r t rl}(hrl:g.rules[r]? =some rl)(hR:g.rules.length<=1000000)(hpl:(rPt g r).length<=1000000)(htl:text.length<=1000000)(ht:t<=text.length)(ps)
    (d a J U)(hpd:(rPt g r).drop d=ps)(hd:d<=(rPt g r).length)(ha:a<=text.length)(h:PkB g text D X P mN mT lv J){M o}(hG:GAt 386 bE J mT M)(hMx:∀r d a t b,M.get (lk r d a t)=some b->b=ldP D text t ((rPt g r).drop d) a)(ho:M.get (lk r d a t)=o)
    (hfs:∀b,o=some b->U=J)(hfn:o=none->∃J9 M9 v9,(Acq g text D X P mN mT lv r d a t J J9 ps/\PkB g text D X P mN mT lv J9/\PkF mT J J9)/\J9.get mT=some (.map 386 (Hi bE M9) v9)/\U=J9.set mT (.map 386 (Hi bE (M9.put (lk r d a t) (ldP D text t ps a))) (v9+1))):Al Ew 192 [.pr P 0,nV r,nV d,nV a,nV t] J fun u υ=>u=.bool (ldP D text t ps a)/\υ=U:=by
  have hpr:rPt g r=rl.parts:=by unfold rPt;rw[hrl]
  refine Aj Tryz.func192 rfl rfl fun hw hu0=>?_
  refine G10 ?_;refine O1 (G0 zt386 ar386 rfl rfl) ?_;refine G4 ?_;refine X0 ?_;refine G3 ?_;refine DF (lO h.pk) ?_;refine G ?_;refine DF (Nu (o:=o) Ab2 rfl hG rfl (Apw r d a t) ho) ?_;refine G6 ?_;refine⟨rfl,rfl,?_⟩;refine G4 ?_;refine Ab rfl ?_ ?_<;>intro h1
  · obtain⟨b,hb⟩:=bg_.1 h1
    subst hb;refine G6 ?_
    exact⟨_,rfl,_,J,a_ hw nl (fun _ _=>rfl),nl,.same rfl,by rw[←hpd];exact congrArg _ (hMx _ _ _ _ _ ho),(hfs b rfl).symm⟩
  · have hon:o=none:=by cases ho2:o with|none=>rfl|some _=>rw[ho2]at h1;cases h1
    subst hon;obtain⟨J9,M9,v9,⟨bq,qn⟩,hM9,rfl⟩:=hfn rfl;refine G11 ?_;refine O1 (lO h.pk) ?_;refine G3 ?_;refine O1 (lO h.cl) ?_;refine G3 ?_;refine O1 (Ac ldC rfl rfl (Z7 rl _)) ?_;refine G9 ?_;refine Ab rfl ?_ ?_<;>intro h2
    · have hps:ps=[]:=by
        have hdl:d=rl.parts.length:=ci_ (of_decide_eq_true h2)
        rw[←hpd];exact ah_ (by rw[hpr];omega)
      subst hps;have bq:J9=J:=bq;subst bq;have hn9:=Nat.le_refl (nx J9)
      have hv9:decide ((Int.ofNat a)=Int.ofNat t)=ldP D text t [] a:=by
        show _=decide (a=t)
        by_cases e:a=t
        · rw[decide_eq_true e,decide_eq_true (congrArg _ e)]
        · rw[decide_eq_false e,decide_eq_false (fun q=>e (ci_ q))]
      refine G7 ?_;refine XS (l:=[]) trivial ?_;refine G3 ?_;refine DF (lO h.pk) ?_;refine G2 ?_
      refine DT (K7 (v:=(decide ((Int.ofNat a)=Int.ofNat t))) Ab2 rfl hM9 rfl (Apw r d a t) rfl (fun te k1 k2=>by simp[Je,k1,k2])) ?_
      refine G6 ?_;refine Bo fun hw9=>?_
      refine G ?_
      exact⟨_,rfl,_,_,a_ hw9 nl (fun _ _=>rfl),by rw[Aq];exact hn9,.same rfl,congrArg _ hv9,by rw[←hv9]⟩
    · have hdl:d<rl.parts.length:=by
        have:¬(Int.ofNat d=Int.ofNat rl.parts.length):=by simpa using h2
        have hne:d≠rl.parts.length:=fun e=>this (congrArg _ e)
        rw[hpr]at hd;omega
      obtain⟨p,hp⟩:=Ar hdl
      obtain⟨ps',hps⟩:∃ps',ps=p::ps':=⟨rl.parts.drop (d+1),by rw[←hpd,hpr];exact A4 hp⟩
      subst hps
      have fp:(rPt g r).drop (d+1)=ps':=by
        have:=A4 hp;rw[←hpr,hpd]at this;exact(List.cons.inj this).2.symm
      have hd1:d+1<=(rPt g r).length:=by rw[hpr];omega
      have hdlim:d<1000000:=by rw[hpr]at hpl;omega
      refine G5 ?_;refine O1 (Ac ldC rfl rfl (A6 (Jy p) _)) (Ho ziC ldC rfl (fun _=>rfl) rfl (A7 (Jy p)) rfl rfl ?_)
      refine G4 ?_;refine O1 (Ac ldC rfl rfl (Tt p)) ?_;refine G2 ?_;refine Ab rfl ?_ ?_<;>intro h3
      · have cg:p.sort=[]:=of_decide_eq_true h3
        simp only[Acq,if_pos cg]at bq
        have hv0:ldP D text t (p::ps') a=(decide (a<t)&&decide (text.getD a []=p.symbol)&&ldP D text t ps' (a+1)):=by
          show(if p.sort=[]then _ else _)=_
          rw[if_pos cg]
        by_cases hat:a<t
        · have hc1:decide ((Int.ofNat a)<Int.ofNat t)=true:=decide_eq_true (Int.ofNat_lt.2 hat)
          obtain⟨y,htx⟩:=Ar (show a<text.length by omega)
          have hgy:text.getD a []=y:=by rw[List.getD_eq_getElem?_getD,htx];rfl
          rw[hgy,decide_eq_true hat]at hv0
          by_cases hys:y=p.symbol
          · have hc2:decide (y=p.symbol)=true:=decide_eq_true hys
            rw[if_pos ⟨hat,by rw[hgy];exact hys⟩]at bq
            refine XS (l:=[(192,[.pr P 0,nV r,nV (d+1),nV (a+1),nV t],J,.bool (ldP D text t ps' (a+1)),J9)]) ⟨bq,trivial⟩ ?_;refine G3 ?_;rw[hc1];refine G ?_;refine Bg rfl rfl rfl rfl rfl rfl rfl (Ag rfl) (Bg rfl rfl rfl rfl rfl rfl rfl (Ge rfl) (Bg rfl rfl rfl rfl rfl rfl rfl (Ae fdC rfl rfl) (Bg rfl rfl rfl rfl rfl rfl rfl (lO h.pk) (Bg rfl rfl rfl rfl rfl rfl rfl (Ge rfl) (Bg rfl rfl rfl rfl rfl rfl rfl (Ae fdC rfl rfl) (Bg rfl rfl rfl rfl rfl rfl rfl (lO h.cl) (Bg rfl rfl rfl rfl rfl rfl rfl (Ag rfl) ?_)))))));refine Bg rfl rfl rfl rfl rfl rfl rfl (A1 elC (fun _=>rfl) rfl rfl htx) ?_
            refine Bg rfl rfl rfl rfl rfl rfl rfl (Ac ldC rfl rfl rfl) (Bg rfl rfl rfl rfl rfl rfl rfl (Ae fdC rfl rfl) (Bg rfl rfl rfl rfl rfl rfl rfl (Ac ldC rfl rfl (Awd p)) (Bg rfl rfl rfl rfl rfl rfl rfl (H5 okC rfl rfl) ?_)));rw[hc2];refine DF (A3 rfl rfl rfl) ?_;refine G ?_;refine Bg rfl rfl rfl rfl rfl rfl rfl (Ag rfl) (Bg rfl rfl rfl rfl rfl rfl rfl (Ag rfl) (Bg rfl rfl rfl rfl rfl rfl rfl (Ag rfl) (Bg rfl rfl rfl rfl rfl rfl rfl (D3 (q:=1) okC rfl rfl Om) ?_)));refine Bg rfl rfl rfl rfl rfl rfl rfl (Ag rfl) (Bg rfl rfl rfl rfl rfl rfl rfl (D3 (q:=1) okC rfl rfl Om) ?_);refine Bg rfl rfl rfl rfl rfl rfl rfl (Ag rfl) (Ol rfl rfl rfl rfl rfl rfl rfl (Bq rfl rfl Bv) (DF (A3 rfl rfl rfl) ?_));refine G2 ?_;obtain⟨h9,hF⟩:=qn;have hn9:=hF.n
            have hv9:ldP D text t ps' (a+1)=ldP D text t (p::ps') a:=by rw[hv0,decide_eq_true hys];rfl
            refine G ?_;refine XS (l:=[]) trivial ?_;refine G3 ?_;refine DF (lO h9.pk) ?_;refine G2 ?_
            refine DT (K7 (v:=(ldP D text t ps' (a+1))) Ab2 rfl hM9 rfl (Apw r d a t) rfl (fun te k1 k2=>by simp[Je,k1,k2])) ?_
            refine G6 ?_;refine Bo fun hw9=>?_
            refine G ?_
            exact⟨_,rfl,_,_,a_ hw9 nl (fun _ _=>rfl),by rw[Aq];exact hn9,.same rfl,congrArg _ hv9,by rw[←hv9]⟩
          · have hc2:decide (y=p.symbol)=false:=decide_eq_false hys
            refine XS (l:=[]) trivial ?_;refine G3 ?_;rw[hc1];refine G ?_;refine Bg rfl rfl rfl rfl rfl rfl rfl (Ag rfl) (Bg rfl rfl rfl rfl rfl rfl rfl (Ge rfl) (Bg rfl rfl rfl rfl rfl rfl rfl (Ae fdC rfl rfl) (Bg rfl rfl rfl rfl rfl rfl rfl (lO h.pk) (Bg rfl rfl rfl rfl rfl rfl rfl (Ge rfl) (Bg rfl rfl rfl rfl rfl rfl rfl (Ae fdC rfl rfl) (Bg rfl rfl rfl rfl rfl rfl rfl (lO h.cl) (Bg rfl rfl rfl rfl rfl rfl rfl (Ag rfl) ?_)))))));refine Bg rfl rfl rfl rfl rfl rfl rfl (A1 elC (fun _=>rfl) rfl rfl htx) ?_
            refine Bg rfl rfl rfl rfl rfl rfl rfl (Ac ldC rfl rfl rfl) (Bg rfl rfl rfl rfl rfl rfl rfl (Ae fdC rfl rfl) (Bg rfl rfl rfl rfl rfl rfl rfl (Ac ldC rfl rfl (Awd p)) (Bg rfl rfl rfl rfl rfl rfl rfl (H5 okC rfl rfl) ?_)));rw[hc2];refine DF (A3 rfl rfl rfl) ?_;refine G ?_;refine Bx rfl rfl rfl rfl rfl rfl rfl (Bx rfl rfl rfl rfl rfl rfl rfl (Bx rfl rfl rfl rfl rfl rfl rfl (Bx rfl rfl rfl rfl rfl rfl rfl (Bx rfl rfl rfl rfl rfl rfl rfl (Bx rfl rfl rfl rfl rfl rfl rfl (Bx rfl rfl rfl rfl rfl rfl rfl (K5 rfl rfl rfl rfl rfl rfl rfl ?_)))))));refine DF (Au rfl rfl rfl) ?_;refine G2 ?_
            rw[if_neg (fun q=>hys (by rw[←hgy];exact q.2))]at bq
            subst bq;have hn9:=Nat.le_refl (nx J9)
            have hv9:false=ldP D text t (p::ps') a:=by rw[hv0,decide_eq_false hys];rfl
            refine G ?_;refine XS (l:=[]) trivial ?_;refine G3 ?_;refine DF (lO h.pk) ?_;refine G2 ?_
            refine DT (K7 (v:=false) Ab2 rfl hM9 rfl (Apw r d a t) rfl (fun te k1 k2=>by simp[Je,k1,k2])) ?_
            refine G6 ?_;refine Bo fun hw9=>?_
            refine G ?_
            exact⟨_,rfl,_,_,a_ hw9 nl (fun _ _=>rfl),by rw[Aq];exact hn9,.same rfl,congrArg _ hv9,by rw[←hv9]⟩
        · have hc1:decide ((Int.ofNat a)<Int.ofNat t)=false:=decide_eq_false (fun e=>hat (Int.ofNat_lt.1 e))
          refine XS (l:=[]) trivial ?_;refine G3 ?_;rw[hc1];refine G ?_;refine Bx rfl rfl rfl rfl rfl rfl rfl (Bx rfl rfl rfl rfl rfl rfl rfl (Bx rfl rfl rfl rfl rfl rfl rfl (Bx rfl rfl rfl rfl rfl rfl rfl (Bx rfl rfl rfl rfl rfl rfl rfl (Bx rfl rfl rfl rfl rfl rfl rfl (Bx rfl rfl rfl rfl rfl rfl rfl (Bx rfl rfl rfl rfl rfl rfl rfl ?_)))))));refine Bx rfl rfl rfl rfl rfl rfl rfl (Bx rfl rfl rfl rfl rfl rfl rfl (Bx rfl rfl rfl rfl rfl rfl rfl (Bx rfl rfl rfl rfl rfl rfl rfl (Bx rfl rfl rfl rfl rfl rfl rfl (DF (Au rfl rfl rfl) ?_)))));refine G ?_;refine Bx rfl rfl rfl rfl rfl rfl rfl (Bx rfl rfl rfl rfl rfl rfl rfl (Bx rfl rfl rfl rfl rfl rfl rfl (Bx rfl rfl rfl rfl rfl rfl rfl (Bx rfl rfl rfl rfl rfl rfl rfl (Bx rfl rfl rfl rfl rfl rfl rfl (Bx rfl rfl rfl rfl rfl rfl rfl (K5 rfl rfl rfl rfl rfl rfl rfl ?_)))))));refine DF (Au rfl rfl rfl) ?_;refine G2 ?_;rw[if_neg (fun q=>hat q.1)]at bq
          subst bq;have hn9:=Nat.le_refl (nx J9)
          have hv9:false=ldP D text t (p::ps') a:=by rw[hv0,decide_eq_false hat];rfl
          refine G ?_;refine XS (l:=[]) trivial ?_;refine G3 ?_;refine DF (lO h.pk) ?_;refine G2 ?_
          refine DT (K7 (v:=false) Ab2 rfl hM9 rfl (Apw r d a t) rfl (fun te k1 k2=>by simp[Je,k1,k2])) ?_
          refine G6 ?_;refine Bo fun hw9=>?_
          refine G ?_
          exact⟨_,rfl,_,_,a_ hw9 nl (fun _ _=>rfl),by rw[Aq];exact hn9,.same rfl,congrArg _ hv9,by rw[←hv9]⟩
      · have cg:p.sort≠[]:=of_decide_eq_false h3
        simp only[Acq,if_neg cg]at bq;obtain⟨f,hf⟩:∃f:Nat->Bool,(fun e=>decide ((p.sort,a,e)∈D)&&ldP D text t ps' e)=f:=⟨_,rfl⟩
        have hv0:ldP D text t (p::ps') a=(List.range' a (t+1-a)).any f:=by
          show(if p.sort=[]then _ else _)=_
          rw[if_neg cg,←hf]
        refine G6 ?_
        refine Ci (fun q:Nat×Bool=>[(0,.pr P 0),(1,nV r),(2,nV d),(3,nV a),(4,nV t),(11,.pv [nV r,nV d,nV a,nV t]),(14,.bool q.2),(16,.pv (ePt p)),(17,nV q.1)]) (fun q J0=>a<=q.1/\(q.1<=t+1∨q.1=a)/\q.2=(List.range' a (q.1-a)).any f/\PkB g text D X P mN mT lv J0/\PkF mT J J0/\I6 g text D X P mN mT lv r d a t p ps' q.1 q.2 J0 J9) (fun q=>t+1-q.1) (a,false) SL ⟨nl,.inr rfl,by rw[Nat.sub_self];rfl,h,.refl,bq⟩ ?_
        rintro⟨e,b⟩ J0 ⟨hae,het,hbe,hY,hF,hLd⟩;have hae:a<=e:=hae;have het:e<=t+1∨e=a:=het;have hbe:b=(List.range' a (e-a)).any f:=hbe;have hY:PkB g text D X P mN mT lv J0:=hY;have hF:PkF mT J J0:=hF;have hLd:I6 g text D X P mN mT lv r d a t p ps' e b J0 J9:=hLd;refine G5 ?_;refine O1 (Hn okC rfl rfl) ?_;refine G ?_;refine TAn 2 ?_ (fun hg=>?_) ?_
        rotate_left
        · iterate 2 refine Gn hg ?_
          exact Ez
        refine G ?_;refine Ab rfl ?_ ?_<;>intro h4
        · obtain⟨hl1,hl2⟩:e<=t/\b=false:=by
            rw[ad_]at h4
            exact⟨bm_.1 (of_decide_eq_true h4.1),by simpa using h4.2⟩
          obtain⟨MD,⟨vD,hMD⟩,dh⟩:=hY.dn
          have nz:(List.range' a (e+1-a)).any f=(b||f e):=by
            rw[show e+1-a=(e-a)+1 by omega,Yz,←hbe,show a+(e-a)=e by omega]
          refine G3 ?_;subst hl2
          by_cases hin:(p.sort,a,e)∈D
          · have hm:=(dh _).1 hin
            obtain⟨J1,qr,h9,hF9,qs⟩:=hLd.hit hl1 hin;refine XS (l:=[(192,[.pr P 0,nV r,nV (d+1),nV e,nV t],J0,.bool (ldP D text t ps' e),J1)]) ⟨qr,trivial⟩ ?_;refine G3 ?_;refine DF (lO hY.pk) ?_;refine G2 ?_;refine DF (lO hY.cl) ?_;refine G ?_;refine DF (Ac ldC rfl rfl (Tt p)) ?_;refine G3 ?_;refine DF (Ns (o:=some true) (z:=.bool false) Va rfl ⟨vD,hMD⟩ rfl (Acn (p.sort,a,e)) hm) ?_;refine G ?_;refine Bg rfl rfl rfl rfl rfl rfl rfl (Ag rfl) (Bg rfl rfl rfl rfl rfl rfl rfl (Ag rfl) (Bg rfl rfl rfl rfl rfl rfl rfl (Ag rfl) (Bg rfl rfl rfl rfl rfl rfl rfl (D3 (q:=1) okC rfl rfl Om) ?_)));refine Bg rfl rfl rfl rfl rfl rfl rfl (Ag rfl) (Bg rfl rfl rfl rfl rfl rfl rfl (Ag rfl) (Ol rfl rfl rfl rfl rfl rfl rfl (Bq rfl rfl Bv) (DF (A3 rfl rfl rfl) ?_)));refine G7 ?_
            refine⟨(e+1,ldP D text t ps' e),by show t+1-(e+1)<t+1-e;omega,SL,by show a<=e+1;omega,.inl (by show e+1<=_;omega),by show _=(List.range' a (e+1-a)).any f;rw[nz];exact(by rw[←hf];show _=(false||(decide _&&_));rw[decide_eq_true hin];rfl),h9,hF.trans hF9,qs⟩
          · have hm:=(dh _).2 hin
            refine XS (l:=[]) trivial ?_;refine G3 ?_;refine DF (lO hY.pk) ?_;refine G2 ?_;refine DF (lO hY.cl) ?_;refine G ?_;refine DF (Ac ldC rfl rfl (Tt p)) ?_;refine G3 ?_;refine DF (Ns (o:=none) (z:=.bool false) Va rfl ⟨vD,hMD⟩ rfl (Acn (p.sort,a,e)) hm) ?_;refine G ?_;refine Bx rfl rfl rfl rfl rfl rfl rfl (Bx rfl rfl rfl rfl rfl rfl rfl (Bx rfl rfl rfl rfl rfl rfl rfl (Bx rfl rfl rfl rfl rfl rfl rfl (Bx rfl rfl rfl rfl rfl rfl rfl (Bx rfl rfl rfl rfl rfl rfl rfl (K5 rfl rfl rfl rfl rfl rfl rfl (DF (Au rfl rfl rfl) ?_)))))));refine G7 ?_
            refine⟨(e+1,false),by show t+1-(e+1)<t+1-e;omega,SL,by show a<=e+1;omega,.inl (by show e+1<=_;omega),by show _=(List.range' a (e+1-a)).any f;rw[nz];exact(by rw[←hf];show _=(false||(decide _&&_));rw[decide_eq_false hin];rfl),hY,hF,hLd.miss hl1 hin⟩
        · have hv9:b=ldP D text t (p::ps') a:=by
            rw[hv0];rw[Bool.and_eq_false_iff]at h4
            rcases h4 with h4|h4
            · have hgt:¬e<=t:=fun q=>(of_decide_eq_false h4) (bm_.2 q)
              rw[hbe]
              congr 2
              omega
            · have hbt:b=true:=by simpa using h4
              rw[hbt]at hbe⊢
              rcases het with het|het
              · exact(Alq (show e-a<=t+1-a by omega) hbe.symm).symm
              · rw[het,Nat.sub_self]at hbe;cases hbe
          have da:J0=J9:=hLd.stop (by
            rw[Bool.and_eq_false_iff]at h4
            rcases h4 with h4|h4
            · exact .inl fun q=>(of_decide_eq_false h4) (bm_.2 q)
            · exact .inr (by simpa using h4))
          subst da;have hn9:=hF.n;refine G2 ?_;refine XS (l:=[]) trivial ?_;refine G3 ?_;refine DF (lO hY.pk) ?_;refine G2 ?_
          refine DT (K7 (v:=b) Ab2 rfl hM9 rfl (Apw r d a t) rfl (fun te k1 k2=>by simp[Je,k1,k2])) ?_
          refine G6 ?_;refine Bo fun hw9=>?_
          refine G ?_
          exact⟨_,rfl,_,_,a_ hw9 nl (fun _ _=>rfl),by rw[Aq];exact hn9,.same rfl,congrArg _ hv9,by rw[←hv9]⟩
theorem f192{g text D X P mN mT lv r t rl}(hrl:g.rules[r]? =some rl)(hR:g.rules.length<=1000000)(hpl:(rPt g r).length<=1000000)(htl:text.length<=1000000)(ht:t<=text.length):∀(ps:List Pt) (d a:Nat) (J:Sto),(rPt g r).drop d=ps->d<=(rPt g r).length->a<=text.length->PkB g text D X P mN mT lv J->∃U,Al Ew 192 [.pr P 0,nV r,nV d,nV a,nV t] J (fun u υ=>u=.bool (ldP D text t ps a)/\υ=U)/\PkB g text D X P mN mT lv U/\PkF mT J U:=by
 intro ps
 induction ps with
 |nil=>
  intro d a J hpd hd ha h;obtain⟨M,⟨ver,hM⟩,hMx⟩:=h.rs;cases ho:M.get (lk r d a t)with
  |some b=>exact⟨J,Anq hrl hR hpl htl ht [] d a J J hpd hd ha h ⟨ver,hM⟩ hMx ho (fun _ _=>rfl) (fun q=>by cases q),h,.refl⟩
  |none=>exact⟨_,Anq hrl hR hpl htl ht [] d a J _ hpd hd ha h ⟨ver,hM⟩ hMx ho (fun _ q=>by cases q) (fun _=>⟨J,M,ver,⟨rfl,h,.refl⟩,hM,rfl⟩),h.keep .set (.put hMx (by rw[hpd])),.set⟩
 |cons p ps' ih=>
  intro d a J hpd hd ha h;obtain⟨M,⟨ver,hM⟩,hMx⟩:=h.rs
  have hd1:d+1<=(rPt g r).length:=by
   have:((rPt g r).drop d).length=ps'.length+1:=by rw[hpd];rfl
   rw[dp_]at this;omega
  have fp:(rPt g r).drop (d+1)=ps':=by
   have:((rPt g r).drop d).drop 1=ps':=by rw[hpd];rfl
   rwa[eo_]at this
  cases ho:M.get (lk r d a t)with
  |some b=>exact⟨J,Anq hrl hR hpl htl ht _ d a J J hpd hd ha h ⟨ver,hM⟩ hMx ho (fun _ _=>rfl) (fun q=>by cases q),h,.refl⟩
  |none=>
   obtain⟨J9,bq,h9,hF9⟩:∃J9,Acq g text D X P mN mT lv r d a t J J9 (p::ps')/\PkB g text D X P mN mT lv J9/\PkF mT J J9:=by
    simp only[Acq]
    by_cases hps:p.sort=[]
    ·by_cases hat:a<t/\text.getD a []=p.symbol
     ·obtain⟨U,h1,h2,h3⟩:=ih (d+1) (a+1) J fp hd1 Om h
      exact⟨U,by rw[if_pos hps,if_pos hat];exact h1,h2,h3⟩
     ·exact⟨J,by rw[if_pos hps,if_neg hat],h,.refl⟩
    ·obtain⟨U,h1,h2,h3⟩:=I6.ex (a:=a) (p:=p) (r:=r) (d:=d) (ps':=ps') (fun e J he hp=>by
      obtain⟨U,h1,h2,h3⟩:=ih (d+1) e J fp hd1 Om hp;exact⟨U,h1,h2,h3⟩) (t+1-a) a false J rfl h
     exact⟨U,by rw[if_neg hps];exact h1,h2,h3⟩
   obtain⟨M9,⟨v9,hM9⟩,qt⟩:=h9.rs;have hf9:=hF9.trans (PkF.set (o:=.map 386 (Hi bE (M9.put (lk r d a t) (ldP D text t (p::ps') a))) (v9+1)))
   exact⟨_,Anq hrl hR hpl htl ht _ d a J _ hpd hd ha h ⟨ver,hM⟩ hMx ho (fun _ q=>by cases q) (fun _=>⟨J9,M9,v9,⟨bq,h9,hF9⟩,hM9,rfl⟩),h.keep hf9 (.put qt (by rw[hpd])),hf9⟩
theorem f155{g text D X N P mN mT lv L J}(h:PkB g text D X P mN mT lv J)(hl:PkL L N mN lv J)(hN:P<N/\X.c<N/\X.mD<N/\mT<N)(hne:mN≠X.mD/\mN≠mT)(s)(bn:L.length<=30000000):
  ∃lv' U,Al Ew 155 [.pr P 0,.agg (eSp s)] J (fun u υ=>u=nV (D2 L s).1/\υ=U)/\PkB g text D X P mN mT lv' U/\PkL (D2 L s).2 N mN lv' U/\PkM N P mN lv J lv' U:=by
 obtain⟨M,⟨ver,hM⟩,hMx⟩:=hl.num
 have hmP:P≠mN:=fun e=>by have:=h.pk;grind
 have hmC:X.c≠mN:=fun e=>by have:=h.cl;grind
 by_cases hs:s∈L
 ·have ho:M.get (sk s)=some (L.idxOf s):=gr
  have e:D2 L s=(L.idxOf s,L):=by unfold D2;rw[if_pos hs]
  rw[e];refine⟨lv,J,?_,h,hl,.refl⟩;refine Aj Tryz.func155 rfl rfl fun hw hu0=>?_
  refine G6 ?_;refine X0 ?_;refine G3 ?_;refine DF (lO h.pk) ?_;refine G ?_;refine DF (Nu (o:=some (L.idxOf s)) Am1 rfl ⟨ver,hM⟩ rfl (Acn s) ho) ?_;refine G6 ?_;refine⟨rfl,rfl,?_⟩;refine G6 ?_;refine Ab rfl gr (fun h1=>?_)
  ·skip
   refine G7 ?_;exact⟨_,rfl,_,_,a_ hw nl (fun _ _=>rfl),nl,.same rfl,rfl,rfl⟩
 
 ·have ho:M.get (sk s)=none:=gr
  have e:D2 L s=(L.length,L++[s]):=by unfold D2;rw[if_neg hs]
  rw[e];have hal:∀a,adr lv=some a->N<=a/\a<nx J:=fun a ha=>hl.lst.adr_lt ha
  have ny:adr lv≠some mN:=fun e=>by have:=(hal _ e).1;have:=hl.lt.1;omega
  generalize hσ1:J.set mN (.map 232 (Hi nV (M.put (sk s) L.length)) (ver+1))=J1
  have n1:nx J1=nx J:=gr;have g1:∀b,b≠mN->J1.get b=J.get b:=gr;have hm1:J1.get mN=some (.map 232 (Hi nV (M.put (sk s) L.length)) (ver+1)):=gr;have hp1:=(g1 P hmP).trans h.pk
  have hl1:Own J1 N eSp 3 L lv:=hl.lst.of_get Om fun a ha=>g1 a fun e=>ny (by rw[ha,e])
  obtain⟨J2,hap,n2,ho2,g2⟩:=dn_ (enc:=eSp) (l:=L) (sz:=3) (by':=32) (fun _=>rfl) (by rw[n1];exact hl.lt.2) hl1 s (by simp only[sizeLim];omega)
  rw[n1]at hap n2 ho2 g2;have hp2:=(g2 P h.lt.1 gr).trans hp1
  generalize hσ3:J2.set P (.cells [.pr X.c 0,.mp mN,.sr (nx J) 0 3 (L.length+1) none,.mp mT])=J3
  have n3:nx J3=nx J+1:=gr;have g3:∀b,b≠P->J3.get b=J2.get b:=gr;have g4:∀b,b<nx J->b≠P->b≠mN->adr lv≠some b->J3.get b=J.get b:=gr;obtain⟨q1,q2,q3⟩:=h.ne;have hlo:∀b,b<N->adr lv≠some b:=gr
  refine⟨.sr (nx J) 0 3 (L.length+1) none,J3,?_,⟨?_,?_,?_,?_,?_⟩,⟨⟨M.put (sk s) L.length,⟨ver+1,?_⟩,fun t=>?_⟩,?_,hl.lt.1,?_⟩,⟨by omega,fun a ha=>.inr (by cases ha;grind),g4⟩⟩
  rotate_left
  ·grind
  ·rw[g4 _ h.lt.2.1 (fun e=>?_) hmC (hlo _ hN.2.1)]
   ·exact h.cl
   ·have:=h.pk;rw[←e,h.cl]at this;cases this
  ·refine h.dn.of_get (g4 _ h.lt.2.2.1 (fun e=>?_) hne.1.symm (hlo _ hN.2.2.1))
   obtain⟨M',⟨v',hM'⟩,_⟩:=h.dn
   grind
  ·exact h.rs.of_get (g4 _ h.lt.2.2.2 q1.symm hne.2.symm (hlo _ hN.2.2.2))
  ·have:=h.lt;omega
  ·rw[g3 _ hmP.symm,g2 _ (by have:=hl.lt;omega) ny];exact hm1
  ·rw[fp_,Apx hs,hMx]
   by_cases e:t=s
   ·grind
   ·rw[if_neg e,if_neg (fun q=>e (Ask.1 q))]
  ·exact ho2.of_get Om fun a ha=>g3 a fun e=>by cases ha;have:=h.lt.1;omega
  ·have:=hl.lt.2;omega
  refine Aj Tryz.func155 rfl rfl fun hw hu0=>?_
  refine G6 ?_;refine X0 ?_;refine G3 ?_;refine DF (lO h.pk) ?_;refine G ?_;refine DF (Nu (o:=none) Am1 rfl ⟨ver,hM⟩ rfl (Acn s) ho) ?_;refine G6 ?_;refine⟨rfl,rfl,?_⟩;refine G6 ?_;refine Ab rfl (fun h1=>?_) gr
  ·skip
   refine G5 ?_;refine O1 (lO h.pk) (O1 (Bf slC rfl hl.lst.lenA.1 hl.lst.lenA.2) ?_);refine G3 ?_;refine XS (l:=[]) trivial ?_;refine G3 ?_;refine DF (lO h.pk) ?_;refine G2 ?_;refine DT (K7 (v:=L.length) Am1 rfl hM rfl (Acn s) rfl (fun te k1 k2=>I2 k1 k2)) ?_
   refine G ?_;rw[hσ1];refine XS (l:=[]) trivial ?_;refine G4 ?_;refine DF (lO hp1) ?_;refine G ?_;refine DF (Ai elC byW rfl rfl rfl) (DT (Av elC rfl slC rfl rfl rfl (new:=eSp s) rfl hap) ?_);refine G2 ?_;refine DT (sO (cs':=[.pr X.c 0,.mp mN,.sr (nx J) 0 3 (L.length+1) none,.mp mT]) hp2) ?_;refine G ?_;rw[hσ3];refine G5 ?_;refine Bo fun hw3=>?_
   refine G ?_
   exact⟨_,rfl,_,_,a_ hw3 nl (fun _ _=>rfl),by omega,.same rfl,rfl,rfl⟩
def I7(g:Gr)(sort:Str)(text:List Str):Int:=if Eb g≠0 then Eb g else if(!(g.sorts.any fun x=>decide (sort=x)))=true then 5 else if 200<text.length then 4 else 0
theorem f118(g sort text J)(hB:GrB g)(hl:text.length<1000000):Cv 118 [grV g,sV sort,Af text] J (iV (I7 g sort text)):=by
 refine Aj Tryz.func118 rfl rfl fun hw hu0=>?_
 refine G9 ?_;refine Ca (f117 g _ hB) ?_;refine G9 ?_;refine Ab rfl ?_ ?_<;>intro h1
 ·have g1:Eb g≠0:=by simpa using h1
  refine G6 ?_
  exact⟨_,rfl,_,_,a_ hw nl (fun _ _=>rfl),nl,.same rfl,by unfold I7;rw[if_pos g1];rfl,rfl⟩
 ·have g1:¬Eb g≠0:=by simpa using h1
  refine G5 ?_
  refine Ca (f15 g.sorts sort _ (by have:=hB.s;omega)) ?_
  refine G3 ?_;refine Ab rfl ?_ ?_<;>intro h2
  ·skip
   refine G5 ?_
   exact⟨_,rfl,_,_,a_ hw nl (fun _ _=>rfl),nl,.same rfl,by unfold I7;rw[if_neg g1,if_pos h2];rfl,rfl⟩
  ·skip
   refine G7 ?_;refine Ab rfl ?_ ?_<;>intro h3
   ·have g3:200<text.length:=(by have h9:(200:Int)<(text.length:Int):=(by simpa using h3);omega)
    refine G5 ?_
    exact⟨_,rfl,_,_,a_ hw nl (fun _ _=>rfl),nl,.same rfl,by unfold I7;rw[if_neg g1,if_neg (by rw[h2];simp),if_pos g3];rfl,rfl⟩
   ·have g3:¬200<text.length:=(by have h9:¬(200:Int)<(text.length:Int):=(by simpa using h3);omega)
    refine G6 ?_
    exact⟨_,rfl,_,_,a_ hw nl (fun _ _=>rfl),nl,.same rfl,by unfold I7;rw[if_neg g1,if_neg (by rw[h2];simp),if_neg g3];rfl,rfl⟩
theorem f67(t J):Cv 67 [sV t] J (sV (D7 t)):=by
 refine Aj Tryz.func67 rfl rfl fun hw hu0=>?_
 refine G8 ?_;refine O1 (H5 (q:=[124,45]) okC rfl rfl) ?_;refine G ?_;refine Ab rfl ?_ ?_<;>intro h1
 ·skip
  refine G5 ?_
  exact⟨_,rfl,_,_,a_ hw nl (fun _ _=>rfl),nl,.same rfl,by unfold D7;rw[if_pos (of_decide_eq_true h1)];rfl,rfl⟩
 ·skip
  refine G7 ?_
  exact⟨_,rfl,_,_,a_ hw nl (fun _ _=>rfl),nl,.same rfl,by unfold D7;rw[if_neg (of_decide_eq_false h1)];rfl,rfl⟩
section
variable {W:Wd}{b:Int}{o:Nat}{at':List Int}{ss:List Str}{fs:List (List Int->Int)}{len:Nat}
end
section
variable {E:Env}{ρ:Ad}{J:Sto}{Rr:Rec}{t ty a off sz len:Nat}{cap:Option Nat}{x:Operand}
theorem sl_ti(hsl:Mk E.P t=true):∃ti e,Ay E.P t=some ti/\ti.desc=.slice e:=by
 unfold Mk at hsl
 grind
theorem Apy(hsl:Mk E.P t=true)(hx:Ah E ρ x=some (.sr a off sz len cap)):As E Rr (.binOp .eql t x (.const (.slice none 0 0)) ty) ρ J (.bool false) J:=fun tm h=>by
 obtain⟨ti,e,h1,h2⟩:=sl_ti hsl
 have hc:(Cm x||Cm (.const (.slice none 0 0)))=true:=by rw[Bool.or_comm];rfl
 have hy:opd E tm (.const (.slice none 0 0))=nS:=rfl;simp only[opA,Aw,h.opd hx,hy,hc,Wb,h1,Ir,cond_true,Ad7,Q6,Pm,h2,cond_false,Bool.true_or,Sx]
theorem srcSr{α:Type}{cap enc tl}{l:List α}(he:∀a,(enc a).length=sz)(hg:J.get a=some (.cells (l.flatMap enc++tl))):F9 J sz (.sr a 0 sz l.length cap) l.length=some (l.flatMap enc):=by
 simp only[F9,Sto.cells,hg,db_];rw[←Dl he l];exact D0
theorem f91v(l:List Int)(J:Sto)(hb:l.length<1000000):Cv 91 [slV eI 1 l] J (slV eI 1 l):=by
 refine Aj Tryz.func91 rfl rfl fun hw hu0=>?_
 refine G8 ?_;refine Abi slC rfl rfl fun b hbn=>?_
 refine G ?_;refine Ab rfl ?_ ?_<;>intro h1
 ·refine G4 ?_;obtain rfl:=ce_ (hbn h1);refine G ?_;exact⟨_,rfl,_,J,a_ hw nl (fun _ _=>rfl),nl,Ex,rfl,rfl⟩
 ·refine G3 ?_
  obtain⟨v,U,c5,bf,cb,_⟩:=ex_ (enc:=eI) (sz:=1) (l:=([]:List Int)) (by':=8) (N:=nx J) (fun s=>rfl) nl (Own.emp (enc:=eI) (sz:=1)) l (by simp[sizeLim];omega)
  refine O1 (Ai elC byW rfl rfl rfl) ?_;refine G ?_;refine O1 (Av elC rfl slC rfl rfl rfl (X7 (enc:=eI) (sz:=1) (fun _=>rfl) _ l) c5) ?_
  refine G3 ?_;exact⟨_,rfl,slV eI 1 l,J,am_ hw cb,nl,(show Own U (nx J) eI 1 l v from bf).fz (fun _=>rfl) (fun a ha=>hw.none ha) (A2 (enc:=eI) (fun _=>rfl) l),rfl,rfl⟩
end
theorem O2(s):(eSp s).length=3:=rfl
theorem Axo{N}(s):AV.unds N (eSp s)=true:=rfl
theorem f193(a cap l tl J)(ha:J.get a=some (.cells (l.flatMap eSp++tl)))(hb:l.length<1000000):Al Ew 193 [.sr a 0 3 l.length cap] J fun u J'=>u=slV eSp 3 l/\J'=J:=by
 refine Aj Tryz.func193 rfl rfl fun hw hu0=>?_
 obtain⟨v,U,hap,bf,cb,hg⟩:=ex_ (J:=J) (N:=nx J) (by':=32) O2 nl Own.emp l (by simp only[sizeLim,cu_];omega)
 refine G8 ?_;refine O1 (Apy slC rfl) ?_;refine G ?_
 refine Ab rfl (fun h1=>by cases h1) (fun h1=>?_)
 refine G3 ?_;refine O1 (Ai elC byW rfl rfl rfl) ?_;refine G ?_;refine O1 (Av elC rfl slC rfl rfl rfl (srcSr (enc:=eSp) O2 ha) hap) ?_;refine G3 ?_;exact⟨_,rfl,slV eSp 3 l,J,am_ hw cb,nl,bf.fz O2 (fun b hb=>hw.none hb) (A2 Axo _),rfl,rfl⟩
def foM{α β:Type}(st:α->β->Option α):List β->α->Option α
 |[],a=>some a
 |x::r,a=>match st a x with
  |none=>none
  |some a'=>foM st r a'
theorem Ahi{α β st}:∀{l m:List β} {a:α},foM st (l++m) a=match foM st l a with|none=>none|some a'=>foM st m a'
 |[],m,a=>rfl
 |x::r,m,a=>by
  show(match st a x with|none=>none|some a'=>foM st (r++m) a')=match(match st a x with|none=>none|some a'=>foM st r a')with|none=>none|some a'=>foM st m a'
  cases st a x with
  |none=>rfl
  |some a'=>exact Ahi
theorem Xd{D text to}:∀(ps:List Pt) (a:Nat) (K K':List Sp),K.length=K'.length->(∀j,(∀p∈ps,p.sort≠[]->p.arg.toNat≠j)->K[j]? =K'[j]?)->wyP D text to ps a K=wyP D text to ps a K'
 |[],a,K,K',hl,h=>by
  have:K=K':=List.ext_getElem? fun j=>h j fun p hp=>by cases hp
  rw[this]
 |p::ps,a,K,K',hl,h=>by
  unfold wyP
  split
  ·rfl
  ·split
   ·rename_i hp
    exact Xd ps _ _ _ hl fun j hj=>h j fun q hq hs=>by
     rcases an_.1 hq with rfl|hq
     ·exact absurd hp hs
     ·exact hj q hq hs
   ·congr 1
    funext e
    split
    ·refine Xd ps _ _ _ (by rw[dc_,dc_,hl]) fun j hj=>?_
     rw[List.getElem?_set,List.getElem?_set,hl]
     by_cases e:p.arg.toNat=j
     ·rw[if_pos e,if_pos e]
     ·rw[if_neg e,if_neg e]
      exact h j fun q hq hs=>by
       rcases an_.1 hq with rfl|hq
       ·exact e
       ·exact hj q hq hs
    ·rfl
structure Con (mT aK:Nat)(F:Nat->Prop)(J:Sto)(F':Nat->Prop)(J':Sto):Prop where
 n:nx J<=nx J'
 f:∀b,F' b->F b∨nx J<=b
 g:∀b,b<nx J->¬F b->b≠mT->b≠aK->J'.get b=J.get b
theorem Con.trans{mT aK F F' F'' J U υ}(h:Con mT aK F J F' U)(k:Con mT aK F' U F'' υ):Con mT aK F J F'' υ:=by
 refine⟨ai_ h.n k.n,fun b hb=>?_,fun b hb hf h1 h2=>?_⟩
 ·rcases k.f b hb with q|q
  ·exact h.f b q
  ·exact .inr (ai_ h.n q)
 ·rw[k.g b (ak_ hb h.n) (fun q=>?_) h1 h2,h.g b hb hf h1 h2]
  rcases h.f b q with q|q
  ·exact hf q
  ·omega
theorem Con.of{mT aK F J U}(hn:nx J<=nx U)(hg:∀b,b<nx J->b≠mT->b≠aK->U.get b=J.get b):Con mT aK F J F U:=⟨hn,fun _ h=>.inl h,fun b hb _ h1 h2=>hg b hb h1 h2⟩
theorem Con.weak{mT aK F F' J U}(h:Con mT mT F J F' U):Con mT aK F J F' U:=⟨h.n,h.f,fun b hb hf h1 _=>h.g b hb hf h1 h1⟩
structure Cons (Ls:List RF)(L:RF)(g:Gr)(text:List Str)(D:List Sp)(X:Cp)(P mN mT aK n:Nat){α:Type}(I:α->(Nat->Prop)->Sto->Prop)(aA:XE->Sto->Prop)(st:α->List Sp->Option α):Prop where
 pk:∀a F U,I a F U->∃lv,PkB g text D X P mN mT lv U
 ks:∀a F U,I a F U->¬F aK
 stb:∀a F U U',I a F U->nx U<=nx U'->(∀b,b<nx U->b≠mT->b≠aK->U'.get b=U.get b)->Vo g D text U' mT->I a F U'
 y:∀a F (K:List Sp) U,K.length=n->I a F U->YX Ew Ls L [slV eSp 3 K] U fun x U'=>match st a K with
  |some a'=>x=.normal/\∃F',I a' F' U'/\Con mT mT F U F' U'
  |none=>x≠.normal/\aA x U'
theorem Fe{J:Sto}{b}:J.bump.get b=J.get b:=Fh _ _
theorem Asp{D text to ps a K}(h:ldP D text to ps a=false):wyP D text to ps a K=[]:=by
 cases ps with
 |nil=>unfold wyP;rw[if_neg (by rw[h];simp)]
 |cons p ps=>unfold wyP;rw[if_pos h]
def Tu{α:Type}(text:List Str)(D:List Sp)(mT aK n:Nat)(I:α->(Nat->Prop)->Sto->Prop)(aA:XE->Sto->Prop)(st:α->List Sp->Option α)(t:Nat)(ps:List Pt)(a:Nat)(K:List Sp)(acc:α)(F:Nat->Prop)(J:Sto)(v:AV)(J':Sto):Prop:=
 match foM st (wyP D text t ps a K) acc with
 |some acc'=>v=.bool true/\∃(F':Nat->Prop) (K':List Sp),I acc' F' J'/\Con mT aK F J F' J'/\K'.length=n/\J'.get aK=some (.cells (K'.flatMap eSp))/\∀j,(∀p∈ps,p.sort≠[]->p.arg.toNat≠j)->K'[j]? =K[j]?
 |none=>v=.bool false/\nx J<=nx J'/\∃x,x≠.normal/\aA x J'
def Anr(P r t n aK:Nat)(parts:List Pt)(L:RF)(aF:Nat):List AV:=[.pv [.pr P 0],.pv [nV r],.pv [nV t],.pv [slV ePt 3 parts],.pv [.yl L.aY],.pv [.sr aK 0 3 n (some n)],.pr aF 0]
def Acr(P r t n aK:Nat)(parts:List Pt)(L:RF)(aF:Nat):AV:=.fn (.func 191) [] (Anr P r t n aK parts L aF)
theorem Tu.bool{α text D mT aK n I aA st t ps a K}{acc:α}{F J v J'}(h:Tu text D mT aK n I aA st t ps a K acc F J v J'):∃b,v=.bool b:=by
 unfold Tu at h
 grind
theorem Awe{Ls L}(hL:L∈Ls){g text D X P mN mT aK n r t aF}{rl:Rl}{α I aA st}(hC:Cons Ls L g text D X P mN mT aK n I aA st)(hrl:g.rules[r]? =some rl)(hG:∀p∈rl.parts,p.sort≠[]->∃j:Nat,p.arg=Int.ofNat j/\j<n)(hR:g.rules.length<=1000000)(hpl:rl.parts.length<=1000000)(htl:text.length<=1000000)(ht:t<=text.length)(hn:n<=1000000-1)(hne:aF≠aK/\aF≠mT/\aK≠mT)(ps)
  (ih:∀p ps',ps=p::ps'->∀(d a:Nat) (K:List Sp) (acc:α) (F:Nat->Prop) (J:Sto),rl.parts.drop d=ps'->d<=rl.parts.length->a<=text.length->K.length=n->I acc F J->¬F aF->aK<nx J/\aF<nx J->J.get aK=some (.cells (K.flatMap eSp))->J.get aF=some (.cells [Acr P r t n aK rl.parts L aF])->Hl Ew Ls 191 ([nV d,nV a]++Anr P r t n aK rl.parts L aF) J (Tu text D mT aK n I aA st t ps' a K acc F J))
  (d a K acc F J)(hpd:rl.parts.drop d=ps)(hd:d<=rl.parts.length)(ha:a<=text.length)(hK:K.length=n)(hI:I acc F J)(hfF:¬F aF)(hlt:aK<nx J/\aF<nx J)(hk:J.get aK=some (.cells (K.flatMap eSp)))(hf:J.get aF=some (.cells [Acr P r t n aK rl.parts L aF])):Hl Ew Ls 191 ([nV d,nV a]++Anr P r t n aK rl.parts L aF) J (Tu text D mT aK n I aA st t ps a K acc F J):=by
 have hpr:rPt g r=rl.parts:=by unfold rPt;rw[hrl]
 have eu:(rPt g r).length<=1000000:=gr;obtain⟨lv,qu⟩:=hC.pk _ _ _ hI;have hpk:PkB g text D X P mN mT lv J.bump:=qu.of_get gr (fun _ _=>Fe)
 have hIb:I acc F J.bump:=hC.stb _ _ _ _ hI gr (fun _ _ _ _=>Fe) hpk.rs
 obtain⟨J1,nr,h1',hF1⟩:=f192 hrl hR eu htl ht ps d a J.bump gr gr ha hpk;refine Mo Tryz.func191 (Ke _ _ Tryz.func191) rfl rfl fun hw hu0=>?_
 refine Cf ?_;refine Dy fun df=>B7 ?_
 refine OA rfl (Dd ?_);refine Cf ?_;refine Cf ?_;refine Dy fun df=>B7 ?_
 refine O1 (Ac ldC rfl rfl rfl) (O1 (Ac ldC rfl rfl rfl) (OM rfl (OM rfl (O1 (Ac ldC rfl rfl rfl) (Nm rfl rfl rfl rfl nr (O1 (Dc rfl) (Dd ?_)))))));refine A0 rfl ?_ ?_<;>intro h1
 ·have hld:ldP D text t ps a=false:=gr
  have hfo:foM st (wyP D text t ps a K) acc=some acc:=by rw[Asp hld];rfl
  refine Cf ?_;refine Dy fun df=>B7 ?_
  refine OA rfl (Dd ?_);refine Gi fun hw9=>?_
  refine Th ?_
  refine⟨_,rfl,_,_,a_ hw9 nl (fun _ _=>rfl),(by have:=hF1.n;grind),.same rfl,?_⟩
  unfold Tu;rw[hfo]
  exact⟨rfl,F,K,hC.stb acc F _ _ hIb hF1.n (fun b hb h1 _=>hF1.g b hb h1) h1'.rs,.of (by have:=hF1.n;grind) (fun b hb h1 _=>by rw[hF1.g b gr h1,Fe]),hK,by rw[hF1.g aK gr hne.2.2,Fe];exact hk,fun _ _=>rfl⟩
 ·have hld:ldP D text t ps a=true:=gr
  have n1:nx J+1<=nx J1:=by have:=hF1.n;grind
  have g1:∀b,b<nx J->b≠mT->J1.get b=J.get b:=fun b hb h1=>by rw[hF1.g b gr h1,Fe]
  have hI1:I acc F J1:=hC.stb acc F _ _ hIb hF1.n (fun b hb h1 _=>hF1.g b hb h1) h1'.rs
  have hk1:=(g1 aK hlt.1 hne.2.2).trans hk;have hf1:=(g1 aF hlt.2 hne.2.1).trans hf;have hc1:Con mT aK F J F J1:=.of Om (fun b hb h1 _=>g1 b hb h1)
  refine Jw ?_;refine Cf ?_;refine Cf ?_;refine Dy fun df=>B7 ?_
  refine OM rfl (O1 (Ac ldC rfl rfl rfl) (O1 (Jl slC rfl) (O1 (H4 okC rfl rfl) (Dd ?_))));refine A0 rfl ?_ ?_<;>intro h2
  ·have hps:ps=[]:=by
    rw[←hpd];exact ah_ gr
   subst hps
   have hfo:foM st (wyP D text t [] a K) acc=st acc K:=by
    unfold wyP;rw[if_pos hld]
    show(match st acc K with|none=>none|some a'=>some a')=_
    grind
   refine Cf ?_;refine Abx 3 (Rr:=Dk [(193,[.sr aK 0 3 n (some n)],J1,slV eSp 3 K,J1)]) (anns:=[aR 0 1,aR 0 0,aE 0 1]) Kr Di (Bw ⟨hK▸f193 aK (some K.length) K [] J1 gr Om,trivial⟩) Kr ?_;refine DF (Ac ldC rfl rfl rfl) (DF (Ac ldC rfl rfl rfl) (DT (Bq rfl rfl Bv) (C1 ?_)));refine⟨⟨(fun s hs=>⟨_,Ac (ldC (t:=356)) rfl rfl rfl⟩),(fun s hs=>⟨_,Ac (ldC (t:=242)) rfl rfl rfl⟩),trivial,trivial⟩,?_⟩
   refine Lg hL (fun _ _=>rfl) rfl rfl rfl rfl (hC.y acc F K J1 hK hI1) fun x J2 hp hn2=>?_
   refine Gm 1 fun df=>?_
   refine OA rfl (Dd ?_);refine Uy ?_;refine Gi fun hw9=>?_
   refine Th ?_;refine⟨_,rfl,_,_,a_ hw9 nl (fun _ _=>rfl),Om,.same rfl,?_⟩
   unfold Tu;rw[hfo];cases hst:st acc K with
   |none=>
    rw[hst]at hp
    exact⟨by cases x with|normal=>exact absurd rfl hp.1|exit _=>rfl|ret=>rfl,by omega,x,hp⟩
   |some acc'=>
    rw[hst]at hp;obtain⟨rfl,F',hI2,hc2⟩:=hp
    exact⟨rfl,F',K,hI2,hc1.trans hc2.weak,hK,by rw[hc2.g aK Om (hC.ks _ _ _ hI1) hne.2.2 hne.2.2];exact hk1,fun _ _=>rfl⟩
  ·have hdl:d<rl.parts.length:=gr;obtain⟨p,hp⟩:=Ar hdl
   obtain⟨ps',hps⟩:∃ps',ps=p::ps':=⟨rl.parts.drop (d+1),by rw[←hpd];exact A4 hp⟩
   subst hps
   have fp:rl.parts.drop (d+1)=ps':=by
    have:=A4 hp
    grind
   refine Jw ?_;refine Cf ?_;refine Dy fun df=>B7 ?_
   refine O1 (Ac ldC rfl rfl rfl) (OM rfl (O1 (A1 elC (fun _=>rfl) rfl rfl hp) ?_))
   refine O1 (Ac ldC rfl rfl (A6 (Jy p) _)) (Mp ziC ldC rfl (fun _=>rfl) rfl (A7 (Jy p)) rfl ?_)
   refine Dd ?_;refine Cf ?_;refine Cf ?_;refine Dy fun df=>B7 ?_
   refine O1 (Ae fdC rfl rfl) (O1 (Ac ldC rfl rfl (Tt p)) (O1 (H5 (q:=[]) okC rfl rfl) (Dd ?_)));refine A0 rfl ?_ ?_<;>intro h3
   ·have cg:p.sort=[]:=of_decide_eq_true h3
    have hat:a<t:=by
     have:(if p.sort=[]then decide (a<t)&&decide (text.getD a []=p.symbol)&&ldP D text t ps' (a+1)else _)=true:=hld
     grind
    have hfo:wyP D text t (p::ps') a K=wyP D text t ps' (a+1) K:=by
     rw[wyP,if_neg gr,if_pos cg]
    refine Cf ?_;refine Er ?_;refine Gm 5 fun df=>?_
    refine O1 (E8 hf1 ldC rfl rfl) (OM rfl (O1 (D3 (q:=1) okC rfl rfl Om) ?_));refine OM rfl (O1 (D3 (q:=1) okC rfl rfl Om) ?_);refine Dd ?_
    refine L5 (fun _ _=>rfl) rfl rfl rfl rfl rfl (ih p ps' rfl (d+1) (a+1) K acc F J1 fp Om Om hK hI1 hfF ⟨by omega,by omega⟩ hk1 hf1) fun u2 J2 hp2 hn2=>?_
    obtain⟨b2,rfl⟩:=Tu.bool hp2;refine Gm 1 fun df=>?_
    refine OA rfl (Dd ?_);refine Uy ?_;refine Gi fun hw9=>?_
    refine Th ?_;refine⟨_,rfl,_,_,a_ hw9 nl (fun _ _=>rfl),Om,.same rfl,?_⟩
    unfold Tu at hp2⊢;rw[hfo];cases hfm:foM st (wyP D text t ps' (a+1) K) acc with
    |none=>
     rw[hfm]at hp2;obtain⟨hbq,h2,h3⟩:=hp2;obtain rfl:=AV.bool.inj hbq
     exact⟨rfl,by omega,h3⟩
    |some acc'=>
     rw[hfm]at hp2;obtain⟨hbq,F',K',hI2,hc2,hK2,hk2,hj⟩:=hp2;obtain rfl:=AV.bool.inj hbq;exact⟨rfl,F',K',hI2,hc1.trans hc2,hK2,hk2,fun j h=>hj j fun q hq=>h q (aj_ _ hq)⟩
   ·have cg:p.sort≠[]:=of_decide_eq_false h3;obtain⟨ja,hja,hjn⟩:=hG p (ab_ hp) cg;have hjt:p.arg.toNat=ja:=gr;obtain⟨G,hGe⟩:∃G:Nat->List (List Sp),(fun e=>if(p.sort,a,e)∈D then wyP D text t ps' e (K.set ja (p.sort,a,e))else[])=G:=⟨_,rfl⟩
    have hfo:wyP D text t (p::ps') a K=(List.range' a (t+1-a)).flatMap G:=by
     rw[wyP,if_neg gr,if_neg cg,←hGe,hjt]
    refine Jw ?_;refine Cf ?_;refine Cf ?_;refine Dy fun df=>B7 ?_
    refine OM rfl (OA rfl (Dd ?_));refine Qn ?_;refine Hz (fun q:Nat×α=>[(0,nV d),(1,nV a),(2,.pv [.pr P 0]),(4,.pv [nV t]),(7,.pv [.sr aK 0 3 n (some n)]),(8,.pr aF 0),(12,.pv (ePt p)),(13,nV q.1)]) (fun q J0=>a<=q.1/\(q.1<=t+1∨q.1=a)/\∃F0 K0,I q.2 F0 J0/\Con mT aK F J F0 J0/\nx J+1<=nx J0/\K0.length=n/\J0.get aK=some (.cells (K0.flatMap eSp))/\(∀j,(∀q∈p::ps',q.sort≠[]->q.arg.toNat≠j)->K0[j]? =K[j]?)/\(∀j,(∀q∈ps',q.sort≠[]->q.arg.toNat≠j)->j≠ja->K0[j]? =K[j]?)/\foM st ((List.range' q.1 (t+1-q.1)).flatMap G) q.2=foM st ((List.range' a (t+1-a)).flatMap G) acc) (fun q=>t+1-q.1) (a,acc) SL ⟨nl,.inr rfl,F,K,hI1,hc1,n1,hK,hk1,fun _ _=>rfl,fun _ _ _=>rfl,rfl⟩ ?_
    rintro⟨e,acc0⟩ J0 ⟨hae,het,F0,K0,hI0,hc0,n0,hK0,hk0,hj0,hj1,bu⟩;have hae:a<=e:=hae;have het:e<=t+1∨e=a:=het;have hI0:I acc0 F0 J0:=hI0;have bu:foM st ((List.range' e (t+1-e)).flatMap G) acc0=foM st ((List.range' a (t+1-a)).flatMap G) acc:=bu
    have qh:¬F0 aF:=fun h=>by
     rcases hc0.f aF h with q|q
     ·exact hfF q
     ·omega
    have hf0:J0.get aF=some (.cells [Acr P r t n aK rl.parts L aF]):=(hc0.g aF hlt.2 hfF hne.2.1 hne.1).trans hf;refine Cf ?_;refine Cf ?_;refine Dy fun df=>B7 ?_
    refine OM rfl (O1 (Ac ldC rfl rfl rfl) (O1 (Hn okC rfl rfl) (Dd ?_)));refine A0 rfl ?_ ?_<;>intro h4
    ·have hle:e<=t:=bm_.1 (of_decide_eq_true h4)
     have hrg:List.range' e (t+1-e)=e::List.range' (e+1) (t+1-(e+1)):=by
      rw[show t+1-e=(t+1-(e+1))+1 by omega,cj_]
     rw[hrg,bs_,Ahi]at bu;obtain⟨lv0,fq⟩:=hC.pk _ _ _ hI0;obtain⟨MD,⟨vD,hMD⟩,dh⟩:=fq.dn;refine Jw ?_;refine Cf ?_;refine Qn ?_;refine Cf ?_;refine Dy fun df=>B7 ?_
     refine O1 (Ae fdC rfl rfl) (O1 (Ac ldC rfl rfl rfl) (OM rfl (OM rfl (O1 (Ut bdC rfl rfl) (Mp ziC ldC rfl (fun _=>rfl) rfl rfl rfl ?_)))))
     refine Dd ?_
     by_cases hin:(p.sort,a,e)∈D
     ·have hm:=(dh _).1 hin;have hGi:G e=wyP D text t ps' e (K.set ja (p.sort,a,e)):=gr;refine Cf ?_;refine Cf ?_;refine Dy fun df=>X0 ?_
      refine DF (Ac ldC rfl rfl rfl) (DF (Ge rfl) (DF (Ae fdC rfl rfl) (DF (E8 fq.pk ldC rfl rfl) (DF (Ge rfl) (DF (Ae fdC rfl rfl) (DF (E8 fq.cl ldC rfl rfl) (DF (Ac ldC rfl rfl rfl) ?_)))))));refine DF (Ns (o:=some true) (z:=.bool false) Va rfl ⟨vD,hMD⟩ rfl (Acn (p.sort,a,e)) hm) (DF (Dc rfl) (C1 ?_));refine⟨rfl,rfl,?_⟩;refine A0 rfl gr (fun h5=>?_)
      have hKl:ja<K0.length:=by omega
      have hwy:wyP D text t ps' e (K0.set ja (p.sort,a,e))=G e:=by
       rw[hGi];refine Xd _ _ _ _ gr fun j hj=>?_
       grind
      obtain⟨J5,hσ5⟩:∃J5,J0.set aK (.cells ((K0.set ja (p.sort,a,e)).flatMap eSp++[]))=J5:=⟨_,rfl⟩;have n5:nx J5=nx J0:=gr;have g5:∀b,b≠aK->J5.get b=J0.get b:=gr;have hk5:J5.get aK=some (.cells ((K0.set ja (p.sort,a,e)).flatMap eSp)):=gr;have hI5:I acc0 F0 J5:=hC.stb _ _ _ _ hI0 Om (fun b _ _ h2=>g5 b h2) (fq.rs.of_get (g5 mT hne.2.2.symm))
      have hf5:=(g5 aF hne.1).trans hf0;have hc5:Con mT aK F J F0 J5:=hc0.trans (.of Om fun b _ _ h2=>g5 b h2)
      refine Jw ?_;refine Cf ?_;refine Dy fun df=>B7 ?_
      refine O1 (Ac ldC rfl rfl rfl) (O1 (Ae fdC rfl rfl) (O1 (Ac ldC rfl rfl (show _=some (nV ja)from by show some (AV.int .i64 p.arg)=_;rw[hja];rfl)) ?_))
      refine O1 (Ac ldC rfl rfl rfl) (O1 (Br elC rfl rfl hjn) (O1 (Tb (u:=(p.sort,a,e)) (l:=K0) (tl:=[]) O2 ldC rfl rfl rfl gr hKl) ?_));refine Dd ?_;rw[hσ5];refine Cf ?_;refine Er ?_;refine Gm 4 fun df=>?_
      refine O1 (E8 hf5 ldC rfl rfl) (OM rfl (O1 (D3 (q:=1) okC rfl rfl Om) ?_));refine OM rfl (Dd ?_)
      refine L5 (fun _ _=>rfl) rfl rfl rfl rfl rfl (ih p ps' rfl (d+1) e (K0.set ja (p.sort,a,e)) acc0 F0 J5 fp Om Om gr hI5 qh ⟨by omega,by omega⟩ hk5 hf5) fun u2 J2 hp2 hn2=>?_
      obtain⟨b2,rfl⟩:=Tu.bool hp2;refine Gm 1 fun df=>?_
      refine O1 (Dc rfl) (Dd ?_);refine Uy ?_;unfold Tu at hp2;rw[hwy]at hp2;cases hfm:foM st (G e) acc0 with
      |none=>
       rw[hfm]at hp2 bu;obtain⟨hbq,h2,h3⟩:=hp2;obtain rfl:=AV.bool.inj hbq;refine A0 rfl (fun h6=>?_) gr
       refine Cf ?_;refine Dy fun df=>B7 ?_
       refine OA rfl (Dd ?_);refine Gi fun hw9=>?_
       refine Th ?_;refine⟨_,rfl,_,_,a_ hw9 nl (fun _ _=>rfl),Om,.same rfl,?_⟩
       unfold Tu;rw[hfo,←bu]
       exact⟨rfl,by omega,h3⟩
      |some acc1=>
       rw[hfm]at hp2 bu;obtain⟨hbq,F1,K1,hI6,hc6,hK6,hk6,hj6⟩:=hp2;obtain rfl:=AV.bool.inj hbq;refine A0 rfl gr (fun h6=>?_)
       refine Jw ?_;refine Dy fun df=>B7 ?_
       refine OM rfl (O1 (D3 (q:=1) okC rfl rfl Om) ?_);refine OA rfl (Dd ?_);refine⟨(e+1,acc1),gr,SL,gr,.inl gr,F1,K1,hI6,hc5.trans hc6,gr,hK6,hk6,fun j hj=>?_,fun j hj ft=>?_,bu⟩
       ·grind
       ·grind
     ·have hm:=(dh _).2 hin;have hGi:G e=[]:=gr;rw[hGi]at bu;refine Cf ?_;refine Cf ?_;refine Dy fun df=>X0 ?_
      refine DF (Ac ldC rfl rfl rfl) (DF (Ge rfl) (DF (Ae fdC rfl rfl) (DF (E8 fq.pk ldC rfl rfl) (DF (Ge rfl) (DF (Ae fdC rfl rfl) (DF (E8 fq.cl ldC rfl rfl) (DF (Ac ldC rfl rfl rfl) ?_)))))));refine DF (Ns (o:=none) (z:=.bool false) Va rfl ⟨vD,hMD⟩ rfl (Acn (p.sort,a,e)) hm) (DF (Dc rfl) (C1 ?_));refine⟨rfl,rfl,?_⟩;refine A0 rfl (fun h5=>?_) gr
      refine Ux ?_;refine Dy fun df=>B7 ?_
      refine OM rfl (O1 (D3 (q:=1) okC rfl rfl Om) ?_);refine OA rfl (Dd ?_);refine⟨(e+1,acc0),gr,SL,gr,.inl gr,F0,K0,hI0,hc0,n0,hK0,hk0,hj0,hj1,bu⟩
    ·have hgt:¬e<=t:=fun q=>(of_decide_eq_false h4) (bm_.2 q)
     rw[show t+1-e=0 by omega]at bu
     have bu:some acc0=foM st ((List.range' a (t+1-a)).flatMap G) acc:=bu;refine Ux ?_;refine Cf ?_;refine Dy fun df=>B7 ?_
     refine OA rfl (Dd ?_);refine Gi fun hw9=>?_
     refine Th ?_;refine⟨_,rfl,_,_,a_ hw9 nl (fun _ _=>rfl),Om,.same rfl,?_⟩
     unfold Tu;rw[hfo,←bu];exact⟨rfl,F0,K0,hI0,hc0,hK0,hk0,hj0⟩
theorem f191{Ls L}(hL:L∈Ls){g text D X P mN mT aK n r t aF}{rl:Rl}{α I aA st}(hC:Cons Ls L g text D X P mN mT aK n I aA st)(hrl:g.rules[r]? =some rl)(hG:∀p∈rl.parts,p.sort≠[]->∃j:Nat,p.arg=Int.ofNat j/\j<n)(hR:g.rules.length<=1000000)(hpl:rl.parts.length<=1000000)(htl:text.length<=1000000)(ht:t<=text.length)(hn:n<=1000000-1)(hne:aF≠aK/\aF≠mT/\aK≠mT):∀(ps:List Pt) (d a:Nat) (K:List Sp) (acc:α) (F:Nat->Prop) (J:Sto),rl.parts.drop d=ps->d<=rl.parts.length->a<=text.length->K.length=n->I acc F J->¬F aF->aK<nx J/\aF<nx J->J.get aK=some (.cells (K.flatMap eSp))->J.get aF=some (.cells [Acr P r t n aK rl.parts L aF])->Hl Ew Ls 191 ([nV d,nV a]++Anr P r t n aK rl.parts L aF) J (Tu text D mT aK n I aA st t ps a K acc F J)
 |[]=>Awe hL hC hrl hG hR hpl htl ht hn hne [] gr
 |p::ps=>Awe hL hC hrl hG hR hpl htl ht hn hne (p::ps) fun p' ps' h=>by cases h;exact f191 hL hC hrl hG hR hpl htl ht hn hne ps
def nPs(ps:List Pt):Nat:=(ps.filter fun p=>decide (p.sort≠[])).length
theorem Ahj{ps}:nPs ps<=ps.length:=ee_ _ _
theorem Ajr{ps:List Pt}{i}{p:Pt}(h:ps[i]? =some p):nPs (ps.take (i+1))=if p.sort=[]then nPs (ps.take i)else nPs (ps.take i)+1:=by
 have e:ps.take (i+1)=ps.take i++[p]:=by rw[List.take_add_one,h];rfl
 unfold nPs
 grind
theorem Au2(n):rep [.str [],.int .i64 0,.int .i64 0] n=(List.replicate n zSp).flatMap eSp:=by
 induction n with
 |zero=>rfl
 |succ n ih=>rw[List.replicate_succ,bs_,←ih];rfl
theorem O3{ρ J Rr t n sz by' x y z}(hi:elI Ew.P t=some (sz,by',some z))(hx:Ah Ew ρ x=some (nV n))(hy:Ah Ew ρ y=some (nV n))(hl:n*(by'+1)<=sizeLim)(hz:Nat.beq z.length sz=true:=by rfl):As Ew Rr (.makeSlice t x y) ρ J (.sr (nx J) 0 sz n (some n)) (J.new (.cells (rep z n))):=fun tm h=>by
 unfold elI at hi
 split at hi
 ·rename_i ti hti
  split at hi
  ·rename_i e he
   split at hi
   ·rename_i te hte
    simp only[af_,ba_]at hi;obtain⟨rfl,rfl,hz0⟩:=hi
    have hb:(Nat.ble n n&&Nat.ble (n*(te.bytes+1)) sizeLim)=true:=by
     rw[ar_ (Nat.le_refl n),ar_ hl];rfl
    have hx':opd Ew tm x=nV n:=h.opd hx;have hy':opd Ew tm y=nV n:=h.opd hy;simp only[opA,Aw,hti,he,hte,hz0,hz,hx',hy']
    show cond (Nat.ble n n&&Nat.ble (n*(te.bytes+1)) sizeLim) _ _=_
    rw[hb];rfl
   ·cases hi
  ·cases hi
 ·cases hi
theorem Acs{N}(ps):AV.unds N [slV ePt 3 ps]=true:=by
 have:=Vj (N:=N) ⟨[],[],ps,false⟩;simp only[eR,AV.unds,ad_]at this⊢
 grind
def Awf(P r t n aK a:Nat)(parts:List Pt):AV:=.fn (.func 190) [] [.pv [.pr P 0],.pv [nV r],.pv [nV t],.pv [slV ePt 3 parts],.pv [.sr aK 0 3 n (some n)],.pv [nV a]]
theorem Apz{N P r t n aK a parts}(hP:P<N)(hK:aK<N):AV.und N (Awf P r t n aK a parts)=true:=by
 have h1:(AV.und N (slV ePt 3 parts)&&true)=true:=Acs parts;rw[Bool.and_true]at h1
 show(true&&((Nat.blt P N&&true)&&(true&&(true&&((AV.und N (slV ePt 3 parts)&&true)&&((Nat.blt aK N&&true)&&(true&&true)))))))=true
 rw[h1,Ce hP,Ce hK];rfl
theorem f156{g text D X P mN mT lv J r rl}(h:PkB g text D X P mN mT lv J)(hrl:g.rules[r]? =some rl)(hR:g.rules.length<=1000000)(hpl:rl.parts.length<1000000)(a t):Al Ew 156 [.pr P 0,nV r,nV a,nV t] J fun v J'=>v=Awf P r t (nPs rl.parts) (nx J) a rl.parts/\J'.get (nx J)=some (.cells ((List.replicate (nPs rl.parts) zSp).flatMap eSp))/\nx J'=nx J+1/\∀b,b<nx J->J'.get b=J.get b:=by
 obtain⟨J1,hσ1⟩:∃J1,J.new (.cells (rep [.str [],.int .i64 0,.int .i64 0] (nPs rl.parts)))=J1:=⟨_,rfl⟩;have n1:nx J1=nx J+1:=gr;have g1:∀b,b<nx J->J1.get b=J.get b:=gr
 have hk1:J1.get (nx J)=some (.cells ((List.replicate (nPs rl.parts) zSp).flatMap eSp)):=by rw[←hσ1,ag_,if_pos rfl,Au2]
 refine Aj Tryz.func156 rfl rfl fun hw hu0=>?_
 refine G8 ?_;refine Gz 9 [nS] [slV ePt 3 rl.parts] [] (Acs rl.parts) rfl (fun hw0=>?_) ?_
 ·refine XX 1 (l:=[]) trivial ?_;refine G3 ?_;refine DF (lO h.pk) ?_;refine G3 ?_;refine DF (lO h.cl) ?_;refine G3 ?_
  refine DF (Ac ldC rfl rfl (Z7 rl _)) (DT (Bu ziC) (DT (sO (cs:=[nS]) (cs':=[slV ePt 3 rl.parts]) (by rw[ag_,if_pos rfl])) ?_))
  refine G ?_
  exact⟨(by intro e he;simp at he;rcases he with rfl|rfl<;>first|exact .refl|exact K4 hw0),trivial,sb,rfl,rfl⟩
 refine G12 ?_;refine Bz rl.parts.length (fun i0=>[(4,.pv [.pr P 0]),(5,.pv [nV r]),(6,.pv [nV a]),(7,.pv [nV t]),(9,.pv [slV ePt 3 rl.parts]),(10,nV (nPs (rl.parts.take i0))),(26,slV ePt 3 rl.parts),(27,nV rl.parts.length),(28,nV i0)]) (fun i0 J0=>J0=J) SL rfl ?_
 rintro i0 J0 hi0 hσ0;subst hσ0;refine G5 ?_;refine Ab rfl ?_ ?_<;>intro h1
 ·have bc:i0<rl.parts.length:=gr;obtain⟨p,hp⟩:=Ar bc;have qa:=Ahj (ps:=rl.parts.take i0);rw[cb_]at qa;refine G6 ?_;refine O1 (Ac ldC rfl rfl (A6 (Jy p) _)) (Ho ziC ldC rfl (fun _=>rfl) rfl (A7 (Jy p)) rfl rfl ?_)
  refine G4 ?_;refine O1 (Ac ldC rfl rfl (Tt p)) (O1 (Ko (q:=[]) okC rfl rfl) ?_);refine G ?_;refine Ab rfl ?_ ?_<;>intro h2
  ·have cg:p.sort≠[]:=gr;refine G9 ?_
   refine⟨bc,⟨rfl,rfl,rfl,rfl,rfl,by rw[Ajr hp,if_neg cg];rfl,rfl,rfl,rfl,trivial⟩,rfl⟩
  ·have cg:p.sort=[]:=gr;refine G5 ?_
   refine⟨bc,⟨rfl,rfl,rfl,rfl,rfl,by rw[Ajr hp,if_pos cg];rfl,rfl,rfl,rfl,trivial⟩,rfl⟩
 ·have bj:rl.parts.length<=i0:=gr;have htk:rl.parts.take i0=rl.parts:=at_ bj;rw[htk];have hnl:=Ahj (ps:=rl.parts);refine G4 ?_
  refine O1 (O3 (n:=nPs rl.parts) elC rfl rfl (by simp only[sizeLim];omega)) ?_
  refine G2 ?_;rw[hσ1];refine G5 ?_;refine Bo fun hw9=>?_
  refine G ?_
  exact⟨_,rfl,_,_,a_ hw9 nl (fun _ _=>rfl),by omega,.same (Apz (by have:=h.lt.1;omega) Om),rfl,hk1,n1,g1⟩
theorem f190{Ls L}(hL:L∈Ls){g text D X P mN mT aK r t}{rl:Rl}{α I aA st}(hC:Cons Ls L g text D X P mN mT aK (nPs rl.parts) I aA st)(hrl:g.rules[r]? =some rl)(hG:∀p∈rl.parts,p.sort≠[]->∃j:Nat,p.arg=Int.ofNat j/\j<nPs rl.parts)(hR:g.rules.length<=1000000)(hpl:rl.parts.length<=1000000-1)(htl:text.length<=1000000)(ht:t<=text.length)(hKT:aK≠mT)(a)(acc:α)(F J)(ha:a<=text.length)(hI:I acc F J)(hF:∀b,F b->b<nx J)(hlt:aK<nx J)(hk:J.get aK=some (.cells ((List.replicate (nPs rl.parts) zSp).flatMap eSp))):
  Hl Ew Ls 190 (.yl L.aY::[.pv [.pr P 0],.pv [nV r],.pv [nV t],.pv [slV ePt 3 rl.parts],.pv [.sr aK 0 3 (nPs rl.parts) (some (nPs rl.parts))],.pv [nV a]]) J fun _ J'=>match foM st (Qx g D text r a t) acc with
   |some acc'=>∃F',I acc' F' J'/\Con mT aK F J F' J'
   |none=>nx J<=nx J'/\∃x,x≠.normal/\aA x J':=by
 have hpr:rPt g r=rl.parts:=by unfold rPt;rw[hrl]
 have qe:Qx g D text r a t=wyP D text t rl.parts a (List.replicate (nPs rl.parts) zSp):=by unfold Qx;rw[hpr];rfl
 obtain⟨lv,hpk⟩:=hC.pk _ _ _ hI;obtain⟨l1,l2,l3,l4⟩:=hpk.lt;have hnl:=Ahj (ps:=rl.parts);obtain⟨J2,hσ2⟩:∃J2,(J.bump.new (.cells [.nil .nilFunc])).set (nx J+1) (.cells [Acr P r t (nPs rl.parts) aK rl.parts L (nx J+1)])=J2:=⟨_,rfl⟩;have n2:nx J2=nx J+2:=gr;have g2:∀b,b<nx J->J2.get b=J.get b:=gr;have hf2:J2.get (nx J+1)=some (.cells [Acr P r t (nPs rl.parts) aK rl.parts L (nx J+1)]):=gr;have hI2:I acc F J2:=hC.stb _ _ _ _ hI Om (fun b hb _ _=>g2 b hb) (hpk.rs.of_get (g2 mT l4))
 refine Mo Tryz.func190 (Ke _ _ Tryz.func190) rfl rfl fun hw hu0=>?_
 iterate  6 refine G ?_
 refine O1 (Bj (n:=nx J+1) ziC (Bm J)) ?_
 iterate  4 refine G ?_
 refine O1 (sO (cs:=[.nil .nilFunc]) (cs':=[Acr P r t (nPs rl.parts) aK rl.parts L (nx J+1)]) (by rw[ag_,if_pos (Bm J).symm])) ?_
 refine G ?_;rw[hσ2];refine Oo ?_;refine Er ?_;refine Gm 2 fun df=>?_
 refine O1 (lO hf2) ?_
 iterate  2 refine G ?_
 refine L5 (fun _ _=>rfl) rfl rfl rfl rfl rfl (f191 (aF:=nx J+1) hL hC hrl hG hR Om htl ht Om ⟨by omega,by omega,hKT⟩ rl.parts 0 a _ acc F J2 rfl (aq_ _) ha (fi_ ..) hI2 gr ⟨by omega,by omega⟩ ((g2 aK hlt).trans hk) hf2) fun u J3 hp hn=>?_
 refine G ?_;intro hw9
 refine⟨[],rfl,_,_,a_ hw9 nl (fun _ _=>rfl),by omega,.same rfl,?_⟩
 rw[qe];unfold Tu at hp;cases hfm:foM st (wyP D text t rl.parts a (List.replicate (nPs rl.parts) zSp)) acc with
 |none=>
  rw[hfm]at hp
  exact⟨by omega,hp.2.2⟩
 |some acc'=>
  rw[hfm]at hp;obtain⟨_,F',K',h1,h2,_⟩:=hp;exact⟨F',h1,(Con.of Om fun b hb _ _=>g2 b hb).trans h2⟩
def eWy(w:Wy):List AV:=[nV w.rule,slV eN 1 w.kids]
def eNd(x:Nde):List AV:=[sV x.sp.1,nV x.sp.2.1,nV x.sp.2.2,slV eWy 2 x.ways]
def fV(F:List Nde):AV:=.agg [slV eNd 4 F]
theorem Gq(w):(eWy w).length=2:=rfl
theorem Mw(w):(eNd w).length=4:=rfl
theorem Ajs{N}(w):AV.unds N (eWy w)=true:=by
 have:AV.unds N (w.kids.flatMap eN)=true:=A2 (fun x=>Ajp x) _
 simp only[eWy,AV.unds,AV.und,slV,this,be_,Bool.and_true];rfl
theorem Vp{N}(x):AV.unds N (eNd x)=true:=by
 have:AV.unds N (x.ways.flatMap eWy)=true:=A2 Ajs _;simp only[eNd,AV.unds,AV.und,slV,this,be_,Bool.and_true,sV];rfl
inductive Pg where
 |r1
 |r2
 |f
 |tot
 |nd
 |w
 |lv
 |wv
 |nv
 |kv
 deriving DecidableEq
structure Px where
 r1:Nat
 r2:Nat
 f:Nat
 tot:Nat
 nd:Option Nat
 w:Option Nat
 lv:AV
 wv:AV
 nv:AV
 kv:AV
def Px.loc(Y:Px):Pg->Option Nat
 |.r1=>some Y.r1
 |.r2=>some Y.r2
 |.f=>some Y.f
 |.tot=>some Y.tot
 |.nd=>Y.nd
 |.w=>Y.w
 |.lv=>adr Y.lv
 |.wv=>adr Y.wv
 |.nv=>adr Y.nv
 |.kv=>adr Y.kv
structure Pc where
 g:Gr
 text:List Str
 D:List Sp
 X:Cp
 P:Nat
 mN:Nat
 mT:Nat
 N0:Nat
 M:Nat
 rv:SM AV
 J0:Sto
structure Xe (c:Pc):Prop where
 lt:c.P<c.N0/\c.X.c<c.N0/\c.X.mD<c.N0/\c.mT<c.N0
 ne:c.mN≠c.X.mD/\c.mN≠c.mT
 M:c.M<=c.P/\c.M<=c.mN/\c.M<=c.mT/\c.M<=c.N0
 rl:∀a,(a=c.X.mR∨∃s v,c.rv.get s=some v/\adr v=some a)->a<c.N0/\a≠c.P/\a≠c.mN/\a≠c.mT
structure RlG (g:Gr)(rv:SM AV)(mR:Nat)(J:Sto):Prop where
 map:B8 (fun v:AV=>v) J mR rv
 get:∀s,match rv.get s with|none=>E5 g s=[]|some v=>Own J 0 eN 1 (E5 g s) v
theorem RlG.of_get{g rv mR J U}(h:RlG g rv mR J)(hn:nx J<=nx U)(hg:∀a,(a=mR∨∃s v,rv.get s=some v/\adr v=some a)->U.get a=J.get a):RlG g rv mR U:=by
 refine⟨h.map.of_get (hg _ (.inl rfl)),fun s=>?_⟩
 have:=h.get s;cases hs:rv.get s with
 |none=>rw[hs]at this;exact this
 |some v=>rw[hs]at this;exact this.of_get hn fun a ha=>hg a (.inr ⟨s,v,hs,ha⟩)
structure PS (c:Pc)(Y:Px)(L:List Sp)(total:Nat)(nodes:List Nde)(s:Sp)(ws:List Wy)(r:Nat)(ks:List Nat)(J:Sto):Prop where
 inj:∀t u a,Y.loc t=some a->Y.loc u=some a->t=u
 lo:∀t a,Y.loc t=some a->c.N0<=a/\a<nx J
 pkb:PkB c.g c.text c.D c.X c.P c.mN c.mT Y.lv J
 pkl:PkL L c.N0 c.mN Y.lv J
 rl:RlG c.g c.rv c.X.mR J
 r1:J.get Y.r1=some (.cells [nS])
 r2:J.get Y.r2=some (.cells [.bool false])
 f:J.get Y.f=some (.cells [Y.nv])
 nv:Own J c.N0 eNd 4 nodes Y.nv
 tot:J.get Y.tot=some (.cells [nV total])
 nd:∀a,Y.nd=some a->J.get a=some (.cells [sV s.1,nV s.2.1,nV s.2.2,Y.wv])
 wv:Own J c.N0 eWy 2 ws Y.wv
 w:∀a,Y.w=some a->J.get a=some (.cells [nV r,Y.kv])
 kv:Own J c.N0 eN 1 ks Y.kv
 blw:Below c.M c.J0 J
theorem Ry{loc loc':Pg->Option Nat}{t0 N}(inj:∀t u a,loc t=some a->loc u=some a->t=u)(lo:∀t a,loc t=some a->a<N)(h:∀t,t≠t0->loc' t=loc t)(h0:∀a,loc' t0=some a->loc t0=some a∨N<=a):∀t u a,loc' t=some a->loc' u=some a->t=u:=by
 intro t u a ht hu
 by_cases e1:t=t0
 ·grind
 grind
section
variable {c:Pc}{Y:Px}{L:List Sp}{total:Nat}{nodes:List Nde}{s:Sp}{ws:List Wy}{r:Nat}{ks:List Nat}{J U:Sto}
theorem PS.ltn(h:PS c Y L total nodes s ws r ks J):c.N0<=nx J:=h.pkl.lt.2
theorem PS.keep(h:PS c Y L total nodes s ws r ks J)(ok:Xe c)(hn:nx J<=nx U)(hg:∀b,b<c.N0->b≠c.mT->U.get b=J.get b)(ht:∀t a,Y.loc t=some a->U.get a=J.get a)(hr:Vo c.g c.D c.text U c.mT):PS c Y L total nodes s ws r ks U:=by
 have h1:=h.pkb.ne;have hl:=ok.lt;have hM:=ok.M;refine⟨h.inj,fun t a hta=>⟨(h.lo t a hta).1,ak_ (h.lo t a hta).2 hn⟩,⟨(hg _ hl.1 h1.1).trans h.pkb.pk,(hg _ hl.2.1 h1.2.1).trans h.pkb.cl,h.pkb.dn.of_get (hg _ hl.2.2.1 h1.2.2),hr,?_⟩,h.pkl.of_get hn (hg _ h.pkl.lt.1 ok.ne.2) (fun a ha=>ht .lv a ha),h.rl.of_get hn (fun a ha=>hg a (ok.rl a ha).1 (ok.rl a ha).2.2.2),(ht .r1 _ rfl).trans h.r1,(ht .r2 _ rfl).trans h.r2,(ht .f _ rfl).trans h.f,h.nv.of_get hn (fun a ha=>ht .nv a ha),(ht .tot _ rfl).trans h.tot,fun a ha=>(ht .nd a ha).trans (h.nd a ha),h.wv.of_get hn (fun a ha=>ht .wv a ha),fun a ha=>(ht .w a ha).trans (h.w a ha),h.kv.of_get hn (fun a ha=>ht .kv a ha),ai_ h.blw.1 hn,fun b hb=>(hg b Om Om).trans (h.blw.2 b hb)⟩
 have:=h.pkb.lt;omega
theorem PS.news(h:PS c Y L total nodes s ws r ks J)(ok:Xe c)(hn:nx J<=nx U)(hg:∀b,b<nx J->U.get b=J.get b):PS c Y L total nodes s ws r ks U:=
 h.keep ok hn (fun b hb _=>hg b (ak_ hb h.ltn)) (fun t a ha=>hg a (h.lo t a ha).2) (h.pkb.rs.of_get (hg _ h.pkb.lt.2.2.2))
theorem PS.meet(h:PS c Y L total nodes s ws r ks J)(ok:Xe c)(x)(bn:L.length<=30000000):
  ∃lv' U,Al Ew 155 [.pr c.P 0,.agg (eSp x)] J (fun u υ=>u=nV (D2 L x).1/\υ=U)/\PS c { Y with lv:=lv' } (D2 L x).2 total nodes s ws r ks U/\nx J<=nx U/\(∀b,b<nx J->b≠c.P->b≠c.mN->(∀t,Y.loc t≠some b)->U.get b=J.get b)/\(∀t a,({ Y with lv:=lv' }:Px).loc t=some a->(∃u,Y.loc u=some a)∨nx J<=a):=by
 obtain⟨lv',U,hc,hb,hl,hm⟩:=f155 h.pkb h.pkl ok.lt ok.ne x bn;have hP:=ok.lt.1;have hN:=h.pkl.lt.1;have hg:∀b,b<nx J->c.N0<=b->adr Y.lv≠some b->U.get b=J.get b:=fun b h1 h2 h3=>hm.g b h1 Om Om h3
 have nu:∀t a,({ Y with lv:=lv' }:Px).loc t=some a->(∃u,Y.loc u=some a)∨nx J<=a:=fun t a q=>by
  by_cases e:t=.lv
  ·subst e
   rcases hm.a a q with q|q
   ·exact .inl ⟨.lv,q⟩
   grind
  ·exact .inl ⟨t,by cases t<;>first|exact q|exact absurd rfl e⟩
 refine⟨lv',U,hc,?_,hm.n,fun b h1 h2 h3 h4=>hm.g b h1 h2 h3 (h4 .lv),nu⟩
 have ht:∀t a,t≠.lv->Y.loc t=some a->U.get a=J.get a:=fun t a n hta=>hg a (h.lo t a hta).2 (h.lo t a hta).1 fun e=>n (h.inj t .lv a hta e)
 have hb0:∀b,b<c.N0->b≠c.P->b≠c.mN->U.get b=J.get b:=fun b h1 h2 h3=>hm.g b (ak_ h1 h.ltn) h2 h3 fun e=>by have:=(h.lo .lv b e).1;omega
 have bk:∀t,t≠Pg.lv->({ Y with lv:=lv' }:Px).loc t=Y.loc t:=fun t n=>by cases t<;>first|rfl|exact absurd rfl n
 have hM:=ok.M
 refine⟨Ry (t0:=.lv) (N:=nx J) h.inj (fun t a q=>(h.lo t a q).2) bk (fun a q=>hm.a a q),fun t a q=>?_,hb,hl,h.rl.of_get hm.n (fun a q=>hb0 a (ok.rl a q).1 (ok.rl a q).2.1 (ok.rl a q).2.2.1),(ht .r1 _ (by simp) rfl).trans h.r1,(ht .r2 _ (by simp) rfl).trans h.r2,(ht .f _ (by simp) rfl).trans h.f,h.nv.of_get hm.n (fun a q=>ht .nv a (by simp) q),(ht .tot _ (by simp) rfl).trans h.tot,fun a q=>(ht .nd a (by simp) q).trans (h.nd a q),h.wv.of_get hm.n (fun a q=>ht .wv a (by simp) q),fun a q=>(ht .w a (by simp) q).trans (h.w a q),h.kv.of_get hm.n (fun a q=>ht .kv a (by simp) q),ai_ h.blw.1 hm.n,fun b q=>(hb0 b Om Om Om).trans (h.blw.2 b q)⟩
 by_cases e:t=.lv
 ·subst e;exact hl.lst.adr_lt q
 ·rw[bk t e]at q;have:=h.lo t a q;have:=hm.n;omega
theorem PS.kid(h:PS c Y L total nodes s ws r ks J)(ok:Xe c){a}(hw:Y.w=some a)(k)(bn:ks.length<=30000000):
  ∃J2,B6 J 1 8 Y.kv 1 (eN k)=some (.sr (nx J) 0 1 (ks.length+1) none,J2)/\J2.get a=some (.cells [nV r,Y.kv])/\nx J2=nx J+1/\
   PS c { Y with kv:=.sr (nx J) 0 1 (ks.length+1) none } L total nodes s ws r (ks++[k]) (J2.set a (.cells [nV r,.sr (nx J) 0 1 (ks.length+1) none]))/\(∀b,b<nx J->b≠a->adr Y.kv≠some b->(J2.set a (.cells [nV r,.sr (nx J) 0 1 (ks.length+1) none])).get b=J.get b):=by
 obtain⟨J2,hap,n2,ho2,g2⟩:=dn_ (by':=8) Ep h.ltn h.kv k (by simp only[sizeLim];omega)
 have haw:Y.loc .w=some a:=hw;have hal:=h.lo .w a haw
 have hak:adr Y.kv≠some a:=fun e=>by cases h.inj .kv .w a e haw
 have hg:∀b,b<nx J->b≠a->adr Y.kv≠some b->(J2.set a (.cells [nV r,.sr (nx J) 0 1 (ks.length+1) none])).get b=J.get b:=gr;refine⟨J2,hap,(g2 a hal.2 hak).trans (h.w a hw),n2,?_,hg⟩;have hn:nx J<=nx (J2.set a (.cells [nV r,.sr (nx J) 0 1 (ks.length+1) none])):=gr;have ht:∀t b,t≠.kv->t≠.w->Y.loc t=some b->(J2.set a (.cells [nV r,.sr (nx J) 0 1 (ks.length+1) none])).get b=J.get b:=fun t b n1 n2 hta=>hg b (h.lo t b hta).2 (fun e=>n2 (h.inj t .w b hta gr)) fun e=>n1 (h.inj t .kv b hta e)
 have hb0:∀b,b<c.N0->(J2.set a (.cells [nV r,.sr (nx J) 0 1 (ks.length+1) none])).get b=J.get b:=fun b h1=>hg b (ak_ h1 h.ltn) Om fun e=>by have:=(h.lo .kv b e).1;omega
 have bk:∀t,t≠Pg.kv->({ Y with kv:=.sr (nx J) 0 1 (ks.length+1) none }:Px).loc t=Y.loc t:=fun t n=>by cases t<;>first|rfl|exact absurd rfl n
 have hM:=ok.M;have hl:=ok.lt
 refine⟨Ry (t0:=.kv) (N:=nx J) h.inj (fun t a q=>(h.lo t a q).2) bk (fun b q=>.inr (by cases q;grind)),fun t b q=>?_,h.pkb.of_get hn (fun b q=>hb0 b gr),h.pkl.of_get hn (hb0 _ h.pkl.lt.1) (fun b q=>ht .lv b (by simp) (by simp) q),h.rl.of_get hn (fun b q=>hb0 b (ok.rl b q).1),(ht .r1 _ (by simp) (by simp) rfl).trans h.r1,(ht .r2 _ (by simp) (by simp) rfl).trans h.r2,(ht .f _ (by simp) (by simp) rfl).trans h.f,h.nv.of_get hn (fun b q=>ht .nv b (by simp) (by simp) q),(ht .tot _ (by simp) (by simp) rfl).trans h.tot,fun b q=>(ht .nd b (by simp) (by simp) q).trans (h.nd b q),h.wv.of_get hn (fun b q=>ht .wv b (by simp) (by simp) q),fun b q=>?_,ho2.of_get gr (fun b q=>?_),ai_ h.blw.1 hn,fun b q=>(hb0 b Om).trans (h.blw.2 b q)⟩
 ·by_cases e:t=.kv
  ·subst e;cases q;grind
  ·rw[bk t e]at q;have:=h.lo t b q;omega
 ·grind
 ·cases q;grind
theorem PS.noway(h:PS c Y L total nodes s ws r ks J)(ok:Xe c)(hn:nx U=nx J)(hg:∀b,Y.w≠some b->adr Y.kv≠some b->U.get b=J.get b):PS c { Y with w:=none,kv:=nS } L total nodes s ws 0 [] U:=by
 have bk:∀t a,({ Y with w:=none,kv:=nS }:Px).loc t=some a->Y.loc t=some a/\t≠.w/\t≠.kv:=fun t a q=>by cases t<;>first|exact⟨q,by simp,by simp⟩|cases q
 have ht:∀t a,t≠.w->t≠.kv->Y.loc t=some a->U.get a=J.get a:=fun t a n1 n2 q=>hg a (fun e=>n1 (h.inj t .w a q e)) (fun e=>n2 (h.inj t .kv a q e))
 have hb0:∀b,b<c.N0->U.get b=J.get b:=fun b hb=>hg b (fun e=>by have:=(h.lo .w b e).1;omega) (fun e=>by have:=(h.lo .kv b e).1;omega)
 have hM:=ok.M;have hl:=ok.lt
 have hn':nx J<=nx U:=by omega
 exact⟨fun t u a q1 q2=>h.inj t u a (bk t a q1).1 (bk u a q2).1,fun t a q=>by have:=h.lo t a (bk t a q).1;omega,h.pkb.of_get hn' (fun b q=>hb0 b gr),h.pkl.of_get hn' (hb0 _ h.pkl.lt.1) (fun b q=>ht .lv b (by simp) (by simp) q),h.rl.of_get hn' (fun b q=>hb0 b (ok.rl b q).1),(ht .r1 _ (by simp) (by simp) rfl).trans h.r1,(ht .r2 _ (by simp) (by simp) rfl).trans h.r2,(ht .f _ (by simp) (by simp) rfl).trans h.f,h.nv.of_get hn' (fun b q=>ht .nv b (by simp) (by simp) q),(ht .tot _ (by simp) (by simp) rfl).trans h.tot,fun b q=>(ht .nd b (by simp) (by simp) q).trans (h.nd b q),h.wv.of_get hn' (fun b q=>ht .wv b (by simp) (by simp) q),fun b q=>(by cases q),.nil,ai_ h.blw.1 hn',fun b q=>(hb0 b Om).trans (h.blw.2 b q)⟩
theorem PS.nonode(h:PS c Y L total nodes s ws r ks J)(ok:Xe c)(hn:nx U=nx J)(hg:∀b,Y.nd≠some b->adr Y.wv≠some b->U.get b=J.get b)(s'):PS c { Y with nd:=none,wv:=nS } L total nodes s' [] r ks U:=by
 have bk:∀t a,({ Y with nd:=none,wv:=nS }:Px).loc t=some a->Y.loc t=some a/\t≠.nd/\t≠.wv:=fun t a q=>by cases t<;>first|exact⟨q,by simp,by simp⟩|cases q
 have ht:∀t a,t≠.nd->t≠.wv->Y.loc t=some a->U.get a=J.get a:=fun t a n1 n2 q=>hg a (fun e=>n1 (h.inj t .nd a q e)) (fun e=>n2 (h.inj t .wv a q e))
 have hb0:∀b,b<c.N0->U.get b=J.get b:=fun b hb=>hg b (fun e=>by have:=(h.lo .nd b e).1;omega) (fun e=>by have:=(h.lo .wv b e).1;omega)
 have hM:=ok.M;have hl:=ok.lt
 have hn':nx J<=nx U:=by omega
 exact⟨fun t u a q1 q2=>h.inj t u a (bk t a q1).1 (bk u a q2).1,fun t a q=>by have:=h.lo t a (bk t a q).1;omega,h.pkb.of_get hn' (fun b q=>hb0 b gr),h.pkl.of_get hn' (hb0 _ h.pkl.lt.1) (fun b q=>ht .lv b (by simp) (by simp) q),h.rl.of_get hn' (fun b q=>hb0 b (ok.rl b q).1),(ht .r1 _ (by simp) (by simp) rfl).trans h.r1,(ht .r2 _ (by simp) (by simp) rfl).trans h.r2,(ht .f _ (by simp) (by simp) rfl).trans h.f,h.nv.of_get hn' (fun b q=>ht .nv b (by simp) (by simp) q),(ht .tot _ (by simp) (by simp) rfl).trans h.tot,fun b q=>(by cases q),.nil,fun b q=>(ht .w b (by simp) (by simp) q).trans (h.w b q),h.kv.of_get hn' (fun b q=>ht .kv b (by simp) (by simp) q),ai_ h.blw.1 hn',fun b q=>(hb0 b Om).trans (h.blw.2 b q)⟩
theorem PS.way(h:PS c Y L total nodes s ws r ks J)(ok:Xe c){a}(hw:Y.nd=some a)(k)(bn:ws.length<=30000000):
  ∃J2,B6 J 2 32 Y.wv 1 (eWy k)=some (.sr (nx J) 0 2 (ws.length+1) none,J2)/\J2.get a=some (.cells [sV s.1,nV s.2.1,nV s.2.2,Y.wv])/\nx J2=nx J+1/\
   PS c { Y with wv:=.sr (nx J) 0 2 (ws.length+1) none } L total nodes s (ws++[k]) r ks (J2.set a (.cells [sV s.1,nV s.2.1,nV s.2.2,.sr (nx J) 0 2 (ws.length+1) none]))/\(∀b,b<nx J->b≠a->adr Y.wv≠some b->(J2.set a (.cells [sV s.1,nV s.2.1,nV s.2.2,.sr (nx J) 0 2 (ws.length+1) none])).get b=J.get b):=by
 obtain⟨J2,hap,n2,ho2,g2⟩:=dn_ (by':=32) Gq h.ltn h.wv k (by simp only[sizeLim];omega)
 have haw:Y.loc .nd=some a:=hw;have hal:=h.lo .nd a haw
 have hak:adr Y.wv≠some a:=fun e=>by cases h.inj .wv .nd a e haw
 generalize hC:AO.cells [sV s.1,nV s.2.1,nV s.2.2,.sr (nx J) 0 2 (ws.length+1) none]=C
 have hg:∀b,b<nx J->b≠a->adr Y.wv≠some b->(J2.set a C).get b=J.get b:=gr;refine⟨J2,hap,(g2 a hal.2 hak).trans (h.nd a hw),n2,?_,hg⟩;have hn:nx J<=nx (J2.set a C):=gr;have ht:∀t b,t≠.wv->t≠.nd->Y.loc t=some b->(J2.set a C).get b=J.get b:=fun t b n1 n2 hta=>hg b (h.lo t b hta).2 (fun e=>n2 (h.inj t .nd b hta gr)) fun e=>n1 (h.inj t .wv b hta e)
 have hb0:∀b,b<c.N0->(J2.set a C).get b=J.get b:=fun b h1=>hg b (ak_ h1 h.ltn) Om fun e=>by have:=(h.lo .wv b e).1;omega
 have bk:∀t,t≠Pg.wv->({ Y with wv:=.sr (nx J) 0 2 (ws.length+1) none }:Px).loc t=Y.loc t:=fun t n=>by cases t<;>first|rfl|exact absurd rfl n
 have hM:=ok.M;have hl:=ok.lt
 refine⟨Ry (t0:=.wv) (N:=nx J) h.inj (fun t a q=>(h.lo t a q).2) bk (fun b q=>.inr (by cases q;grind)),fun t b q=>?_,h.pkb.of_get hn (fun b q=>hb0 b gr),h.pkl.of_get hn (hb0 _ h.pkl.lt.1) (fun b q=>ht .lv b (by simp) (by simp) q),h.rl.of_get hn (fun b q=>hb0 b (ok.rl b q).1),(ht .r1 _ (by simp) (by simp) rfl).trans h.r1,(ht .r2 _ (by simp) (by simp) rfl).trans h.r2,(ht .f _ (by simp) (by simp) rfl).trans h.f,h.nv.of_get hn (fun b q=>ht .nv b (by simp) (by simp) q),(ht .tot _ (by simp) (by simp) rfl).trans h.tot,fun b q=>?_,ho2.of_get gr (fun b q=>?_),fun b q=>(ht .w b (by simp) (by simp) q).trans (h.w b q),h.kv.of_get hn (fun b q=>ht .kv b (by simp) (by simp) q),ai_ h.blw.1 hn,fun b q=>(hb0 b Om).trans (h.blw.2 b q)⟩
 ·by_cases e:t=.wv
  ·subst e;cases q;grind
  ·rw[bk t e]at q;have:=h.lo t b q;omega
 ·grind
 ·cases q;grind
theorem PS.node(h:PS c Y L total nodes s ws r ks J)(ok:Xe c)(k)(bn:nodes.length<=30000000):
  ∃J2,B6 J 4 56 Y.nv 1 (eNd k)=some (.sr (nx J) 0 4 (nodes.length+1) none,J2)/\J2.get Y.f=some (.cells [Y.nv])/\nx J2=nx J+1/\
   PS c { Y with nv:=.sr (nx J) 0 4 (nodes.length+1) none } L total (nodes++[k]) s ws r ks (J2.set Y.f (.cells [.sr (nx J) 0 4 (nodes.length+1) none])):=by
 obtain⟨J2,hap,n2,ho2,g2⟩:=dn_ (by':=56) Mw h.ltn h.nv k (by simp only[sizeLim];omega)
 have hal:=h.lo .f _ rfl
 have hak:adr Y.nv≠some Y.f:=fun e=>by cases h.inj .nv .f Y.f e rfl
 generalize hC:AO.cells [AV.sr (nx J) 0 4 (nodes.length+1) none]=C
 have hg:∀b,b<nx J->b≠Y.f->adr Y.nv≠some b->(J2.set Y.f C).get b=J.get b:=gr;refine⟨J2,hap,(g2 _ hal.2 hak).trans h.f,n2,?_⟩;have hn:nx J<=nx (J2.set Y.f C):=gr
 have ht:∀t b,t≠.nv->t≠.f->Y.loc t=some b->(J2.set Y.f C).get b=J.get b:=fun t b n1 n2 hta=>hg b (h.lo t b hta).2 (fun e=>n2 (h.inj t .f b hta (by rw[e];rfl))) fun e=>n1 (h.inj t .nv b hta e)
 have hb0:∀b,b<c.N0->(J2.set Y.f C).get b=J.get b:=fun b h1=>hg b (ak_ h1 h.ltn) Om fun e=>by have:=(h.lo .nv b e).1;omega
 have bk:∀t,t≠Pg.nv->({ Y with nv:=.sr (nx J) 0 4 (nodes.length+1) none }:Px).loc t=Y.loc t:=fun t n=>by cases t<;>first|rfl|exact absurd rfl n
 have hM:=ok.M;have hl:=ok.lt
 refine⟨Ry (t0:=.nv) (N:=nx J) h.inj (fun t a q=>(h.lo t a q).2) bk (fun b q=>.inr (by cases q;grind)),fun t b q=>?_,h.pkb.of_get hn (fun b q=>hb0 b gr),h.pkl.of_get hn (hb0 _ h.pkl.lt.1) (fun b q=>ht .lv b (by simp) (by simp) q),h.rl.of_get hn (fun b q=>hb0 b (ok.rl b q).1),(ht .r1 _ (by simp) (by simp) rfl).trans h.r1,(ht .r2 _ (by simp) (by simp) rfl).trans h.r2,gr,ho2.of_get gr (fun b q=>?_),(ht .tot _ (by simp) (by simp) rfl).trans h.tot,fun b q=>(ht .nd b (by simp) (by simp) q).trans (h.nd b q),h.wv.of_get hn (fun b q=>ht .wv b (by simp) (by simp) q),fun b q=>(ht .w b (by simp) (by simp) q).trans (h.w b q),h.kv.of_get hn (fun b q=>ht .kv b (by simp) (by simp) q),ai_ h.blw.1 hn,fun b q=>(hb0 b Om).trans (h.blw.2 b q)⟩
 ·by_cases e:t=.nv
  ·subst e;cases q;grind
  ·rw[bk t e]at q;have:=h.lo t b q;omega
 ·cases q;grind
theorem PS.tota(h:PS c Y L total nodes s ws r ks J)(ok:Xe c)(n):PS c Y L n nodes s ws r ks (J.set Y.tot (.cells [nV n])):=by
 have hal:=h.lo .tot _ rfl;have hn:nx J<=nx (J.set Y.tot (.cells [nV n])):=gr
 have ht:∀t b,t≠.tot->Y.loc t=some b->(J.set Y.tot (.cells [nV n])).get b=J.get b:=fun t b n1 hta=>by rw[aa_,if_neg (fun e=>n1 (h.inj t .tot b hta (by rw[e];rfl)))]
 have hb0:∀b,b<c.N0->(J.set Y.tot (.cells [nV n])).get b=J.get b:=gr;have hM:=ok.M;have hl:=ok.lt
 exact⟨h.inj,fun t b q=>by have:=h.lo t b q;grind,h.pkb.of_get hn (fun b q=>hb0 b gr),h.pkl.of_get hn (hb0 _ h.pkl.lt.1) (fun b q=>ht .lv b (by simp) q),h.rl.of_get hn (fun b q=>hb0 b (ok.rl b q).1),(ht .r1 _ (by simp) rfl).trans h.r1,(ht .r2 _ (by simp) rfl).trans h.r2,(ht .f _ (by simp) rfl).trans h.f,h.nv.of_get hn (fun b q=>ht .nv b (by simp) q),gr,fun b q=>(ht .nd b (by simp) q).trans (h.nd b q),h.wv.of_get hn (fun b q=>ht .wv b (by simp) q),fun b q=>(ht .w b (by simp) q).trans (h.w b q),h.kv.of_get hn (fun b q=>ht .kv b (by simp) q),ai_ h.blw.1 hn,fun b q=>(hb0 b Om).trans (h.blw.2 b q)⟩
theorem PS.nway(h:PS c Y L total nodes s ws 0 [] J)(ok:Xe c)(hw:Y.w=none)(hk:Y.kv=nS)(hn:nx U=nx J+1)(hg:∀b,b<nx J->U.get b=J.get b)(r)(hc:U.get (nx J)=some (.cells [nV r,nS])):PS c { Y with w:=some (nx J) } L total nodes s ws r [] U:=by
 have h':=h.news ok Om hg
 have bk:∀t,t≠Pg.w->({ Y with w:=some (nx J) }:Px).loc t=Y.loc t:=fun t n=>by cases t<;>first|rfl|exact absurd rfl n
 have hlt:=h.ltn
 refine⟨Ry (t0:=.w) (N:=nx J) h.inj (fun t a q=>(h.lo t a q).2) bk (fun b q=>.inr (by cases q;grind)),fun t b q=>?_,h'.pkb,h'.pkl,h'.rl,h'.r1,h'.r2,h'.f,h'.nv,h'.tot,h'.nd,h'.wv,fun b q=>?_,by rw[show({ Y with w:=some (nx J) }:Px).kv=Y.kv from rfl,hk];exact .nil,h'.blw⟩
 ·by_cases e:t=.w
  ·subst e;cases q;omega
  ·rw[bk t e]at q;exact h'.lo t b q
 grind
theorem PS.nnode(h:PS c Y L total nodes s [] r ks J)(ok:Xe c)(hw:Y.nd=none)(hk:Y.wv=nS)(hn:nx U=nx J+1)(hg:∀b,b<nx J->U.get b=J.get b)(s')(hc:U.get (nx J)=some (.cells [sV s'.1,nV s'.2.1,nV s'.2.2,nS])):PS c { Y with nd:=some (nx J) } L total nodes s' [] r ks U:=by
 have h':=h.news ok Om hg
 have bk:∀t,t≠Pg.nd->({ Y with nd:=some (nx J) }:Px).loc t=Y.loc t:=fun t n=>by cases t<;>first|rfl|exact absurd rfl n
 have hlt:=h.ltn
 refine⟨Ry (t0:=.nd) (N:=nx J) h.inj (fun t a q=>(h.lo t a q).2) bk (fun b q=>.inr (by cases q;grind)),fun t b q=>?_,h'.pkb,h'.pkl,h'.rl,h'.r1,h'.r2,h'.f,h'.nv,h'.tot,fun b q=>?_,by rw[show({ Y with nd:=some (nx J) }:Px).wv=Y.wv from rfl,hk];exact .nil,h'.w,h'.kv,h'.blw⟩
 ·by_cases e:t=.nd
  ·subst e;cases q;omega
  ·rw[bk t e]at q;exact h'.lo t b q
 grind
end
theorem Acu:∀(a b L:List Sp) (o:List Nat),True->Ct L (a++b) o=Ct (Ct L a o).2 b (Ct L a o).1
 |[],b,L,o,_=>rfl
 |x::a,b,L,o,_=>by
  show Ct (D2 L x).2 (a++b) (o++[(D2 L x).1])=_
  rw[Acu a b _ _ trivial];rfl
def FPk(c:Pc)(Y:Px)(aY:Nat):Nat->Prop:=fun b=>b=c.P∨b=c.mN∨b=aY∨∃t,Y.loc t=some b
structure Fx (Z Y:Px):Prop where
 r1:Y.r1=Z.r1
 r2:Y.r2=Z.r2
 f:Y.f=Z.f
 tot:Y.tot=Z.tot
 nd:Y.nd=Z.nd
structure IPk (c:Pc)(Z:Px)(nodes:List Nde)(s:Sp)(aY aK:Nat)(acc:Pk)(F:Nat->Prop)(U:Sto)(Y:Px):Prop where
 ps:PS c Y acc.list acc.total nodes s acc.ways 0 [] U
 fx:Fx Z Y
 w:Y.w=none
 kv:Y.kv=nS
 F:F=FPk c Y aY
 y:U.get aY=some (.loop .ready)
 dj:∀t a,Y.loc t=some a->a≠aY/\a≠aK
 lt:aY≠aK/\c.N0<=aY/\c.N0<=aK/\aY<nx U/\aK<nx U
 b1:acc.list.length<=4000
 b2:acc.total<=40000
 b3:acc.ways.length<=acc.total
def JPk(c:Pc)(Z:Px)(aY:Nat)(x:XE)(U:Sto):Prop:=x=.ret/\U.get aY=some (.loop (H2 .ret))/\U.get Z.r1=some (.cells [nS])/\U.get Z.r2=some (.cells [.bool false])/\Below c.M c.J0 U/\Z.r1≠aY/\Z.r2≠aY/\c.M<=aY
structure PRx (c:Pc)(Y:Px)(aY:Nat)(U:Sto)(Y':Px)(J:Sto):Prop where
 n:nx U<=nx J
 f:∀t a,Y'.loc t=some a->(∃u,Y.loc u=some a)∨nx U<=a
 g:∀b,b<nx U->b≠c.P->b≠c.mN->b≠aY->(∀t,Y.loc t≠some b)->J.get b=U.get b
 y:J.get aY=some (.loop .busy)
theorem PRx.step{c Y Y' Y'' aY U J υ}(h:PRx c Y aY U Y' J)(hP:c.P<c.N0/\c.mN<c.N0)(hy:c.N0<=aY/\aY<nx U/\∀t,Y.loc t≠some aY)(hn:nx J<=nx υ)(hf:∀t a,Y''.loc t=some a->(∃u,Y'.loc u=some a)∨nx J<=a)(hg:∀b,b<nx J->b≠c.P->b≠c.mN->(∀t,Y'.loc t≠some b)->υ.get b=J.get b):PRx c Y aY U Y'' υ:=by
 have key:∀b,b<nx U->(∀t,Y.loc t≠some b)->∀t,Y'.loc t≠some b:=fun b hb hn' t ht=>by
  rcases h.f t b ht with⟨u,hu⟩|hu
  ·exact hn' u hu
  ·omega
 refine⟨ai_ h.n hn,fun t a ht=>?_,fun b h1 h2 h3 h4 h5=>?_,?_⟩
 ·rcases hf t a ht with⟨u,hu⟩|hu
  ·grind
  ·exact .inr (ai_ h.n hu)
 ·rw[hg b (ak_ h1 h.n) h2 h3 (key b h1 h5),h.g b h1 h2 h3 h4 h5]
 ·rw[hg aY (ak_ hy.2.1 h.n) Om Om (key aY hy.2.1 hy.2.2)];exact h.y
def Pl(n:Nat)(l:List Sp):Prop:=∀x∈l,x.2.1<=n/\x.2.2<=n
theorem Alr{D text to n}(ht:to<=n):∀(ps:List Pt) (a:Nat) (K:List Sp),Pl n K->∀l∈wyP D text to ps a K,Pl n l
 |[],a,K,hK,l,h=>by
  unfold wyP at h
  grind
 |p::ps,a,K,hK,l,h=>by
  unfold wyP at h
  split at h
  ·cases h
  ·split at h
   ·exact Alr ht ps _ _ hK l h
   ·obtain⟨e,he,h⟩:=List.mem_flatMap.1 h
    split at h
    ·simp only[List.mem_range'_1]at he;refine Alr ht ps _ _ (fun x hx=>?_) l h
     rcases List.mem_or_eq_of_mem_set hx with hx|rfl
     ·exact hK x hx
     grind
    ·cases h
theorem Asq{g D text r a to n}(ht:to<=n):∀l∈Qx g D text r a to,Pl n l:=fun l h=>Alr ht _ _ _ (fun x hx=>by
 rw[List.eq_of_mem_replicate hx];exact⟨aq_ _,aq_ _⟩) l h
theorem Asr{n L s}(h:Pl n L)(hs:s.2.1<=n/\s.2.2<=n):Pl n (D2 L s).2:=by
 unfold D2
 split
 ·exact h
 ·intro x hx
  rcases bb_.1 hx with hx|hx
  ·exact h x hx
  grind
theorem Afp{n}:∀{l L:List Sp} {o:List Nat},Pl n L->Pl n l->Pl n (Ct L l o).2
 |[],_,_,h,_=>h
 |x::l,_,_,h,hl=>Afp (l:=l) (Asr h (hl x (ap_ ..))) fun y hy=>hl y (aj_ _ hy)
theorem Ap0{n x P Q}(h:Pl n P.list)(hx:Pl n x.2)(hw:F7 x P=some Q):Pl n Q.list:=by
 unfold F7 at hw
 split at hw
 ·cases hw
 ·cases hw;exact Afp h hx
theorem Ass{n r}:∀{l:List (List Sp)} {P Q:Pk},Pl n P.list->(∀x∈l,Pl n x)->foM (fun P l=>F7 (r,l) P) l P=some Q->Pl n Q.list
 |[],_,_,h,_,hq=>by cases hq;exact h
 |x::l,P,Q,h,hl,hq=>by
  rw[foM]at hq;cases hw:F7 (r,x) P with
  |none=>simp only[hw]at hq;cases hq
  |some P'=>simp only[hw]at hq;exact Ass (Ap0 h (hl x (ap_ ..)) hw) (fun y hy=>hl y (aj_ _ hy)) hq
theorem Ans{r}:∀{l:List (List Sp)} {P Q:Pk},foM (fun P l=>F7 (r,l) P) l P=some Q->P.list.length<=Q.list.length
 |[],_,_,hq=>by cases hq;grind
 |x::l,P,Q,hq=>by
  rw[foM]at hq;cases hw:F7 (r,x) P with
  |none=>simp only[hw]at hq;cases hq
  |some P'=>
   simp only[hw]at hq;refine ai_ ?_ (Ans hq);unfold F7 at hw
   split at hw
   ·cases hw
   ·cases hw;exact(Xa x P.list [] gr).2.1
theorem Ajt{r m}:∀{l:List (List Sp)} {P:Pk},Pj (l.map (fun x=>(r,x))++m) P=match foM (fun P l=>F7 (r,l) P) l P with|none=>none|some P'=>Pj m P'
 |[],P=>rfl
 |x::l,P=>by
  rw[cn_,ay_,Pj,foM];cases hw:F7 (r,x) P with
  |none=>simp only
  |some P'=>simp only;exact Ajt
theorem Aju{L}{K:List Sp}{i x}(h:K[i]? =some x):Ct L (K.take (i+1)) []=((Ct L (K.take i) []).1++[(D2 (Ct L (K.take i) []).2 x).1],(D2 (Ct L (K.take i) []).2 x).2):=by
 have e:K.take (i+1)=K.take i++[x]:=by rw[List.take_add_one,h];rfl
 rw[e,Acu _ _ _ _ trivial];rfl
theorem Acv{L}:∀{K:List Sp} {o:List Nat},(Ct L K o).2.length<=L.length+K.length/\(Ct L K o).1.length=o.length+K.length
 |[],o=>⟨nl,rfl⟩
 |x::K,o=>by
  have h1:(D2 L x).2.length<=L.length+1:=by unfold D2;split<;>simp
  obtain⟨h2,h3⟩:=Acv (L:=(D2 L x).2) (K:=K) (o:=o++[(D2 L x).1]);refine⟨?_,?_⟩
  ·show(Ct (D2 L x).2 K (o++[(D2 L x).1])).2.length<=_
   grind
  ·show(Ct (D2 L x).2 K (o++[(D2 L x).1])).1.length=_
   grind
end Go.AM
