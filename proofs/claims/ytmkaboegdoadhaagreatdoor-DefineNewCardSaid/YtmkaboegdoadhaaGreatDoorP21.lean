/- A part of the proof; shortened by program. -/
import Derived.Test.YtmkaboegdoadhaaGreatDoorP20
set_option maxRecDepth 100000
set_option maxHeartbeats 4000000
set_option linter.unusedSimpArgs false
set_option linter.unusedVariables false
namespace Go.AM
open Go Go.Proofs
theorem f151{g:Gr}{text:List Str}{N:Nat}{X:Cp}{S:Ch}{σ:Sto}(h:ChS g text N X S σ)(bn:S.sets.length<=1000000):Al Ew 151 [.pr X.c 0] σ fun _ σ'=>∃X',ChS g text N X' S.open' σ'/\Lk X σ X' σ':=by
 have hN:=h.lo .c _ rfl;have hlv:=h.lv;have hlm:=h.lm
 have hcS:adr X.vS≠some X.c:=fun e=>by cases h.inj .s .c X.c e rfl
 have hcI:adr X.vI≠some X.c:=fun e=>by cases h.inj .i .c X.c e rfl
 obtain⟨σ1,qm,n1,ho1,g1⟩:=dn_ (by':=24) O0 Om h.sets nS (by simp only[sizeLim];omega)
 have hc1:=(g1 X.c hN.2 hcS).trans h.cl
 generalize hσ2:σ1.set X.c (.cells [Af g.sorts,slV eR 4 g.rules,.mp X.mR,Af text,.sr (nx σ) 0 1 (X.vals.length+1) none,X.vI,.mp X.mD])=σ2
 have n2:nx σ2=nx σ+1:=by rw[←hσ2,Aq,n1]
 have hc2:σ2.get X.c=some (.cells [Af g.sorts,slV eR 4 g.rules,.mp X.mR,Af text,.sr (nx σ) 0 1 (X.vals.length+1) none,X.vI,.mp X.mD]):=by rw[←hσ2,aa_,if_pos rfl]
 have g2:∀c,c≠X.c->σ2.get c=σ1.get c:=fun c hc=>by rw[←hσ2,aa_,if_neg hc]
 obtain⟨σ3,hσ3⟩:∃σ3,σ2.new (.map 351 [] 0)=σ3:=⟨_,rfl⟩
 have n3:nx σ3=nx σ+2:=by rw[←hσ3,Ao,n2]
 have g3:∀c,c<nx σ2->σ3.get c=σ2.get c:=fun c hc=>by rw[←hσ3,ag_,if_neg Om]
 have hm3:σ3.get (nx σ2)=some (.map 351 [] 0):=by rw[←hσ3,ag_,if_pos rfl]
 have jo:∀a,adr X.vI=some a->a<nx σ:=fun a ha=>(h.lo .i a ha).2
 have hSI:∀a,adr X.vI=some a->adr X.vS≠some a:=fun a ha e=>by cases h.inj .s .i a e ha
 have hI3:Own σ3 N eMp 1 X.ms X.vI:=h.is.of_get Om fun a ha=>by
  have:=jo a ha
  rw[g3 a Om,g2 a (fun e=>hcI (by rw[ha,e])),g1 a this (hSI a ha)]
 obtain⟨σ4,nk,n4,ho4,g4⟩:=dn_ (by':=8) Z6 Om hI3 (nx σ2) (by simp only[sizeLim];omega)
 have e34:nx σ3=nx σ2+1:=by omega
 rw[e34]at nk ho4 n4 g4;have hc4:=(g4 X.c Om hcI).trans ((g3 X.c Om).trans hc2)
 have hS4:Own σ4 N eV 1 (X.vals++[nS]) (.sr (nx σ) 0 1 (X.vals.length+1) none):=ho1.of_get Om fun a ha=>by
  cases ha
  rw[g4 _ Om (fun e=>by have:=jo _ e;omega),g3 _ Om,g2 _ Om]
 have dk:=h.openS (m:=nx σ2) (b:=nx σ2+1) (τ:=σ4.set X.c (.cells ((X.more (nx σ) (nx σ2) (nx σ2+1)).cells g text))) Om Om (by rw[Aq];omega) (by rw[aa_,if_pos rfl])
  (hS4.of_get (by rw[Aq];exact nl) fun a ha=>by cases ha;rw[aa_,if_neg Om])
  (ho4.of_get (by rw[Aq];exact nl) fun a ha=>by cases ha;rw[aa_,if_neg Om])
  ⟨0,by rw[aa_,if_neg Om,g4 _ Om (fun e=>by have:=jo _ e;omega)];exact hm3⟩
  (fun c hc h1 h2 h3=>by rw[aa_,if_neg h1,g4 c Om h3,g3 c Om,g2 c h1,g1 c hc h2])
 refine Aj Tryz.func151 rfl rfl fun hw hu0=>?_
 refine G6 ?_;refine O1 (lO h.cl) (Cx (Ai elC byW rfl rfl rfl) (Dv (len:=1)) rfl rfl (O1 (Av elC rfl slC rfl rfl rfl (new:=eV nS) rfl qm) ?_));refine G2 ?_;refine O1 (sO (cs':=[Af g.sorts,slV eR 4 g.rules,.mp X.mR,Af text,.sr (nx σ) 0 1 (X.vals.length+1) none,X.vI,.mp X.mD]) hc1) ?_;refine G ?_;rw[hσ2];refine Asl ?_;refine G5 ?_;refine O1 (lO hc2) (O1 (Gx Am3) ?_);rw[hσ3];refine Cx (Ai elC byW rfl rfl rfl) (Dv (len:=1)) rfl rfl (O1 (Av elC rfl slC rfl rfl rfl (new:=eMp (nx σ2)) rfl nk) ?_);refine G2 ?_;refine O1 (sO (cs':=(X.more (nx σ) (nx σ2) (nx σ2+1)).cells g text) hc4) ?_;refine G ?_;intro hw5
 exact⟨[],rfl,_,_,a_ hw5 nl (fun _ _=>rfl),by rw[Aq];omega,.same rfl,_,dk.1,dk.2⟩
section
variable {g:Gr}{text:List Str}{N:Nat}{X:Cp}{S:Ch}{σ:Sto}
theorem Acn(s:Sp):D4 Ew.P 232 (.agg (eSp s))=some (KE.k (sk s)):=by
 obtain⟨a,b,c⟩:=s
 kernel_rfl
theorem ChS.doneS(h:ChS g text N X S σ){s:Sp}{M:GM Kk Bool}{ver:Nat}(hMx:∀y,(y∈S.done->M.get (sk y)=some true)/\(y∉S.done->M.get (sk y)=none)):
  ChS g text N X { S with done:=s::S.done } (σ.set X.mD (.map 232 (Hi bE (M.put (sk s) true)) ver))/\Lk X σ X (σ.set X.mD (.map 232 (Hi bE (M.put (sk s) true)) ver)):=by
 have oth:∀t a,X.loc t=some a->t≠.d->(σ.set X.mD (.map 232 (Hi bE (M.put (sk s) true)) ver)).get a=σ.get a:=fun t a ht n=>by
  rw[aa_,if_neg (fun e=>n (h.inj t .d a ht (by rw[e];rfl)))]
 refine⟨⟨h.inj,fun t a ht=>by rw[Aq];exact h.lo t a ht,(oth .c _ rfl (by simp)).trans h.cl,h.sets.of_get (by rw[Aq];exact nl) fun a ha=>oth .s a ha (by simp),h.is.of_get (by rw[Aq];exact nl) fun a ha=>oth .i a ha (by simp),h.lv,h.lm,fun k l u hl hu=>?_,fun k l u hl hu=>(h.mps k l u hl hu).of_get (oth (.m k) u hu (by simp)),?_⟩,⟨rfl,rfl,rfl,by rw[Aq];exact nl,fun t a ht=>.inl ⟨t,ht⟩,fun b hb hn=>by rw[aa_,if_neg (fun e=>hn .d (by rw[e];rfl))]⟩⟩
 ·exact(h.vals k l u hl hu).of_get (by rw[Aq];exact nl) fun a ha=>oth (.v k) a (by show(X.vals[k]?).bind adr=_;rw[hu];exact ha) (by simp)
 ·refine⟨M.put (sk s) true,⟨ver,by rw[aa_,if_pos rfl]⟩,fun y=>?_⟩
  rw[fp_]
  by_cases hy:y=s
  ·subst hy;simp
  ·rw[if_neg (fun e=>hy (Ask.1 e))]
   refine⟨fun hh=>(hMx y).1 ?_,fun hh=>(hMx y).2 fun h'=>hh (aj_ _ h')⟩
   rcases an_.1 hh with hh|hh
   ·exact absurd hh hy
   ·exact hh
end
theorem Qz{j k:Nat}:∀{l:List It} {S:Ch},(S.set k).length<=((S.adds j l).set k).length
 |[],_=>nl
 |x::l,S=>by
  show _<=(((S.add j x).adds j l).set k).length
  exact ai_ Ts Qz
theorem Aco{g:Gr}{s:Sp}{k:Nat}:∀{f i:Nat} {S:Ch},(S.set k).length<=((adv g s f i S).set k).length
 |0,_,_=>nl
 |f+1,i,S=>by
  unfold adv
  split
  ·exact nl
  ·exact ai_ Yd Aco
theorem Ajq{g:Gr}{n j k:Nat}{x:It}{S:Ch}:(S.set k).length<=((Dj g n j x S).set k).length:=by
 unfold Dj
 split
 ·split
  ·exact nl
  ·show(({ S with done:=(rSo g x.1,x.2.2,j)::S.done }:Ch).set k).length<=_
   exact Aco
 ·split
  ·exact nl
  ·split
   ·exact ai_ Qz Ts
   ·exact Qz
theorem Acp{ρ:Ad}{σ:Sto}{Rr:Rec}{t kt sz r:Nat}{x y:Operand}{u:AV}{κ:Type}[DecidableEq κ][KE κ]{m:GM κ Bool}{k:κ}(hi:mpI Ew.P t=some (kt,.bool false,sz,false))(hx:Ah Ew ρ x=some (.mp r))(hm:GAt kt bE σ r m)(hy:Ah Ew ρ y=some u)(hk:D4 Ew.P kt u=some (KE.k k)):
  As Ew Rr (.lookup t x y false) ρ σ (.bool ((m.get k).getD false)) σ:=by
 have:=Amz (Rr:=Rr) hi hx hm hy hk
 have e:((m.get k).map bE).getD (.bool false)=.bool ((m.get k).getD false):=by cases m.get k<;>rfl
 grind
theorem Afo{j:Nat}:∀{l:List It} {S:Ch},(S.adds j l).done=S.done
 |[],_=>rfl
 |x::l,S=>by show((S.add j x).adds j l).done=_;rw[Afo,gn_]
theorem Asm{g:Gr}{j n:Nat}(h:j<=n):Cu g j<=Cu g n:=Nat.mul_le_mul_left _ (Nat.mul_le_mul_left _ (Nat.succ_le_succ h))
theorem f153{g:Gr}{text:List Str}{N n:Nat}{X:Cp}{S:Ch}{σ:Sto}{rv:SM AV}(h:ChS g text N X S σ)(hr:RlS g rv X σ)(hok:Gj g S){j:Nat}(hj:j<S.sets.length)(hn:S.sets.length<=n+1)(hb:Cu g n<=30000000)(hR:g.rules.length<=1000000):Al Ew 153 [.pr X.c 0,nV j] σ fun _ σ'=>∃X',ChS g text N X' (cls g n j (Cu g n+1) 0 S) σ'/\Lk X σ X' σ':=by
 refine Aj Tryz.func153 rfl rfl fun hw hu0=>?_
 refine G5 ?_;refine Ci (fun q:Nat×Ch=>[(0,.pr X.c 0),(1,nV j),(4,nV q.1)]) (fun q σ0=>∃Y,ChS g text N Y q.2 σ0/\Lk X σ Y σ0/\Gj g q.2/\q.2.sets.length=S.sets.length/\q.1<=(q.2.set j).length/\q.1<=Cu g n/\cls g n j (Cu g n+1-q.1) q.1 q.2=cls g n j (Cu g n+1) 0 S) (fun q=>Cu g n+1-q.1) (0,S) SL ⟨X,h,Lk.refl _ _,hok,rfl,aq_ _,aq_ _,rfl⟩ ?_
 rintro⟨i0,T0⟩ σ0 ⟨Y,hY,hL,cq,hlT,hi0,hib,hfu⟩;have hlT:T0.sets.length=S.sets.length:=hlT;have hi0:i0<=(T0.set j).length:=hi0;have hib:i0<=Cu g n:=hib;have hfu:cls g n j (Cu g n+1-i0) i0 T0=cls g n j (Cu g n+1) 0 S:=hfu;have hY:ChS g text N Y T0 σ0:=hY;have cq:Gj g T0:=cq
 have hj1:j<T0.sets.length:=by omega
 obtain⟨l,hl⟩:=Ar hj1
 obtain⟨v,hv⟩:=Ar (show j<Y.vals.length by rw[hY.lv];exact hj1)
 have hvl:=(ae_.1 hv).1;have cd:=ej_ hl;rw[cd]at hi0;have bf:=hY.vals _ l v hl hv;obtain⟨aS,tS,_,zS2,hvS,hgS⟩:=hY.sets.sr hvl
 have hcl:σ0.get X.c=some (.cells [Af g.sorts,slV eR 4 g.rules,.mp Y.mR,Af text,.sr aS 0 1 Y.vals.length none,Y.vI,.mp Y.mD]):=by rw[←hvS,←hL.c];exact hY.cl
 have hlb:l.length<=Cu g n:=by have:=(cq.set (j:=j)).bound (n:=n) Om;grind
 have hv1:∀r,Cz 1 false (eV v++r)=some v:=fun r=>by
  rcases bf with⟨_,rfl|rfl⟩|⟨a,tl,_,_,rfl,_⟩<;>rfl
 refine G7 ?_;refine O1 (lO hcl) ?_;refine G ?_;refine O1 (Br elC rfl rfl hvl) (O1 (Dg O0 ldC rfl hgS hv hv1) (O1 (Bf slC rfl bf.lenA.1 bf.lenA.2) ?_));refine G2 ?_;refine Ab rfl ?_ ?_<;>intro h1
 ·have bc:i0<l.length:=gr;obtain⟨x,hx⟩:=Ar bc;obtain⟨a,tl,_,_,hva,hga⟩:=bf.sr bc
  have hxo:Vm g j x:=cq _ l hl|>.2 x (au_.2 ⟨_,hx⟩)
  obtain⟨MD,⟨vD,hMD⟩,dh⟩:=hY.done;have hst:=Ack (n:=n) (x:=x) cq hxo
  have dt:cls g n j (Cu g n+1-(i0+1)) (i0+1) (Dj g n j x T0)=cls g n j (Cu g n+1) 0 S:=by
   rw[←hfu,show Cu g n+1-i0=(Cu g n+1-(i0+1))+1 by omega]
   simp only[cls,cd,hx]
  have hnl:i0+1<=((Dj g n j x T0).set j).length:=by
   have:=Ajq (g:=g) (n:=n) (j:=j) (x:=x) (S:=T0) (k:=j)
   grind
  refine G8 ?_;refine O1 (lO hcl) ?_;refine G ?_;refine O1 (Br elC rfl rfl hvl) (O1 (Dg O0 ldC rfl hgS hv hv1) ?_);refine G ?_;refine O1 (Br elC (show _=some (AV.sr a 0 3 l.length none)from congrArg some hva) rfl bc) (O1 (Dg Rx ldC rfl hga hx fun _=>rfl) ?_)
  refine G6 ?_;refine Ca (show Al Ew 188 [.pr X.c 0,itV x] σ0 _ from f188 g X.c j x _ σ0 hcl hxo) ?_
  refine G3 ?_;refine Ho ziC ldC rfl (fun _=>rfl) rfl (A7 (Ahg _)) rfl rfl ?_
  refine G9 ?_;refine Ab rfl ?_ ?_<;>intro h2
  ·have hn0:nxI g x=none:=by cases hh:nxI g x with|none=>rfl|some p=>rw[hh]at h2;simp at h2
   obtain⟨r,hr0⟩:=Ar hxo.1
   have hso:rSo g x.1=r.sort:=by unfold rSo;rw[hr0]
   obtain⟨s0,hs0⟩:∃s0:Sp,(r.sort,x.2.2,j)=s0:=⟨_,rfl⟩
   have hsE:eSp s0=[sV r.sort,nV x.2.2,nV j]:=by rw[←hs0];rfl
   refine Gz 8 [.str [],.int .i64 0,.int .i64 0] (eSp s0) [] rfl rfl (fun hw0=>?_) ?_
   ·refine XX 1 (l:=[]) trivial ?_;refine G4 ?_
    refine DF (lO hcl) (DF (Bp Ii rfl rfl (by decide) rfl) ?_)
    refine G4 ?_
    refine DF (Bp Ii rfl rfl (by decide) rfl) ?_
    refine G3 ?_
    refine DT (Bu ziC) (DT (G1 (cs:=[.str [],.int .i64 0,.int .i64 0]) (cs':=eSp s0) gr ldC rfl rfl rfl (by rw[hsE];rfl)) ?_)
    refine G ?_
    exact⟨(by intro e he;simp at he;rcases he with rfl|rfl<;>first|exact .refl|exact K4 hw0),trivial,sb,rfl,rfl⟩
   refine G2 ?_;refine X0 ?_;refine G3 ?_;refine DF (lO hcl) ?_;refine G ?_;refine DF (Acp Va rfl ⟨vD,hMD⟩ rfl (Acn s0)) ?_;refine G ?_;refine⟨rfl,rfl,?_⟩;refine Ab rfl ?_ ?_<;>intro h3
   ·have hin:s0∈T0.done:=Classical.byContradiction gr
    have eS:Dj g n j x T0=T0:=by unfold Dj;grind
    refine G6 ?_;refine⟨(i0+1,Dj g n j x T0),gr,SL,Y,gr,hL,hst.ok,hst.len.trans hlT,hnl,gr,dt⟩
   ·have hin:s0∉T0.done:=gr
    have eS:Dj g n j x T0=adv g s0 (Cu g n+1) 0 { T0 with done:=s0::T0.done }:=by unfold Dj;grind
    obtain⟨hD1,hD2⟩:=hY.doneS (s:=s0) (ver:=vD+1) dh
    have hs1:s0.2.1<=s0.2.2:=by rw[←hs0];exact hxo.2.2
    have hs2:s0.2.2=j:=by rw[←hs0]
    refine G2 ?_;refine XS (l:=[]) trivial ?_;refine G3 ?_;refine DF (lO hcl) ?_;refine G ?_
    refine DT (K7 (v:=true) Va rfl hMD rfl (Acn s0) rfl (fun te h1 h2=>by simp[Je,h1,h2])) ?_
    refine G4 ?_;refine Az rfl rfl rfl rfl (show Al Ew 189 [.pr X.c 0,.agg (eSp s0)] _ _ from hL.c▸f189 hD1 s0 cq hs1 gr gr hb) ?_
    rintro u1 σ1 ⟨Z,hZ,hLZ⟩;refine G6 ?_;refine⟨(i0+1,Dj g n j x T0),gr,SL,Z,gr,hL.trans (hD2.trans hLZ),hst.ok,hst.len.trans hlT,hnl,gr,dt⟩
  ·obtain⟨p,hp⟩:∃p,nxI g x=some p:=by cases hh:nxI g x with|none=>rw[hh]at h2;simp at h2|some p=>exact⟨p,rfl⟩
   have hbx:x.2.1<=30000000:=ai_ (ai_ hxo.2.1 W9) (ai_ (Alo hxo.1) hb)
   have hnS:nxS (nxI g x)=p.sort:=by rw[hp];rfl
   have hbj:Cu g j<=30000000:=ai_ (Asm Om) hb;refine G3 ?_;refine O1 (Ac ldC rfl rfl (Nt _)) (O1 (Ko (q:=[]) okC rfl rfl) ?_);refine G2 ?_;refine Ab rfl ?_ ?_<;>intro h3
   ·have hne:p.sort≠[]:=gr;refine G4 ?_;refine O1 (Ac ldC rfl rfl (Nt _)) ?_;refine G ?_;refine Az rfl rfl rfl rfl (show Al Ew 152 [.pr X.c 0,sV (nxS (nxI g x)),nV j] σ0 _ from hL.c▸f152 hY (hr.lk hL) _ hj1 cq hbj hR) ?_
    rintro u1 σ1 ⟨Z,hZ,hLZ⟩;obtain⟨ME,⟨vE,hME⟩,hMEx⟩:=hZ.done
    have qp:σ1.get X.c=some (.cells (Z.cells g text)):=by rw[←(hL.trans hLZ).c];exact hZ.cl
    have hdZ:(T0.pred g (nxS (nxI g x)) j).done=T0.done:=Afo;refine G2 ?_;refine X0 ?_;refine G3 ?_;refine DF (lO qp) ?_;refine G ?_;refine DF (Ac ldC rfl rfl (Nt _)) ?_;refine G3 ?_;refine DF (Acp Va rfl ⟨vE,hME⟩ rfl (Acn (nxS (nxI g x),j,j))) ?_;refine G ?_;refine⟨rfl,rfl,?_⟩;refine Ab rfl ?_ ?_<;>intro h4
    ·have hin:(p.sort,j,j)∈(T0.pred g p.sort j).done:=Classical.byContradiction gr
     have eS:Dj g n j x T0=(T0.pred g p.sort j).add j (upI x):=by unfold Dj;grind
     rw[hnS]at hZ;have ib:Gj g (T0.pred g p.sort j):=cq.adds Vn;refine G3 ?_
     refine O1 (Bp Ii rfl rfl (by decide) rfl) ?_
     refine G ?_
     refine O1 (Bp Ii rfl rfl (by decide) rfl) ?_
     refine G2 ?_
     refine O1 (Bp Ii rfl rfl (by decide) rfl) ?_
     refine G ?_
     refine O1 (G0 Anl Ii rfl rfl) (Az rfl rfl rfl rfl (show Al Ew 187 [.pr X.c 0,nV j,itV (upI x)] σ1 _ from(hL.trans hLZ).c▸f187 hZ (upI x) (by show j<(T0.adds j _).sets.length;rw[dx_];exact hj1) (ai_ ((ib.set (j:=j)).bound (n:=n) Om) hb)) ?_)
     rintro u2 σ2 ⟨V,hV,hLV⟩;refine G6 ?_;refine⟨(i0+1,Dj g n j x T0),gr,SL,V,gr,(hL.trans hLZ).trans hLV,hst.ok,hst.len.trans hlT,hnl,gr,dt⟩
    ·have hin:(p.sort,j,j)∉T0.done:=gr
     have eS:Dj g n j x T0=T0.pred g p.sort j:=by unfold Dj;grind
     rw[hnS]at hZ;refine G6 ?_;refine⟨(i0+1,Dj g n j x T0),gr,SL,Z,gr,hL.trans hLZ,hst.ok,hst.len.trans hlT,hnl,gr,dt⟩
   ·have he:p.sort=[]:=gr
    have eS:Dj g n j x T0=T0:=by unfold Dj;grind
    refine G6 ?_;refine⟨(i0+1,Dj g n j x T0),gr,SL,Y,gr,hL,hst.ok,hst.len.trans hlT,hnl,gr,dt⟩
 ·have bj:l.length<=i0:=gr
  have ma:T0=cls g n j (Cu g n+1) 0 S:=by
   rw[←hfu,show Cu g n+1-i0=(Cu g n-i0)+1 by omega]
   simp only[cls,cd,List.getElem?_eq_none_iff.2 bj]
  refine Bo fun hw0=>?_
  refine G ?_;exact⟨[],rfl,_,_,a_ hw0 nl (fun _ _=>rfl),hL.n,.same rfl,Y,gr,hL⟩
theorem ChS.below{g:Gr}{text:List Str}{N:Nat}{X:Cp}{S:Ch}{σ τ:Sto}(h:ChS g text N X S σ)(hB:Below (nx σ) σ τ):ChS g text N X S τ:=by
 have g0:∀t a,X.loc t=some a->τ.get a=σ.get a:=fun t a ht=>hB.2 a (h.lo t a ht).2
 refine⟨h.inj,fun t a ht=>⟨(h.lo t a ht).1,ak_ (h.lo t a ht).2 hB.1⟩,(g0 .c _ rfl).trans h.cl,h.sets.of_get hB.1 fun a ha=>g0 .s a ha,h.is.of_get hB.1 fun a ha=>g0 .i a ha,h.lv,h.lm,fun k l u hl hu=>(h.vals k l u hl hu).of_get hB.1 fun a ha=>g0 (.v k) a (by show(X.vals[k]?).bind adr=_;grind),fun k l u hl hu=>(h.mps k l u hl hu).of_get (g0 (.m k) u hu),h.done.of_get (g0 .d _ rfl)⟩
theorem Lk.below{g:Gr}{text:List Str}{N:Nat}{X:Cp}{S:Ch}{σ τ:Sto}(h:ChS g text N X S σ)(hB:Below (nx σ) σ τ):Lk X σ X τ:=⟨rfl,rfl,rfl,hB.1,fun t a ht=>.inl ⟨t,ht⟩,fun b hb _=>hB.2 b hb⟩
theorem Asn{g:Gr}{l:List It}{sym:Str}:(Ma g l sym).length<=l.length:=List.length_filterMap_le _ _
theorem Aps{g:Gr}{l:List It}{sym:Str}{i:Nat}{x:It}(h:l[i]? =some x):Ma g (l.take (i+1)) sym=Ma g (l.take i) sym++(Ahd g sym x).toList:=by
 have e:l.take (i+1)=l.take i++[x]:=by rw[List.take_add_one,h];rfl
 unfold Ma
 grind
theorem Apt{g:Gr}{sym:Str}{x y:It}(h:Ahd g sym x=some y):y=upI x/\∃p,nxI g x=some p:=by
 unfold Ahd at h
 grind
def nxY:Option Pt->Str
 |some p=>p.symbol
 |none=>[]
theorem Au1(o:Option Pt):Cz 1 false ((nxC o).drop 0)=some (sV (nxY o)):=by cases o<;>rfl
theorem Ano{g:Gr}{sym:Str}{x:It}:(Ahd g sym x).isSome=((nxI g x).isSome&&decide (nxS (nxI g x)=[])&&decide (nxY (nxI g x)=sym)):=by
 unfold Ahd;cases nxI g x with
 |none=>rfl
 |some p=>
  show(if p.sort=[]/\p.symbol=sym then some (upI x)else none).isSome=(true&&decide (p.sort=[])&&decide (p.symbol=sym))
  by_cases h1:p.sort=[]<;>by_cases h2:p.symbol=sym<;>simp[h1,h2]
theorem Apu{g:Gr}{n:Nat}:Cu g n<=Cu g (n+1):=Nat.mul_le_mul_left _ (Nat.mul_le_mul_left _ Om)
theorem f154{g:Gr}{text:List Str}{N:Nat}{X:Cp}{S:Ch}{σ:Sto}(h:ChS g text N X S σ){j:Nat}(hj:S.sets.length=j+1)(hjt:j<text.length)(hok:Gj g S)(hb1:Cu g (j+1)<=30000000)(bn:S.sets.length<=1000000):Al Ew 154 [.pr X.c 0,nV j] σ fun v σ'=>match S.scan g text j with
  |none=>v=.bool false/\∃X',ChS g text N X' S σ'/\Lk X σ X' σ'
  |some U=>v=.bool true/\∃X',ChS g text N X' U σ'/\Lk X σ X' σ':=by
 obtain⟨sym,htx⟩:=Ar hjt;have np:text.getD j []=sym:=gr;have hb:Cu g j<=30000000:=ai_ Apu hb1
 obtain⟨l,hl⟩:=Ar (show j<S.sets.length by omega)
 obtain⟨v,hv⟩:=Ar (show j<X.vals.length by rw[h.lv];omega)
 have hvl:=(ae_.1 hv).1;have bf:=h.vals _ l v hl hv;obtain⟨aS,tS,_,zS2,hvS,hgS⟩:=h.sets.sr hvl
 have hcl:σ.get X.c=some (.cells [Af g.sorts,slV eR 4 g.rules,.mp X.mR,Af text,.sr aS 0 1 X.vals.length none,X.vI,.mp X.mD]):=by rw[←hvS];exact h.cl
 have hlb:l.length<=30000000:=ai_ ((hok _ l hl).bound (n:=j) nl) hb
 have hv1:∀r,Cz 1 false (eV v++r)=some v:=fun r=>by
  rcases bf with⟨_,rfl|rfl⟩|⟨a,tl,_,_,rfl,_⟩<;>rfl
 refine Aj Tryz.func154 rfl rfl fun hw hu0=>?_
 iterate 14 refine G ?_
 refine O1 (lO hcl) ?_;refine G ?_;refine O1 (Br elC rfl rfl hvl) (O1 (Dg O0 ldC rfl hgS hv hv1) (O1 (Bf slC rfl bf.lenA.1 bf.lenA.2) ?_));refine G3 ?_;refine Ci (fun q:Nat×AV=>[(0,.pr X.c 0),(1,nV j),(5,q.2),(18,v),(19,nV l.length),(20,nV q.1)]) (fun q σ0=>q.1<=l.length/\Below (nx σ) σ σ0/\Own σ0 (nx σ) eIt 3 (Ma g (l.take q.1) sym) q.2) (fun q=>l.length-q.1) (0,nS) SL ⟨aq_ _,fn_,.nil⟩ ?_
 rintro⟨i0,u⟩ σ0 ⟨hi0,hB0,c9⟩;have hi0:i0<=l.length:=hi0;have hB0:Below (nx σ) σ σ0:=hB0;have hY:ChS g text N X S σ0:=h.below hB0;have hul:(Ma g (l.take i0) sym).length<=30000000:=ai_ Asn (ai_ gr hlb);have c9:Own σ0 (nx σ) eIt 3 (Ma g (l.take i0) sym) u:=c9;refine G5 ?_;refine Ab rfl ?_ ?_<;>intro h1
 ·have bc:i0<l.length:=gr;obtain⟨x,hx⟩:=Ar bc;obtain⟨a,tl,_,_,hva,hga⟩:=(hY.vals _ l v hl hv).sr bc;have hxo:Vm g j x:=(hok _ l hl).2 x (au_.2 ⟨_,hx⟩);have htk:=Aps (g:=g) (sym:=sym) hx;have nq:σ0.get X.c=_:=hY.cl;refine G5 ?_;refine O1 (Br elC (show _=some (AV.sr a 0 3 l.length none)from congrArg some hva) rfl bc) (O1 (Dg Rx ldC rfl hga hx fun _=>rfl) ?_)
  refine G6 ?_;refine Ca (show Al Ew 188 [.pr X.c 0,itV x] σ0 _ from f188 g X.c j x _ σ0 nq hxo) ?_
  refine G3 ?_;refine Ho ziC ldC rfl (fun _=>rfl) rfl (A7 (Ahg _)) rfl rfl ?_
  refine G2 ?_;refine Gg [(47,.bool ((nxI g x).isSome&&decide (nxS (nxI g x)=[])&&decide (nxY (nxI g x)=sym)))] ?_ ?_
  ·rcases av_ ((nxI g x).isSome)with hg1|hg1
   ·rcases av_ (decide (nxS (nxI g x)=[]))with hg6|hg6
    ·refine X0 ?_;refine G3 ?_;refine Xn (Ac ldC rfl rfl (Nt _)) ?_;refine G4 ?_;refine Xn (Ac ldC rfl rfl (Au1 _)) ?_;refine G3 ?_;refine Xn (lO nq) ?_;refine G6 ?_;exact⟨rfl,rfl,⟨⟨Cb,trivial⟩,sb,rfl⟩⟩
    ·refine X0 ?_;refine G3 ?_;refine Xn (Ac ldC rfl rfl (Nt _)) ?_;refine Wn (w:=R2 hg6 hg1) (H5 (q:=[]) okC rfl rfl) (DF (A3 rfl (R2 hg6 hg1) rfl) (DF (Ag rfl) (Wx (w:=R2 hg6 hg1) (Wx (w:=R2 hg6 hg1) (Wx (w:=R2 hg6 hg1) (Wx (w:=R2 hg6 hg1) (Wx (w:=R2 hg6 hg1) ?_)))))));refine Wx (w:=R2 hg6 hg1) (Wx (w:=R2 hg6 hg1) (Wx (w:=R2 hg6 hg1) (Wx (w:=R2 hg6 hg1) (Wx (w:=R2 hg6 hg1) (DF (Au rfl (R2 hg6 hg1) rfl) (C1 ?_))))));exact⟨rfl,rfl,⟨⟨congrArg (fun b=>some (AV.bool b)) (R2 hg6 hg1),trivial⟩,sb,rfl⟩⟩
   ·refine X0 ?_;refine DF (Ag rfl) (DF (Ag rfl) (Wx (w:=R1 hg1) (Wx (w:=R1 hg1) (Wx (w:=R1 hg1) (DF (Au rfl (R1 hg1) rfl) (DF (Ag rfl) (Wx (w:=R1 hg1) ?_)))))));refine Wx (w:=R1 hg1) (Wx (w:=R1 hg1) (Wx (w:=R1 hg1) (Wx (w:=R1 hg1) (Wx (w:=R1 hg1) (Wx (w:=R1 hg1) (Wx (w:=R1 hg1) (Wx (w:=R1 hg1) ?_)))))));refine Wx (w:=R1 hg1) (DF (Au rfl (R1 hg1) rfl) (C1 ?_));exact⟨rfl,rfl,⟨⟨congrArg (fun b=>some (AV.bool b)) (R1 hg1),trivial⟩,sb,rfl⟩⟩
  refine Ab rfl ?_ ?_<;>intro h2
  ·rw[←Ano]at h2;obtain⟨x',hx'⟩:=bg_.1 h2;obtain⟨hxu,p,hp⟩:=Apt hx';subst hxu;have hbx:x.2.1<=30000000:=ai_ (ai_ hxo.2.1 W9) (ai_ (Alo (n:=j) hxo.1) hb);have hNσ:=(h.lo .c _ rfl)
   obtain⟨σ1,hap,n1,ho1,g1⟩:=dn_ (by':=24) Rx hB0.1 c9 (upI x) (by simp only[sizeLim];omega)
   refine G2 ?_
   refine O1 (Bp Ii rfl rfl (by decide) rfl) ?_
   refine G ?_
   refine O1 (Bp Ii rfl rfl (by decide) rfl) ?_
   refine G2 ?_
   refine O1 (Bp Ii rfl rfl (by decide) rfl) ?_
   refine G ?_;refine O1 (G0 Anl Ii rfl rfl) (Cx (Ai elC byW rfl rfl rfl) (Dv (len:=1)) rfl rfl (O1 (Av elC rfl slC rfl rfl rfl (new:=eIt (upI x)) rfl hap) ?_));refine G6 ?_
   refine⟨(i0+1,.sr (nx σ0) 0 3 ((Ma g (l.take i0) sym).length+1) none),gr,SL,bc,⟨by have:=hB0.1;omega,fun b hb=>by rw[g1 b (by have:=hB0.1;omega) (fun e=>by have:=c9.adr_lt e;omega),hB0.2 b hb]⟩,gr⟩
  ·rw[←Ano]at h2
   have hx':Ahd g sym x=none:=by cases hh:Ahd g sym x with|none=>rfl|some _=>rw[hh]at h2;cases h2
   refine G5 ?_;refine⟨(i0+1,u),gr,SL,bc,hB0,gr⟩
 ·have bj:l.length<=i0:=gr;have htk:l.take i0=l:=at_ bj;rw[htk]at c9 hul;refine G5 ?_;refine O1 (Bf slC rfl c9.lenA.1 c9.lenA.2) ?_;refine G2 ?_;refine Ab rfl ?_ ?_<;>intro h2
  ·have fj:Ma g l sym=[]:=ce_ gr;refine G4 ?_;refine Bo fun hw0=>?_
   refine G ?_;refine⟨_,rfl,_,_,a_ hw0 nl (fun _ _=>rfl),hB0.1,.same rfl,?_⟩
   have e:S.scan g text j=none:=by unfold Ch.scan;rw[ej_ hl,np,fj]
   rw[e];exact⟨rfl,X,hY,Lk.below h hB0⟩
  ·have hne:Ma g l sym≠[]:=gr;refine G4 ?_;refine Az rfl rfl rfl rfl (f151 hY Om) ?_;rintro u1 σ1 ⟨Y1,hY1,hL1⟩
   have hu1:Own σ1 (nx σ) eIt 3 (Ma g l sym) u:=c9.of_get hL1.n fun b hb=>hL1.fr b (c9.adr_lt hb).2 fun t ht=>by have:=(h.lo t b ht).2;have:=(c9.adr_lt hb).1;omega
   refine G5 ?_;refine O1 (Bf slC rfl hu1.lenA.1 hu1.lenA.2) ?_;refine G3 ?_;refine Bz (Ma g l sym).length (fun i2=>[(0,.pr X.c 0),(1,nV j),(65,u),(66,nV (Ma g l sym).length),(67,nV i2)]) (fun i2 σ2=>Own σ2 (nx σ) eIt 3 (Ma g l sym) u/\(∀b,nx σ<=b->b<nx σ1->(∀t,Y1.loc t≠some b)->σ2.get b=σ1.get b)/\∃Y,ChS g text N Y (S.open'.adds (j+1) ((Ma g l sym).take i2)) σ2/\Lk Y1 σ1 Y σ2) SL ⟨hu1,fun _ _ _ _=>rfl,Y1,hY1,Lk.refl _ _⟩ ?_
   rintro i2 σ2 hi2 ⟨hu2,hfr2,Y2,hY2,hL2⟩;refine G5 ?_;refine Ab rfl ?_ ?_<;>intro h3
   ·have bv:i2<(Ma g l sym).length:=gr;obtain⟨x2,hx2⟩:=Ar bv;obtain⟨a2,tl2,ha2,ha2',qq,qv⟩:=hu2.sr bv
    have hj1:j+1<(S.open'.adds (j+1) ((Ma g l sym).take i2)).sets.length:=by rw[dx_];show j+1<(S.sets++[[]]).length;simp[hj]
    have ib:Gj g (S.open'.adds (j+1) ((Ma g l sym).take i2)):=(Ahe hok).adds fun y hy=>Ase (hok _ l hl).2 y (cm_ hy)
    refine G5 ?_;refine O1 (Br elC (show _=some (AV.sr a2 0 3 (Ma g l sym).length none)from congrArg some qq) rfl bv) (O1 (Dg Rx ldC rfl qv hx2 fun _=>rfl) ?_)
    refine G7 ?_;refine Az rfl rfl rfl rfl (show Al Ew 187 [.pr X.c 0,nV (j+1),itV x2] σ2 _ from(hL1.trans hL2).c▸f187 hY2 x2 hj1 (ai_ ((ib.set (j:=j+1)).bound (n:=j+1) nl) hb1)) ?_
    rintro u3 σ3 ⟨Z,hZ,hLZ⟩;refine G5 ?_;rw[←Afn hx2]at hZ
    have hdj:∀b,nx σ<=b->b<nx σ1->(∀t,Y1.loc t≠some b)->∀t,Y2.loc t≠some b:=fun b h1 h2 h3 t ht=>by
     rcases hL2.sub t b ht with⟨w,hw⟩|hw
     ·exact h3 w hw
     ·omega
    refine⟨bv,SL,hu2.of_get hLZ.n fun b hb=>?_,fun b h1 h2 h3=>?_,Z,hZ,hL2.trans hLZ⟩
    ·have hb1:=(c9.adr_lt hb);have hbn:=hL1.n
     exact hLZ.fr b (by have:=hL2.n;omega) (hdj b hb1.1 Om fun t ht=>by
      rcases hL1.sub t b ht with⟨w,hw⟩|hw
      ·have:=(h.lo w b hw).2;omega
      ·omega)
    ·rw[hLZ.fr b (by have:=hL2.n;omega) (hdj b h1 h2 h3)];grind
   ·have ba:(Ma g l sym).length<=i2:=gr;rw[at_ ba]at hY2;refine G5 ?_;refine Bo fun hw3=>?_
    refine G ?_;have hLL:=((Lk.below h hB0).trans hL1).trans hL2;refine⟨_,rfl,_,_,a_ hw3 nl (fun _ _=>rfl),hLL.n,.same rfl,?_⟩
    have e:S.scan g text j=some (S.open'.adds (j+1) (Ma g l sym)):=by
     unfold Ch.scan;rw[ej_ hl,np]
     grind
    rw[e];exact⟨rfl,Y2,hY2,hLL⟩
theorem f120(r:Rl)(σ:Sto):Cv 120 [.agg (eR r)] σ (.bool true):=by
 refine Aj Tryz.func120 rfl rfl fun hw hu0=>?_
 refine G10 ?_;exact⟨_,rfl,_,_,a_ hw nl (fun _ _=>rfl),nl,.same rfl,rfl,rfl⟩
theorem Q0{E:Env}{ρ:Ad}{σ:Sto}{Rr:Rec}{t n sz:Nat}{x:Operand}{v:AV}{agg:Bool}{cs:List AV}(hi:ldI E.P t=some (sz,agg))(hx:Ah E ρ x=some v)(hc:v.cellsN sz=some cs)(hn:nx σ=n):As E Rr (.box t x) ρ σ (.pr n 0) (σ.new (.cells cs)):=by subst hn;exact Aqy hi hx hc
theorem Ahh{ρ:Ad}{σ:Sto}{Rr:Rec}{t sz r:Nat}{x y:Operand}{agg:Bool}{z u:AV}{α:Type}{enc:α->AV}{m:SM α}{s:Str}(h9:Fs Ew.P 9=true)(hi:mpI Ew.P t=some (9,z,sz,agg))(hx:Ah Ew ρ x=some (.mp r))(hm:B8 enc σ r m)(hy:Ah Ew ρ y=some (sV s))(ho:((m.get s).map enc).getD z=u):
  As Ew Rr (.lookup t x y false) ρ σ u σ:=by subst ho;exact W4 h9 hi hx hm hy
def Mv(g:Gr)(i:Nat)(s:Str):List Nat:=(List.range i).filter fun k=>decide (rSo g k=s)
theorem Apv{g:Gr}{i:Nat}{s:Str}:(Mv g i s).length<=i:=by
 unfold Mv
 grind
theorem Alp{g:Gr}{i:Nat}{s:Str}{r:Rl}(h:g.rules[i]? =some r):Mv g (i+1) s=if s=r.sort then Mv g i s++[i]else Mv g i s:=by
 unfold Mv
 have e:rSo g i=r.sort:=by unfold rSo;rw[h]
 rw[List.range_succ,fy_]
 grind
structure RB (g:Gr)(N i mR:Nat)(rv:SM AV)(σ:Sto):Prop where
 map:B8 (fun v:AV=>v) σ mR rv
 lo:∀s v a,rv.get s=some v->adr v=some a->N<=a/\a<nx σ
 inj:∀s t v w a,rv.get s=some v->rv.get t=some w->adr v=some a->adr w=some a->s=t
 get:∀s,match rv.get s with|none=>Mv g i s=[]|some v=>Own σ 0 eN 1 (Mv g i s) v
theorem RB.start{g:Gr}{N mR:Nat}{σ:Sto}(h:σ.get mR=some (.map 9 [] 0)):RB g N 0 mR [] σ:=⟨⟨0,h⟩,fun s v a h=>(by cases h),fun s t v w a h=>(by cases h),fun s=>rfl⟩
theorem RB.own{g:Gr}{N i mR:Nat}{rv:SM AV}{σ:Sto}(h:RB g N i mR rv σ)(s:Str):∃v,((rv.get s=none/\v=nS)∨rv.get s=some v)/\Own σ 0 eN 1 (Mv g i s) v/\True:=by
 have:=h.get s;cases hs:rv.get s with
 |none=>rw[hs]at this;exact⟨_,.inl ⟨rfl,rfl⟩,by rw[this];exact .nil,trivial⟩
 |some v=>rw[hs]at this;exact⟨v,.inr rfl,this,trivial⟩
theorem RB.step{g:Gr}{N i mR ver:Nat}{rv:SM AV}{σ σ1:Sto}{r:Rl}{v:AV}(h:RB g N i mR rv σ)(hr:g.rules[i]? =some r)(hm:mR<N)(hN:N<=nx σ)(hv:(rv.get r.sort=none/\v=nS)∨rv.get r.sort=some v)(n1:nx σ1=nx σ+1)
  (ho:Own σ1 0 eN 1 (Mv g i r.sort++[i]) (.sr (nx σ) 0 1 ((Mv g i r.sort).length+1) none))(g1:∀a,a<nx σ->adr v≠some a->σ1.get a=σ.get a):
  RB g N (i+1) mR (rv.put r.sort (.sr (nx σ) 0 1 ((Mv g i r.sort).length+1) none)) (σ1.set mR (.map 9 (Cn (fun v:AV=>v) (rv.put r.sort (.sr (nx σ) 0 1 ((Mv g i r.sort).length+1) none))) ver)):=by
 refine⟨⟨ver,gr⟩,fun s w a hs ha=>?_,fun s t w z a hs ht ha hb=>?_,fun s=>?_⟩
 ·rw[Aq];rw[ch_]at hs
  split at hs
  ·cases hs;cases ha;omega
  ·have:=h.lo s w a hs ha;omega
 ·rw[ch_]at hs ht
  split at hs<;>split at ht
  ·grind
  ·cases hs;cases ha;have:=h.lo t z _ ht hb;omega
  ·cases ht;cases hb;have:=h.lo s w _ hs ha;omega
  ·exact h.inj s t w z a hs ht ha hb
 ·rw[ch_,Alp hr]
  by_cases e:s=r.sort
  ·subst e;rw[if_pos rfl,if_pos rfl]
   exact ho.of_get gr fun a ha=>by cases ha;grind
  ·rw[if_neg e,if_neg e];have:=h.get s;cases hs:rv.get s with
   |none=>rw[hs]at this;exact this
   |some w=>
    rw[hs]at this;refine this.of_get gr fun a ha=>?_
    have hl:=h.lo s w a hs ha;rw[aa_,if_neg Om,g1 a hl.2 fun hva=>?_]
    rcases hv with⟨_,rfl⟩|hv
    ·cases hva
    ·exact e (h.inj _ _ _ _ _ hs hv ha hva)
theorem RB.rls{g:Gr}{N mR:Nat}{rv:SM AV}{σ:Sto}{X:Cp}(h:RB g N g.rules.length mR rv σ)(hx:X.mR=mR)(hm:mR<nx σ)(hl:∀t a,X.loc t=some a->a<N/\a≠mR):RlS g rv X σ:=by
 refine⟨by rw[hx];exact h.map,fun a ha=>?_,h.get⟩
 rcases ha with rfl|⟨s,v,hs,hv⟩
 ·grind
 ·have:=h.lo s v a hs hv
  grind
theorem Anp{g:Gr}{n m:Nat}(h:n<=m):Cu g n<=Cu g m:=Nat.mul_le_mul_left _ (Nat.mul_le_mul_left _ Om)
abbrev cp0(c:Nat):Cp:=⟨c+2,c,c+1,nS,nS,[],[]⟩
theorem X0.loc_lt{c:Nat}{t:Tg}{a:Nat}(h:(cp0 c).loc t=some a):a<c+3/\a≠c:=by
 cases t with
 |c=>have h:c+2=a:=by_ h;omega
 |d=>have h:c+1=a:=by_ h;omega
 |s=>cases h
 |i=>cases h
 |v j=>cases j<;>cases h
 |m j=>cases j<;>cases h
theorem X0.chS{g:Gr}{text:List Str}{c:Nat}{σ:Sto}(hd:σ.get (c+1)=some (.map 232 [] 0))(hc:σ.get (c+2)=some (.cells ((cp0 c).cells g text)))(hn:c+3<=nx σ):ChS g text c (cp0 c) ⟨[],[]⟩ σ:=by
 refine⟨fun t u a ht hu=>?_,fun t a ht=>?_,hc,.nil,.nil,rfl,rfl,fun j l v hj=>gr,fun j l m hj=>gr,⟨[],⟨0,hd⟩,fun x=>⟨fun h=>(by cases h),fun _=>rfl⟩⟩⟩
 ·cases t<;>cases u<;>first|rfl|(cases ht;cases hu;done)|(cases ht;done)|(cases hu;done)|(rename_i j;cases j<;>cases ht;done)|(rename_i j;cases j<;>cases hu;done)|(rename_i j k;cases j<;>cases ht)|(have h1:c+2=a:=by_ ht;have h2:c+1=a:=by_ hu;omega)|(have h1:c+1=a:=by_ ht;have h2:c+2=a:=by_ hu;omega)
 ·have h1:=X0.loc_lt ht;cases t with
  |c=>have h:c+2=a:=by_ ht;omega
  |d=>have h:c+1=a:=by_ ht;omega
  |s=>cases ht
  |i=>cases ht
  |v j=>cases j<;>cases ht
  |m j=>cases j<;>cases ht
theorem X0.blw{c:Nat}{X:Cp}{σ σ0 τ:Sto}(hB:Below c σ σ0)(hn:c+3<=nx σ0)(hL:Lk (cp0 c) σ0 X τ):Below c σ τ:=⟨ai_ hB.1 hL.n,fun b hb=>by
 rw[hL.fr b Om fun t ht=>?_,hB.2 b hb]
 cases t with
 |c=>have:=by_ ht;simp[cp0]at this;omega
 |d=>have:=by_ ht;simp[cp0]at this;omega
 |s=>cases ht
 |i=>cases ht
 |v j=>cases j<;>cases ht
 |m j=>cases j<;>cases ht⟩
theorem f119(g:Gr)(sort:Str)(text:List Str)(σ:Sto)(hb:Cu g text.length<=30000000)(hR:g.rules.length<=1000000)(hl:text.length<1000000):Al Ew 119 [grV g,sV sort,Af text,.fn (.func 120) [] []] σ fun v σ'=>∃X rv,v=.pr X.c 0/\ChS g text (nx σ) X (Ej g sort text) σ'/\RlS g rv X σ'/\Below (nx σ) σ σ':=by
 obtain⟨σ1,hσ1⟩:∃σ1,((σ.new (.map 9 [] 0)).new (.map 232 [] 0)).new (.cells ((cp0 (nx σ)).cells g text))=σ1:=⟨_,rfl⟩;have hm1:σ1.get (nx σ)=some (.map 9 [] 0):=gr;have hd1:σ1.get (nx σ+1)=some (.map 232 [] 0):=gr;have hc1:σ1.get (nx σ+2)=some (.cells ((cp0 (nx σ)).cells g text)):=gr;have hn1:nx σ1=nx σ+3:=gr
 have hB1:Below (nx σ) σ σ1:=⟨by omega,gr⟩
 refine Aj Tryz.func119 rfl rfl fun hw hu0=>?_
 refine G8 ?_;refine O1 (Gx Ae5) ?_;refine G ?_;refine O1 (Cd (n:=nx σ+1) Va (Ao _ _)) ?_;refine G ?_;refine O1 (Q0 (n:=nx σ+2) (cs:=(cp0 (nx σ)).cells g text) ldC rfl rfl gr) ?_;refine G2 ?_;rw[hσ1];refine G9 ?_
 refine Bz g.rules.length (fun i0=>[(1,sV sort),(2,Af text),(3,.fn (.func 120) [] []),(9,.pr (nx σ+2) 0),(20,slV eR 4 g.rules),(21,nV g.rules.length),(22,nV i0)]) (fun i0 σ0=>∃rv,RB g (nx σ+3) i0 (nx σ) rv σ0/\Below (nx σ) σ σ0/\σ0.get (nx σ+1)=some (.map 232 [] 0)/\σ0.get (nx σ+2)=some (.cells ((cp0 (nx σ)).cells g text))/\nx σ+3<=nx σ0) SL ⟨[],RB.start hm1,hB1,hd1,hc1,by omega⟩ ?_
 rintro i0 σ0 hi0 ⟨rv,hrb,hB0,hd0,hc0,hn0⟩;refine G5 ?_;refine Ab rfl ?_ ?_<;>intro h1
 ·have bc:i0<g.rules.length:=gr;obtain⟨r,hr⟩:=Ar bc;refine G7 ?_;refine O1 (Ac ldC rfl rfl (A6 (Qy r) _)) (Rn ziC ldC rfl rfl (fun _=>rfl) rfl (fun _=>rfl) rfl (A7 (Qy r)) rfl rfl rfl ?_)
  refine G5 ?_;refine Ca (f120 r σ0) ?_;refine G ?_;refine Ab rfl ?_ ?_<;>intro h2
  ·obtain⟨v,hv,bf,_⟩:=hrb.own r.sort;obtain⟨ver,hM⟩:=hrb.map
   obtain⟨σ1,hap,n1,ho1,g1⟩:=dn_ (by':=8) Ep (aq_ _) bf i0 (by simp only[sizeLim];have:=Apv (g:=g) (i:=i0) (s:=r.sort);omega)
   have hv3:∀b,b<nx σ+3->adr v≠some b:=fun b hb e=>by
    rcases hv with⟨_,rfl⟩|hv
    ·cases e
    ·have:=(hrb.lo _ _ _ hv e).1;omega
   have hM1:=(g1 (nx σ) Om (hv3 _ Om)).trans hM;have hd1':=(g1 (nx σ+1) Om (hv3 _ Om)).trans hd0;have qw:=(g1 (nx σ+2) Om (hv3 _ Om)).trans hc0;have hvg:((rv.get r.sort).map fun v:AV=>v).getD nS=v:=gr
   refine L4 (Rr:=Dk []) (anns:=[⟨.pure,0,1⟩,⟨.pure,0,1⟩,⟨.pure,0,1⟩,⟨.read,0,1⟩,⟨.pure,0,1⟩,⟨.read,0,1⟩,⟨.pure,0,0⟩,⟨.pure,0,0⟩,⟨.pure,0,0⟩,⟨.read,0,0⟩,⟨.pure,0,0⟩,⟨.read,0,0⟩,⟨.read,0,0⟩,⟨.pure,0,0⟩,⟨.pure,0,0⟩,⟨.eff,0,1⟩,⟨.eff,1,2⟩]) Di (Bw (l:=[]) trivial) Kr ?_;refine G3 ?_;refine DF (lO hc0) ?_;refine G5 ?_;refine DF (lO hc0) ?_;refine G2 ?_;refine DF (Ahh st9 Ae5 rfl hrb.map rfl hvg) ?_;refine G ?_
   refine DF (Ai elC byW rfl rfl rfl) (DT (Av elC rfl slC rfl rfl rfl (new:=eN i0) rfl hap) (DT (Gh (v:=.sr (nx σ0) 0 1 ((Mv g i0 r.sort).length+1) none) st9 Ae5 rfl hM1 rfl rfl (fun te k1 k2=>by unfold Je;rw[k2];rfl)) ?_))
   refine G ?_
   refine⟨⟨trivial,trivial,trivial,(fun s hs=>by simp at hs;rcases hs with rfl|rfl;exact⟨_,E8 hc0 (ldC (t:=160)) rfl rfl⟩;exact⟨_,E8 qw (ldC (t:=160)) rfl rfl⟩),trivial,(fun s hs=>⟨_,Ac (ldC (t:=9)) rfl rfl rfl⟩),trivial,trivial,trivial,(fun s hs=>by simp at hs;subst hs;exact⟨_,E8 hc0 (ldC (t:=160)) rfl rfl⟩),trivial,(fun s hs=>⟨_,Ac (ldC (t:=9)) rfl rfl rfl⟩),(fun s hs=>by simp at hs;subst hs;exact⟨_,Ahh st9 Ae5 rfl hrb.map rfl hvg⟩),trivial,trivial,trivial,trivial,trivial⟩,?_⟩
   refine G4 ?_;refine⟨bc,SL,_,hrb.step hr Om hn0 hv n1 ho1 g1,⟨gr,fun b hb=>?_⟩,?_,?_,gr⟩
   ·rw[aa_,if_neg gr,g1 b Om (hv3 b Om),hB0.2 b hb]
   ·grind
   grind
  ·cases h2
 ·have bj:g.rules.length=i0:=Nat.le_antisymm gr hi0;subst bj;have qx:ChS g text (nx σ) (cp0 (nx σ)) ⟨[],[]⟩ σ0:=X0.chS hd0 hc0 hn0;have hr0:=hrb.rls (X:=(cp0 (nx σ))) rfl Om (fun t a ht=>X0.loc_lt ht)
  refine G4 ?_;refine Az rfl rfl rfl rfl (f151 qx (aq_ _)) ?_;rintro u1 σ1 ⟨X1,hX1,hL1⟩;have qz:Gj g (Ch.open' ⟨[],[]⟩):=Ahe fun j l hj=>gr
  refine G5 ?_
  refine Az rfl rfl rfl rfl (show Al Ew 152 [.pr (nx σ+2) 0,sV sort,nV 0] σ1 _ from(show X1.c=nx σ+2 from hL1.c)▸f152 hX1 (hr0.lk hL1) sort (j:=0) (by show 0<([]++[[]]).length;simp) qz (ai_ (Anp (aq_ _)) hb) hR) ?_
  rintro u2 σ2 ⟨X2,hX2,hL2⟩;have hX2:ChS g text (nx σ) X2 (Aci g sort) σ2:=hX2;have qy:=hL1.trans hL2;refine G6 ?_;refine Ci (fun q:Nat×Ch=>[(2,Af text),(9,.pr (nx σ+2) 0),(12,nV q.1)]) (fun q τ=>∃Y,ChS g text (nx σ) Y q.2 τ/\Lk (cp0 (nx σ)) σ0 Y τ/\Gj g q.2/\q.2.sets.length=q.1+1/\q.1<=text.length/\Aji g text (text.length+1-q.1) q.1 q.2=Ej g sort text) (fun q=>text.length-q.1) (0,Aci g sort) SL ⟨X2,hX2,qy,Afl.1,Afl.2,aq_ _,rfl⟩ ?_
  rintro⟨j,S⟩ τ ⟨Y,hY,hL,hok,bl,hjt,bq⟩;have hY:ChS g text (nx σ) Y S τ:=hY;have hok:Gj g S:=hok;have bl:S.sets.length=j+1:=bl;have hjt:j<=text.length:=hjt;have bq:Aji g text (text.length+1-j) j S=Ej g sort text:=bq;have hk:=Asd (n:=text.length) (j:=j) (Cu g text.length+1) 0 S hok;refine G6 ?_;refine Az rfl rfl rfl rfl (show Al Ew 153 [.pr (nx σ+2) 0,nV j] τ _ from(show Y.c=nx σ+2 from hL.c)▸f153 (n:=text.length) hY (hr0.lk hL) hok (j:=j) Om Om hb hR) ?_
  rintro u3 τ1 ⟨Z,hZ,hLZ⟩;have d7:=hL.trans hLZ
  have nw:(cls g text.length j (Cu g text.length+1) 0 S).sets.length=j+1:=by rw[hk.len];exact bl
  refine G ?_
  rw[show text.length+1-j=(text.length-j)+1 by omega]at bq
  simp only[Aji]at bq
  by_cases hjl:j=text.length
  ·rw[if_pos hjl]at bq;have bq:cls g text.length j (Cu g text.length+1) 0 S=Ej g sort text:=bq;refine G6 ?_
   have hd:decide ((Int.ofNat j)=Int.ofNat text.length)=true:=decide_eq_true (by rw[hjl])
   rw[hd];refine G ?_;refine Co rfl rfl rfl rfl rfl rfl (Co rfl rfl rfl rfl rfl rfl (Co rfl rfl rfl rfl rfl rfl (Co rfl rfl rfl rfl rfl rfl (O1 (A3 rfl rfl rfl) ?_))));refine G ?_;refine Ab rfl (fun h2=>?_) gr
   refine G5 ?_;refine Bo fun hw9=>?_
   refine G ?_;rw[bq]at hZ
   exact⟨_,rfl,_,_,a_ hw9 nl (fun _ _=>rfl),ai_ hB0.1 d7.n,.same (by show Nat.blt (nx σ+2) _=true;exact Ce (by have:=d7.n;omega)),Z,rv,by rw[show Z.c=nx σ+2 from d7.c];rfl,hZ,hr0.lk d7,X0.blw hB0 hn0 d7⟩
  ·have ql:j<text.length:=by omega
   rw[if_neg hjl]at bq;refine G6 ?_;have hd:decide ((Int.ofNat j)=Int.ofNat text.length)=false:=decide_eq_false (fun e=>hjl (ci_ e))
   rw[hd];refine G ?_;refine Bi rfl rfl rfl rfl rfl noR rfl rfl (Ag rfl) (Bi rfl rfl rfl rfl rfl noR rfl rfl (Ag rfl) (Aij rfl rfl rfl rfl rfl rfl rfl rfl (show Al Ew 154 [.pr (nx σ+2) 0,nV j] τ1 _ from(show Z.c=nx σ+2 from d7.c)▸f154 hZ nw ql hk.ok (ai_ (Anp Om) hb) Om) ?_))
   intro u4 τ2 hp;cases hsc:(cls g text.length j (Cu g text.length+1) 0 S).scan g text j with
   |none=>
    rw[hsc]at hp bq;have bq:cls g text.length j (Cu g text.length+1) 0 S=Ej g sort text:=bq;obtain⟨rfl,W,hW,hLW⟩:=hp;have eo:=d7.trans hLW;refine Bi rfl rfl rfl rfl rfl noR rfl rfl (Dc rfl) (O1 (Au rfl rfl rfl) ?_);refine G ?_;refine Ab rfl (fun h2=>?_) gr
    refine G5 ?_;refine Bo fun hw9=>?_
    refine G ?_;rw[bq]at hW
    exact⟨_,rfl,_,_,a_ hw9 nl (fun _ _=>rfl),ai_ hB0.1 eo.n,.same (by show Nat.blt (nx σ+2) _=true;exact Ce (by have:=eo.n;omega)),W,rv,by rw[show W.c=nx σ+2 from eo.c];rfl,hW,hr0.lk eo,X0.blw hB0 hn0 eo⟩
   |some U=>
    rw[hsc]at hp bq;obtain⟨rfl,W,hW,hLW⟩:=hp;have eo:=d7.trans hLW;have hso:=Auy hk.ok hsc;refine Bi rfl rfl rfl rfl rfl noR rfl rfl (Dc rfl) (O1 (Au rfl rfl rfl) ?_);refine G ?_;refine Ab rfl gr (fun h2=>?_)
    refine G6 ?_;refine⟨(j+1,U),gr,SL,W,hW,eo,hso.1,gr,gr,gr⟩
abbrev Lk4:=Int×Int×Int×Int
instance:KE Lk4 where
 k p:=.agg [.int .i64 p.1,.int .i64 p.2.1,.int .i64 p.2.2.1,.int .i64 p.2.2.2]
 eq a b:=by
  obtain⟨s,x,y,z⟩:=a;obtain⟨t,u,v,w⟩:=b;simp only[Key.eq,Key.eqs,Nn,Ed]
  grind
def lk(r d a t:Nat):Lk4:=(.ofNat r,.ofNat d,.ofNat a,.ofNat t)
theorem Axn{r d a t r' d' a' t':Nat}:lk r d a t=lk r' d' a' t'↔r=r'/\d=d'/\a=a'/\t=t':=by
 simp only[lk,ba_]
 grind
theorem Apw(r d a t:Nat):D4 Ew.P 386 (.agg [nV r,nV d,nV a,nV t])=some (KE.k (lk r d a t)):=Kr
def Vo(g:Gr)(D:List Sp)(text:List Str)(σ:Sto)(m:Nat):Prop:=∃M:GM Lk4 Bool,GAt 386 bE σ m M/\∀r d a t b,M.get (lk r d a t)=some b->b=ldP D text t ((rPt g r).drop d) a
theorem Vo.of_get{g:Gr}{D:List Sp}{text:List Str}{σ τ:Sto}{m:Nat}(h:Vo g D text σ m)(hg:τ.get m=σ.get m):Vo g D text τ m:=by
 obtain⟨M,h1,h2⟩:=h;exact⟨M,h1.of_get hg,h2⟩
theorem Vo.put{g:Gr}{D:List Sp}{text:List Str}{σ:Sto}{m r d a t ver:Nat}{M:GM Lk4 Bool}{b:Bool}(h:∀r d a t b,M.get (lk r d a t)=some b->b=ldP D text t ((rPt g r).drop d) a)(hb:b=ldP D text t ((rPt g r).drop d) a):Vo g D text (σ.set m (.map 386 (Hi bE (M.put (lk r d a t) b)) ver)) m:=by
 refine⟨_,GAt.put,fun r' d' a' t' b' h'=>?_⟩
 rw[fp_]at h'
 split at h'
 ·rename_i e
  obtain⟨rfl,rfl,rfl,rfl⟩:=Axn.1 e
  grind
 grind
structure PkF (mT:Nat)(σ σ':Sto):Prop where
 n:nx σ<=nx σ'
 g:∀b,b<nx σ->b≠mT->σ'.get b=σ.get b
theorem PkF.refl{mT:Nat}{σ:Sto}:PkF mT σ σ:=⟨nl,fun _ _ _=>rfl⟩
theorem PkF.trans{mT:Nat}{σ τ υ:Sto}(h:PkF mT σ τ)(k:PkF mT τ υ):PkF mT σ υ:=⟨ai_ h.n k.n,fun b hb hn=>by rw[k.g b (ak_ hb h.n) hn,h.g b hb hn]⟩
theorem PkF.set{mT:Nat}{σ:Sto}{o:AO}:PkF mT σ (σ.set mT o):=⟨gr,gr⟩
structure PkB (g:Gr)(text:List Str)(D:List Sp)(X:Cp)(P mN mT:Nat)(lv:AV)(σ:Sto):Prop where
 pk:σ.get P=some (.cells [.pr X.c 0,.mp mN,lv,.mp mT])
 cl:σ.get X.c=some (.cells (X.cells g text))
 dn:Apr 232 sk D σ X.mD
 rs:Vo g D text σ mT
 lt:P<nx σ/\X.c<nx σ/\X.mD<nx σ/\mT<nx σ
section
variable {g:Gr}{text:List Str}{D:List Sp}{X:Cp}{P mN mT:Nat}{lv:AV}{σ σ':Sto}
theorem PkB.ne(h:PkB g text D X P mN mT lv σ):P≠mT/\X.c≠mT/\X.mD≠mT:=by
 obtain⟨M,⟨v,hM⟩,_⟩:=h.rs;obtain⟨M',⟨v',hM'⟩,_⟩:=h.dn;refine⟨fun e=>?_,fun e=>?_,fun e=>?_⟩
 ·have:=h.pk;grind
 ·have:=h.cl;grind
 grind
theorem PkB.keep(h:PkB g text D X P mN mT lv σ)(hf:PkF mT σ σ')(hr:Vo g D text σ' mT):PkB g text D X P mN mT lv σ':=by
 obtain⟨n1,n2,n3⟩:=h.ne;obtain⟨l1,l2,l3,l4⟩:=h.lt;have:=hf.n
 exact⟨(hf.g _ l1 n1).trans h.pk,(hf.g _ l2 n2).trans h.cl,h.dn.of_get (hf.g _ l3 n3),hr,by omega,by omega,by omega,by omega⟩
theorem PkB.of_get(h:PkB g text D X P mN mT lv σ)(hn:nx σ<=nx σ')(hg:∀b,b=P∨b=X.c∨b=X.mD∨b=mT->σ'.get b=σ.get b):PkB g text D X P mN mT lv σ':=by
 obtain⟨l1,l2,l3,l4⟩:=h.lt
 exact⟨(hg _ (.inl rfl)).trans h.pk,(hg _ (.inr (.inl rfl))).trans h.cl,h.dn.of_get (hg _ (.inr (.inr (.inl rfl)))),h.rs.of_get (hg _ (.inr (.inr (.inr rfl)))),by omega,by omega,by omega,by omega⟩
end
theorem Nu{ρ:Ad}{σ:Sto}{Rr:Rec}{t kt sz r:Nat}{x y:Operand}{agg:Bool}{z u:AV}{κ α:Type}[DecidableEq κ][KE κ]{enc:α->AV}{m:GM κ α}{k:κ}{o:Option α}(hi:mpI Ew.P t=some (kt,z,sz,agg))(hx:Ah Ew ρ x=some (.mp r))(hm:GAt kt enc σ r m)(hy:Ah Ew ρ y=some u)(hk:D4 Ew.P kt u=some (KE.k k))(ho:m.get k=o):
  As Ew Rr (.lookup t x y true) ρ σ (.tup [(o.map enc).getD z,.bool o.isSome]) σ:=by subst ho;exact Arl hi hx hm hy hk
theorem Alq{f:Nat->Bool}{a n m:Nat}(h:m<=n)(ht:(List.range' a m).any f=true):(List.range' a n).any f=true:=gr
theorem Yz{f:Nat->Bool}{a n:Nat}:(List.range' a (n+1)).any f=((List.range' a n).any f||f (a+n)):=gr
structure PkL (L:List Sp)(N mN:Nat)(lv:AV)(σ:Sto):Prop where
 num:∃M:GM Kk Nat,GAt 232 nV σ mN M/\∀s,M.get (sk s)=if s∈L then some (L.idxOf s)else none
 lst:Own σ N eSp 3 L lv
 lt:mN<N/\N<=nx σ
theorem PkL.of_get{L:List Sp}{N mN:Nat}{lv:AV}{σ τ:Sto}(h:PkL L N mN lv σ)(hn:nx σ<=nx τ)(hm:τ.get mN=σ.get mN)(hg:∀a,adr lv=some a->τ.get a=σ.get a):PkL L N mN lv τ:=by
 obtain⟨⟨M,h1,h2⟩,h3,h4,h5⟩:=h
 exact⟨⟨M,h1.of_get hm,h2⟩,h3.of_get hn hg,h4,by omega⟩
structure PkM (N P mN:Nat)(lv:AV)(σ:Sto)(lv':AV)(σ':Sto):Prop where
 n:nx σ<=nx σ'
 a:∀a,adr lv'=some a->adr lv=some a∨nx σ<=a
 g:∀b,b<nx σ->b≠P->b≠mN->adr lv≠some b->σ'.get b=σ.get b
theorem PkM.refl{N P mN:Nat}{lv:AV}{σ:Sto}:PkM N P mN lv σ lv σ:=⟨nl,fun a h=>.inl h,fun _ _ _ _ _=>rfl⟩
theorem Apx{L:List Sp}{s t:Sp}(hs:s∉L):(if t∈L++[s]then some ((L++[s]).idxOf t)else none)=if t=s then some L.length else if t∈L then some (L.idxOf t)else none:=gr
end Go.AM
