/- A part. -/
import Derived.Test.YtmkaboegdoadhaaGreatDoorW32
set_option maxRecDepth 100000
set_option maxHeartbeats 4000000
set_option linter.unusedSimpArgs false
set_option linter.unusedVariables false
namespace Go.AM
open Go Go.Proofs
def A13(d:Db)(i:Nat):Option (Ax7×Nat):=match d.frames[i]? with|some f=>if f.thm=true then none else some (Ayc d f,i)|none=>none
def Ayg(d:Db)(k:Nat):List (Ax7×Nat):=(List.range k).filterMap (A13 d)
theorem A14{d k f}(hf:d.frames[k]? =some f):Ayg d (k+1)=if(!f.thm)=true then Ayg d k++[(Ayc d f,k)]else Ayg d k:=by
 unfold Ayg;rw[List.range_succ,List.filterMap_append]
 have:A13 d k=if f.thm=true then none else some (Ayc d f,k):=by unfold A13;rw[hf]
 grind
theorem Azf(d k):(Ayg d k).length<=k:=by
 have:=List.length_filterMap_le (A13 d) (List.range k)
 rwa[List.length_range]at this
theorem f81{d g n gd tm N a r J}(hS:Ayj d g n gd tm N a r J)(hD:DbB d)(hvf:d.vars.length+d.frames.length<1000000)(hfr:∀f∈d.frames,f.hyps.length<=1000000/\f.text.length<1000000/\∀h∈f.hyps,h.text.length<1000000):
  Cv 81 [.pr a 0] J (.tup [slV eCm 6 ((Ayg d d.frames.length).map (·.1)),slV eNn 1 ((Ayg d d.frames.length).map (·.2))]):=by
 obtain⟨bs,hbl,hbc,_⟩:=hS.cl;refine Aj Tryz.func81 rfl rfl fun hw hu0=>?_
 refine G12 ?_;refine O1 (E8 (v:=slV eF 8 d.frames) hbc ldC rfl rfl) ?_;refine G4 ?_
 refine Ci (fun x:Nat×AV×AV=>[(0,.pr a 0),(2,x.2.1),(3,x.2.2),(10,slV eF 8 d.frames),(11,nV d.frames.length),(12,nV x.1)]) (fun x U=>x.1<=d.frames.length/\Below (nx J) J U/\Own U (nx J) eCm 6 ((Ayg d x.1).map (·.1)) x.2.1/\Own U (nx J) eNn 1 ((Ayg d x.1).map (·.2)) x.2.2/\∀b,adr x.2.1=some b->adr x.2.2≠some b) (fun x=>d.frames.length-x.1) (0,nS,nS) SL ⟨aq_ _,⟨nl,fun _ _=>rfl⟩,.nil,.nil,fun b h=>by cases h⟩ ?_
 rintro⟨i0,v1,v2⟩ U ⟨hi0,⟨n0,g0⟩,hov,hop,hne⟩;have hi0:i0<=d.frames.length:=hi0;have hov:Own U (nx J) eCm 6 ((Ayg d i0).map (·.1)) v1:=hov;have hop:Own U (nx J) eNn 1 ((Ayg d i0).map (·.2)) v2:=hop;have hne:∀b,adr v1=some b->adr v2≠some b:=hne;have hcl:=Azf d i0;have hl1:((Ayg d i0).map (·.1)).length<=1000000:=gr;have hl2:((Ayg d i0).map (·.2)).length<=1000000:=gr;refine G5 ?_;refine Ab rfl ?_ ?_<;>intro h1
 ·have bc:i0<d.frames.length:=Int.ofNat_lt.1 (of_decide_eq_true h1);obtain⟨f,hf⟩:=Ar bc;obtain⟨hfh,hft,hht⟩:=hfr f (ab_ hf);have hsu:=A14 hf;obtain⟨U1,hτ1⟩:∃U1,(U.new (.cells [.str [],.bool false,nS,nS,nS,nS,nS,nS])).set (nx U) (.cells (eF f))=U1:=⟨_,rfl⟩;have m1:nx U1=nx U+1:=gr;have k1:∀b,b<nx U->U1.get b=U.get b:=gr;have c1:U1.get (nx U)=some (.cells (eF f)):=gr;have hov1:Own U1 (nx J) eCm 6 ((Ayg d i0).map (·.1)) v1:=hov.of_get Om (fun b q=>k1 b (hov.adr_lt q).2)
  have hop1:Own U1 (nx J) eNn 1 ((Ayg d i0).map (·.2)) v2:=hop.of_get Om (fun b q=>k1 b (hop.adr_lt q).2)
  refine G8 ?_;refine O1 (Bj (n:=nx U) ziC rfl) ?_;refine G ?_
  refine O1 (sO (cs:=[.str [],.bool false,nS,nS,nS,nS,nS,nS]) (cs':=eF f) (by rw[ag_,if_pos rfl])) ?_
  refine G ?_;rw[hτ1];refine G3 ?_;refine O1 (E8 (v:=.bool f.thm) c1 ldC rfl rfl) ?_;refine G2 ?_;refine Ab rfl ?_ ?_<;>intro h2
  ·rw[if_pos h2]at hsu;have hSt:Ayj d g n gd tm N a r U1:=hS.of_get hw fun b hb=>(k1 b Om).trans (g0 b hb)
   have h80:=f80 hSt hD hvf hf hfh hft hht
   obtain⟨lf,kf,hform⟩:∃l k,(Ayc d f).form=.node l k:=by cases (Ayc d f).form;grind
   have hE:eCm (Ayc d f)=[.bool (Ayc d f).silent,Af (Ayc d f).vars,slV eT 2 (Ayc d f).prem,sV lf,slV eT 2 kf,iV (Ayc d f).code]:=by unfold eCm;rw[hform,Cl];rfl
   rw[hE]at h80
   obtain⟨U2,hap,m2,hov2,k2⟩:=dn_ (enc:=eCm) (sz:=6) (by':=104) A09 (show nx J<=nx U1 by omega) hov1 (Ayc d f) (by simp only[sizeLim];omega)
   rw[hE]at hap;have hop2:Own U2 (nx J) eNn 1 ((Ayg d i0).map (·.2)) v2:=hop1.of_get Om (fun b q=>k2 b (hop1.adr_lt q).2 (fun e=>hne b e q))
   obtain⟨U3,rj,m3,hop3,k3⟩:=dn_ (enc:=eNn) (sz:=1) (by':=8) (fun _=>rfl) (show nx J<=nx U2 by omega) hop2 i0 (by simp only[sizeLim];omega)
   refine G4 ?_;refine Ca h80 ?_;refine Cx (Ai elC byW rfl rfl rfl) (Dv (len:=1)) rfl rfl (O1 (Av elC rfl slC rfl rfl rfl (new:=[.bool (Ayc d f).silent,Af (Ayc d f).vars,slV eT 2 (Ayc d f).prem,sV lf,slV eT 2 kf,iV (Ayc d f).code]) rfl hap) ?_);refine G2 ?_;refine Cx (Ai elC byW rfl rfl rfl) (Dv (len:=1)) rfl rfl (O1 (Av elC rfl slC rfl rfl rfl (new:=eNn i0) rfl rj) ?_);refine G7 ?_
   refine⟨(i0+1,.sr (nx U1) 0 6 (((Ayg d i0).map (·.1)).length+1) none,.sr (nx U2) 0 1 (((Ayg d i0).map (·.2)).length+1) none),gr,SL,gr,⟨by omega,fun b hb=>?_⟩,?_,?_,?_⟩
   ·rw[k3 b Om (fun e=>by have:=(hop2.adr_lt e).1;omega),k2 b Om (fun e=>by have:=(hov1.adr_lt e).1;omega),k1 b Om];exact g0 b hb
   ·show Own _ _ _ _ ((Ayg d (i0+1)).map (·.1)) _
    rw[hsu,co_]
    exact hov2.of_get Om (fun b q=>k3 b (hov2.adr_lt q).2 (fun e=>by
     have q:some (nx U1)=some b:=q;cases q;have:=(hop1.adr_lt e).2;omega))
   ·grind
   ·intro b hb e;have hb:some (nx U1)=some b:=hb;have e:some (nx U2)=some b:=e
    grind
  ·rw[if_neg gr]at hsu;refine G5 ?_
   exact⟨(i0+1,v1,v2),gr,SL,gr,⟨by omega,fun b hb=>(k1 b Om).trans (g0 b hb)⟩,gr,gr,hne⟩
 ·have bj:i0=d.frames.length:=gr;subst bj;refine G9 ?_
  have hu:∀N c,AV.unds N (eCm c)=true:=fun N c=>by
   have h1:AV.unds N (eT c.form)=true:=Es _;have h2:AV.und N (Af c.vars)=true:=A2 D9 _
   have h3:AV.und N (slV eT 2 c.prem)=true:=by show AV.unds N (c.prem.flatMap eT)=true;rw[←No];exact Jq _
   unfold eCm
   obtain⟨lf,kf,hform⟩:∃l k,c.form=.node l k:=by cases c.form;grind
   rw[hform,Cl]at h1⊢;simp only[AV.unds,ad_,ay_,bd_,h2,h3]at h1⊢;exact⟨rfl,trivial,trivial,h1.1,h1.2.1,rfl,trivial⟩
  exact⟨_,rfl,_,J,am_ hw ⟨n0,g0⟩,nl,.tup (.cons (hov.fz A09 (fun a ha=>hw.none ha) (A2 (hu _) _)) (.cons (hop.fz (enc:=eNn) (fun _=>rfl) (fun a ha=>hw.none ha) (A2 (fun _=>rfl) _)) .nil)),rfl,rfl⟩
structure A23 (g:Gr)(x:Ax8):Prop where
 v:x.vars.length<1000000
 nd:x.code=0->x.vars.Nodup
 o:x.code=0->okT g.rules x.tree=true/\M6 x.tree<=100000
def A0s(gd:List Int)(n:Int)(tm:SM (List Int))(l:List Ax7)(x:Ax8)(fuel:Int)(R:List Ayb×Int):Prop:=
 ∃M:Bool×Int×Int,A0b gd n tm fuel l 0 M/\if M.2.2≠0 then R=([],M.2.2)else if M.1=false then R=([],13)else if x.code≠0 then R=([],x.code)else if fuel<Ayi n fuel x.vars.length 1 then R=([],10)
 else ∃o,Run n x.vars.reverse (fun m=>Ay9 gd n tm m x.tree) (Ayy x.vars) o/\R=match o with|none=>([],5)|some m=>(Aye x.vars m,0)
theorem f82{d g n gd tm N a r J}(hS:Ayj d g n gd tm N a r J)(ht:A0w g.rules tm n)(hn1:1<=n)(h5:n<=5){l}(hl:∀c∈l,A07 g c)(hll:l.length<1000000){x}(hx:A23 g x){fuel}(hf1:1<=fuel)(hf9:fuel<=100000):
  Al Ew 82 [.pr a 0,slV eCm 6 l,.agg (eGl x),iV fuel] J fun v J'=>∃R,v=.tup [slV eVl 2 R.1,iV R.2]/\A0s gd n tm l x fuel R/\J'=J:=by
 obtain⟨lf,kf,hform⟩:∃l k,x.tree=.node l k:=by cases x.tree;grind
 have hE:eGl x=[sV lf,slV eT 2 kf,Af x.vars,iV x.code]:=by unfold eGl;rw[hform,Cl];rfl
 have hcv:=hx.v;rw[hE];refine gm_ ?_;refine Mo Tryz.func82 (Ke _ _ Tryz.func82) rfl rfl fun hw hu0=>?_
 have hA:a<nx J:=by obtain⟨_,_,h,_⟩:=hS.cl;exact(hw _ _ h).1
 have fin:∀{ρ:Ad} {U:Sto} {v2:AV} {k:List Ayb} {e:Int},Ad.at ρ 8=some (.pr (nx J+1) 0)->Ad.at ρ 9=some (.pr (nx J+2) 0)->U.get (nx J+1)=some (.cells [v2])->U.get (nx J+2)=some (.cells [iV e])->(v2=nS/\k=[]∨v2=slV eVl 2 k)->nx J<=nx U->(∀b,b<nx J->U.get b=J.get b)->A0s gd n tm l x fuel (k,e)->Agw Ew Tryz.f82 (nx J) (fun v J'=>∃R,v=.tup [slV eVl 2 R.1,iV R.2]/\A0s gd n tm l x fuel R/\J'=J) ρ U:=by
  intro ρ U v2 k e p7 p8 q7 q8 h2 hn hg hR
  refine⟨[v2,iV e],Am (vs:=[v2]) (ldC (t:=64)) p7 (by simp only[Sto.cells];rw[q7]) rfl (Am (vs:=[iV e]) (ldC (t:=32)) p8 (by simp only[Sto.cells];rw[q8]) rfl rfl),.tup [slV eVl 2 k,iV e],J,am_ hw ⟨hn,hg⟩,nl,?_,(k,e),rfl,hR,rfl⟩
  rcases h2 with⟨rfl,rfl⟩|rfl
  ·exact .tup (.cons (.nils gr) (.cons (.same rfl) .nil))
  ·exact .tup (.cons (.same (A2 (fun _=>rfl) _)) (.cons (.same rfl) .nil))
 obtain⟨J1,hσ1⟩:∃J1,(J.bump.new (.cells [nS])).new (.cells [.int .i64 0])=J1:=⟨_,rfl⟩;have n1:nx J1=nx J+3:=gr;have g1:∀b,b<nx J->J1.get b=J.get b:=gr;have c7:J1.get (nx J+1)=some (.cells [nS]):=gr;have c8:J1.get (nx J+2)=some (.cells [.int .i64 0]):=gr;have hS1:Ayj d g n gd tm N a r J1:=hS.of_get hw g1
 iterate  4 refine G ?_
 refine O1 (Bj (n:=nx J+1) ziC (Bm J)) (O1 (Bj (n:=nx J+2) ziC gr) ?_);refine G ?_;rw[hσ1];have st2:∀(U:Sto) (y z:AV),∃U',(U.set (nx J+1) (.cells [y])).set (nx J+2) (.cells [z])=U'/\nx U'=nx U/\U'.get (nx J+1)=some (.cells [y])/\U'.get (nx J+2)=some (.cells [z])/\∀b,(b<nx J+1∨nx J+3<=b)->U'.get b=U.get b:=fun U y z=>
  ⟨_,rfl,gr,gr,gr,gr⟩
 iterate  5 refine G ?_
 refine Az rfl rfl rfl rfl (f97 hS1 ht hn1 h5 hl hll hf1 hf9) ?_;rintro _ τz ⟨⟨ok,ci,ce⟩,rfl,hM,hz⟩;rw[hz]
 iterate  16 refine G ?_
 refine A0 rfl ?_ ?_<;>intro h1
 ·have h1:ce≠0:=gr;obtain⟨U,hτ,k0,k7,k8,kg⟩:=st2 J1 nS (iV ce)
  iterate  3 refine G ?_
  refine O1 (sO (cs':=[nS]) c7) (O1 (G1 (cs:=[.int .i64 0]) (cs':=[iV ce]) gr ldC rfl rfl rfl rfl) ?_);refine G ?_;rw[hτ];refine G ?_;exact fin rfl rfl k7 k8 (.inl ⟨rfl,rfl⟩) Om (fun b hb=>(kg b Om).trans (g1 b hb)) ⟨_,hM,gr⟩
 ·have h1:ce=0:=gr
  iterate  6 refine G ?_
  refine A0 rfl ?_ ?_<;>intro h2
  ·have h2:ok=false:=gr;obtain⟨U,hτ,k0,k7,k8,kg⟩:=st2 J1 nS (iV 13)
   iterate  2 refine G ?_
   refine O1 (sO (cs':=[nS]) c7) (O1 (G1 (cs:=[.int .i64 0]) (cs':=[iV 13]) gr ldC rfl rfl rfl rfl) ?_);refine G ?_;rw[hτ];refine G ?_;exact fin rfl rfl k7 k8 (.inl ⟨rfl,rfl⟩) Om (fun b hb=>(kg b Om).trans (g1 b hb)) ⟨_,hM,gr⟩
  ·have h2:ok=true:=gr
   iterate  7 refine G ?_
   refine A0 rfl ?_ ?_<;>intro h3
   ·have h3:x.code≠0:=gr;obtain⟨U,hτ,k0,k7,k8,kg⟩:=st2 J1 nS (iV x.code);refine G ?_;refine Dy fun df=>L4 (Rr:=Dk []) (anns:=[⟨.pure,0,1⟩,⟨.read,0,1⟩,⟨.eff,0,1⟩,⟨.eff,1,2⟩]) Di (Bw (l:=[]) trivial) Kr ?_
    iterate  2 refine G ?_
    refine DT (sO (cs':=[nS]) c7) (DT (G1 (cs:=[.int .i64 0]) (cs':=[iV x.code]) gr ldC rfl rfl rfl rfl) ?_);refine G ?_;refine⟨⟨trivial,(fun s hs=>⟨_,Ac (ldC (t:=32)) rfl rfl rfl⟩),trivial,trivial,trivial⟩,?_⟩
    rw[hτ];refine G ?_;exact fin rfl rfl k7 k8 (.inl ⟨rfl,rfl⟩) Om (fun b hb=>(kg b Om).trans (g1 b hb)) ⟨_,hM,gr⟩
   ·have h3:x.code=0:=gr;obtain⟨hof,hofb⟩:=hx.o h3;have hnd:=hx.nd h3;obtain⟨bs,hbl,hbc,_⟩:=hS1.cl;refine G ?_;refine Dy fun df=>XS (l:=[(94,[iV n,nV x.vars.length,iV fuel],J1,iV (Ayi n fuel x.vars.length 1),J1)]) ⟨f94g fuel n x.vars.length J1 hf1 hf9 hn1 h5 hcv,trivial⟩ ?_
    iterate  3 refine G ?_
    refine DF (E8 hbc ldC rfl Aze) ?_
    iterate  9 refine G ?_
    refine A0 rfl ?_ ?_<;>intro h4
    ·have h4:fuel<Ayi n fuel x.vars.length 1:=of_decide_eq_true h4;obtain⟨U,hτ,k0,k7,k8,kg⟩:=st2 J1 nS (iV 10)
     iterate  2 refine G ?_
     refine O1 (sO (cs':=[nS]) c7) (O1 (G1 (cs:=[.int .i64 0]) (cs':=[iV 10]) gr ldC rfl rfl rfl rfl) ?_);refine G ?_;rw[hτ];refine G ?_;exact fin rfl rfl k7 k8 (.inl ⟨rfl,rfl⟩) Om (fun b hb=>(kg b Om).trans (g1 b hb)) ⟨_,hM,gr⟩
    ·have h4:¬(fuel<Ayi n fuel x.vars.length 1):=of_decide_eq_false h4
     have hRn:∀R o,Run n x.vars.reverse (fun m=>Ay9 gd n tm m x.tree) (Ayy x.vars) o->(R=match o with|none=>([],5)|some m=>(Aye x.vars m,0))->A0s gd n tm l x fuel R:=fun R o h q=>
      ⟨_,hM,gr⟩
     obtain⟨aY,haY⟩:∃aY,nx J1+1=aY:=⟨_,rfl⟩;obtain⟨J7,hσ7⟩:∃J7,J1.bump.new (.loop .ready)=J7:=⟨_,rfl⟩;have n7:nx J7=nx J1+2:=gr;have g7:∀b,b<nx J1->J7.get b=J1.get b:=gr;have y7:J7.get aY=some (.loop .ready):=gr
     iterate  7 refine G ?_
     refine Ca (f131 (vars:=x.vars) (J:=J1) (show a<nx J1 by omega)) ?_
     iterate  2 refine G ?_
     refine L6 rfl (fun tm9 htm=>?_)
     rw[hσ7,haY]
     refine et_ (f165 (L:=⟨aY,tm9,Tryz.f82.ntmps,_,_,_⟩) (d:=d) (g:=g) (gd:=gd) (tm:=tm) (N0:=N) (r:=r) (I:=fun U=>U.get aY=some (.loop .ready)/\U.get (nx J+1)=some (.cells [nS])/\U.get (nx J+2)=some (.cells [.int .i64 0])/\aY<nx U/\∀b,b<nx J->U.get b=J.get b) (aA:=fun m z U=>z=.ret/\U.get aY=some (.loop (H2 .ret))/\U.get (nx J+1)=some (.cells [slV eVl 2 (Aye x.vars m)])/\U.get (nx J+2)=some (.cells [iV 0])/\nx J<=nx U/\∀b,b<nx J->U.get b=J.get b) (bad:=fun m=>Ay9 gd n tm m x.tree) (ap_ ..) hn1 h5 hnd hcv J7 ⟨?w,?ext,?y⟩ ⟨y7,gr,gr,by omega,fun b hb=>(g7 b Om).trans (g1 b hb)⟩) ?pos
     case w=>
      rintro U ⟨_,_,_,_,h⟩;exact hS.of_get hw h
     case ext=>
      rintro U U' q ⟨h1,h3,h4,h5,h6⟩ hq hn hg
      exact⟨gr,gr,gr,by omega,gr⟩
     case y=>
      rintro vm q U hq hmv hvr ⟨hyt,q7,q8,hyl,hgt⟩;obtain⟨U1,hτ1⟩:∃U1,U.set aY (.loop .busy)=U1:=⟨_,rfl⟩;have nt1:nx U1=nx U:=gr;have gt1:∀b,b≠aY->U1.get b=U.get b:=gr;have yt1:U1.get aY=some (.loop .busy):=gr;have hmv1:B8 iV U1 q vm:=hmv.of_get (gt1 _ Om);have hSt:Ayj d g n gd tm N a r U1:=hS.of_get hw fun b hb=>(gt1 b Om).trans (hgt b hb)
      obtain⟨bs,hbl,hbc,hbe⟩:=hSt.cl;obtain⟨k1,k2⟩:=Azb ht hvr x.tree hof;obtain⟨k,hk⟩:=Int.eq_ofNat_of_zero_le k1
      have hk5:k<5:=by omega
      have h76:=f76 d g n gd tm vm N a r q U1 hSt hmv1 ht h5 hvr x.tree hof hofb
      rw[hk,show En x.tree=.agg [sV lf,slV eT 2 kf] by rw[hform,Cg]]at h76
      have hbd:Ay9 gd n tm vm x.tree= !gdB gd (Int.ofNat k):=by unfold Ay9;rw[hk];rfl
      refine Tk htm rfl Kr Kr Kr hyt gr ?_
      iterate  3 refine G ?_
      refine⟨hyt,?_⟩;rw[show U.set aY (.loop .busy)=U1 from hτ1]
      iterate  2 refine G ?_
      refine Dy fun df=>XI (l:=[(76,[.pr a 0,.agg [sV lf,slV eT 2 kf],.mp q],U1,iV (.ofNat k),U1)]) ⟨h76,trivial⟩ ?_
      iterate  8 refine G ?_
      refine DF (Bp (v:=.pr a (6+k*1)) A3v rfl rfl hk5 rfl) (DF (E8 (v:=.bool (gdB gd (Int.ofNat k))) hbc ldC rfl (by rw[hbe];exact A2h hk5)) ?_)
      iterate  2 refine G ?_
      refine⟨rfl,by simp,?_⟩
      refine A0 rfl ?_ ?_<;>intro h9
      ·have hb:Ay9 gd n tm vm x.tree=true:=hbd.trans h9;obtain⟨U2,hτ2,k0,k7,k8,kg⟩:=st2 U1 (slV eVl 2 (Aye x.vars vm)) (iV 0)
       iterate  5 refine G ?_
       refine Ca (f133 hmv1 hcv) ?_;refine O1 (G1 (cs:=[nS]) (cs':=[slV eVl 2 (Aye x.vars vm)]) ((gt1 _ Om).trans q7) ldC rfl rfl rfl rfl) ?_;refine O1 (G1 (cs:=[.int .i64 0]) (cs':=[iV 0]) gr ldC rfl rfl rfl rfl) ?_;refine G ?_;rw[hτ2];refine G ?_;refine⟨show U2.get aY=_ from(kg _ Om).trans yt1,?_⟩
       grind
      ·have hb:Ay9 gd n tm vm x.tree=false:=hbd.trans h9;refine G ?_;refine⟨yt1,?_⟩
       show if Ay9 gd n tm vm x.tree=true then _ else _
       rw[if_neg gr]
       exact⟨rfl,⟨by rw[aa_,if_pos rfl];rfl,gr,gr,gr,gr⟩,hmv1.of_get gr⟩
     case pos=>
      rintro u J' ⟨o,bq,hn9,bh⟩;cases o with
      |some m=>
       obtain⟨z,_,rfl,hy9,q7,q8,hn8,hg8⟩:=bh;refine⟨.ret,hy9,?_⟩;exact fin rfl rfl gr gr (.inr rfl) gr gr (hRn _ _ bq rfl)
      |none=>
       obtain⟨hy9,q7,q8,hl9,hg9⟩:=bh;refine⟨.normal,hy9,?_⟩;obtain⟨U,hτ,k0,k7,k8,kg⟩:=st2 (J'.kill aY) nS (iV 5)
       iterate  2 refine G ?_
       refine O1 (G1 (cs:=[nS]) (cs':=[nS]) gr ldC rfl rfl rfl rfl) ?_;refine O1 (G1 (cs:=[.int .i64 0]) (cs':=[iV 5]) gr ldC rfl rfl rfl rfl) ?_;refine G ?_;rw[hτ];refine G ?_;exact fin rfl rfl k7 k8 (.inl ⟨rfl,rfl⟩) gr gr (hRn _ _ bq rfl)
theorem f78(d m J)(hD:DbB d)(hvf:d.vars.length+d.frames.length<1000000)(hM:MdB m){fuel}(hf1:0<=fuel)(hf9:fuel<=100000):Al Ew 78 [dbV d,mdV m,iV fuel] J fun v J'=>(∃p,v=.tup [p,iV (Ayd (ofF d) m)]/\AV.und (nx J') p=true/\Below (nx J) J J'/\(Ayd (ofF d) m=0->p=.pr (nx J+1) 0/\Ayq d (ofF d).1 m.n m.des (Ayx (ofF d).1.rules m.n m.tabs).2 (nx J) (nx J+1) (nx J) J')):=by
 refine Aj Tryz.func78 rfl rfl fun hw hu0=>?_
 refine G11 ?_;refine Az rfl rfl rfl rfl (f71 d m J hD hvf hM) ?_;rintro _ U ⟨p,rfl,hu9,hB,hp⟩;refine G6 ?_;have hl:decide (fuel<0)=false:=decide_eq_false Om;have hg:decide ((100000:Int)<fuel)=false:=decide_eq_false Om;refine G6 ?_;refine Hq 6 _ false rfl rfl rfl rfl rfl (Eh rfl) (fun hg=>?_) (fun hg=>?_) ?_
 ·iterate 2 refine Gn hg ?_
  rw[hl];refine Gn hg ?_
  refine Qh 2 _ false rfl rfl rfl rfl rfl (Ft rfl rfl rfl rfl (by rw[hg];rfl)) (fun hg=>?_) (fun hg=>?_) ?_
  ·iterate 2 refine Gn hg ?_
   refine G ?_;refine⟨rfl,?_,?_⟩
   ·exact sb
   ·rename_i hgg;exact congrArg (fun b=>some (AV.bool b)) (by assumption)
  ·iterate 2 refine Gn hg ?_
   refine G ?_;exact⟨rfl,sb⟩
  refine G ?_;refine⟨rfl,?_,?_⟩
  ·exact sb
  ·exact rfl
 ·iterate 6 refine Gn hg ?_
  refine G ?_;exact⟨rfl,sb⟩
 refine G ?_;refine Ab rfl ?_ ?_<;>intro h1
 ·grind
 ·refine G8 ?_;refine Bo fun hw1=>?_
  refine G ?_
  refine⟨_,rfl,_,_,a_ hw1 nl (fun _ _=>rfl),hB.1,.same (by show(AV.und _ p&&(true&&true))=true;rw[hu9];rfl),p,rfl,hu9,hB,hp⟩
def Ayt(d:Db)(m:Ax9)(l:List Str)(fuel:Int)(R:List Ayb×Int):Prop:=if Ayd (ofF d) m=0 then A0s m.des m.n (tmO d m) ((Ayg d d.frames.length).map (·.1)) (Ayr d (ofF d).1 l) fuel R else R=([],Ayd (ofF d) m)
theorem f30(d m J)(hD:DbB d)(hvf:d.vars.length+d.frames.length<1000000)(hfr:∀f∈d.frames,f.hyps.length<=1000000/\f.text.length<1000000/\∀h∈f.hyps,h.text.length<1000000)(hM:MdB m)(hC:∀f∈d.frames,Ayd (ofF d) m=0->A07 (ofF d).1 (Ayc d f)){l}(hl:l.length<1000000)(hG:Ayd (ofF d) m=0->A23 (ofF d).1 (Ayr d (ofF d).1 l)){fuel}(hf1:1<=fuel)(hf9:fuel<=100000):
  Al Ew 30 [dbV d,mdV m,Af l,iV fuel] J fun v J'=>∃R,v=.tup [slV eVl 2 R.1,iV R.2]/\Ayt d m l fuel R/\J'=J:=by
 have hgl:=(Yc d).len;refine Aj Tryz.func30 rfl rfl fun hw hu0=>?_
 refine G12 ?_
 refine Az rfl rfl rfl rfl (f78 d m J hD hvf hM (show 0<=fuel by omega) hf9) ?_
 rintro _ U ⟨p,rfl,hu9,hB,hp⟩;refine G12 ?_;refine Ab rfl ?_ ?_<;>intro h1
 ·have h1:Ayd (ofF d) m≠0:=gr;refine G7 ?_
  exact⟨_,rfl,.tup [slV eVl 2 [],iV (Ayd (ofF d) m)],J,am_ hw hB,nl,.tup (.cons (.nils gr) (.cons (.same rfl) .nil)),([],Ayd (ofF d) m),rfl,by unfold Ayt;rw[if_neg h1],rfl⟩
 ·have h1:Ayd (ofF d) m=0:=gr;obtain⟨rfl,hS⟩:=hp h1;obtain⟨g1,g5,gT⟩:=Ayu h1;have hcl:=Azf d d.frames.length
  have hcm:∀c∈(Ayg d d.frames.length).map (·.1),A07 (ofF d).1 c:=fun c hc=>by
   obtain⟨x,hx,rfl⟩:=bt_.1 hc;obtain⟨i,_,hi⟩:=List.mem_filterMap.1 hx;unfold A13 at hi
   grind
  refine G4 ?_;refine Ca (f81 hS.g hD hvf hfr) ?_;refine G12 ?_;refine Ca (f83 hS.g hD hvf Om hl) ?_;refine G ?_;refine Az rfl rfl rfl rfl (f82 hS.g gT g1 g5 hcm gr (hG h1) hf1 hf9) ?_;rintro _ _ ⟨R,rfl,hR,rfl⟩;refine G6 ?_
  exact⟨_,rfl,_,J,am_ hw hB,nl,.same (by
   have h3:AV.und (nx J) (slV eVl 2 R.1)=true:=A2 (fun _=>rfl) _
   show(AV.und (nx J) (slV eVl 2 R.1)&&(true&&true))=true;rw[h3];rfl),R,rfl,by unfold Ayt;rw[if_pos h1];exact hR,rfl⟩
theorem A04(d l):M6 (B1 d l).1<=4000/\hT (B1 d l).1<=100:=by
 have z:M6 Ek<=4000/\hT Ek<=100:=by decide
 unfold B1
 split
 ·exact z
 ·split
  ·exact z
  ·split
   ·exact z
   ·split
    ·exact z
    ·unfold Mu
     split
     ·exact z
     ·split
      ·exact z
      ·split
       ·exact z
       ·rename_i h4
        split
        ·exact z
        ·rename_i h5
         refine⟨Nat.le_of_not_lt h4,?_⟩;have h6:=Nat.le_of_not_lt h5
         rw[show ∀t:Ax,dpT t 1=hT t from fun t=>by have:=A4b t 1;omega]at h6
         exact h6
theorem A45{g r}(h:Hr g r=true):(D1 r).Nodup:=by
 unfold Hr at h
 split at h
 ·cases h
 ·split at h
  ·cases h
  ·rename_i hb
   rw[Bool.not_eq_true]at hb;have hs:=Aff hb;have hp:(Ei (D1 r)).Perm (D1 r):=List.mergeSort_perm _ _;refine hp.nodup_iff.1 (List.pairwise_iff_getElem.2 fun i j hi hj hij e=>?_)
   grind
theorem A24{g}(h:Eb g=0):∀r∈g.rules,Hr g r=true:=by
 unfold Eb at h
 split at h
 ·cases h
 ·split at h
  ·cases h
  ·split at h
   ·cases h
   ·rename_i h3;exact(Ace (by simpa using h3)).1
theorem A25{D text to}:∀(ps:List Pt) (a:Nat) (kids l:List Sp),l∈wyP D text to ps a kids->(∀j,(∀p∈ps,p.sort≠[]->p.arg.toNat≠j)->l[j]? =kids[j]?)/\
  (((Ij ps).map fun p=>p.arg.toNat).Nodup->(∀p∈ps,p.sort≠[]->p.arg.toNat<kids.length)->∀p∈ps,p.sort≠[]->∃e,l[p.arg.toNat]? =some e/\e.1=p.sort)/\∀p∈ps,p.sort=[]->∃b,p.symbol=text.getD b []
 |[],a,kids,l,h=>by
  unfold wyP at h
  grind
 |p::ps,a,kids,l,h=>by
  unfold wyP at h
  split at h
  ·cases h
  ·rename_i hl
   split at h
   ·rename_i hs
    obtain⟨h1,h2,h3⟩:=A25 ps _ _ l h;refine⟨fun j hj=>h1 j fun q hq=>hj q (aj_ _ hq),fun hd hb q hq hqs=>?_,fun q hq hqs=>?_⟩
    ·rcases an_.1 hq with rfl|hq
     ·grind
     ·refine h2 ?_ (fun q hq=>hb q (aj_ _ hq)) q hq hqs
      have e:Ij (p::ps)=Ij ps:=by unfold Ij Ajc;grind
      rwa[e]at hd
    ·rcases an_.1 hq with rfl|hq
     ·unfold ldP at hl
      grind
     grind
   ·rename_i hs
    obtain⟨e,_,h⟩:=List.mem_flatMap.1 h
    split at h
    ·obtain⟨h1,h2,h3⟩:=A25 ps _ _ l h;refine⟨fun j hj=>?_,fun hd hb q hq hqs=>?_,fun q hq hqs=>?_⟩
     ·grind
     ·have ea:Ij (p::ps)=p::Ij ps:=by unfold Ij Ajc;grind
      rw[ea,cn_,ed_]at hd
      rcases an_.1 hq with rfl|hq
      ·refine⟨(q.sort,a,e),?_,rfl⟩
       rw[h1 _ fun x hx hxs e=>hd.1 (bt_.2 ⟨x,cp_.2 ⟨hx,by simpa[Ajc]using hxs⟩,e⟩),f_ (hb q (ap_ ..) hqs)]
      grind
     grind
    ·cases h
theorem A4l{g}(hv:∀r∈g.rules,Hr g r=true){D text r a to}{rl:Rl}(hr:g.rules[r]? =some rl):∀l∈Qx g D text r a to,∀p∈rl.parts,(p.sort≠[]->∃e,l[p.arg.toNat]? =some e/\e.1=p.sort)/\(p.sort=[]->∃b,p.symbol=text.getD b []):=fun l h p hp=>by
 have kq:=hv rl (ab_ hr)
 have hP:rPt g r=rl.parts:=by unfold rPt;rw[hr]
 unfold Qx at h;rw[hP]at h;obtain⟨_,h2,h3⟩:=A25 _ _ _ l h;have ha:=(Tp kq).2.2;refine⟨fun hps=>h2 ?_ (fun q hq hqs=>?_) p hp hps,h3 p hp⟩
 ·have:=Afk (f:=Int.toNat) (A45 kq) fun x hx y hy e=>by
   unfold D1 Ij at hx hy;obtain⟨q,hq,rfl⟩:=bt_.1 hx;obtain⟨u,hu,rfl⟩:=bt_.1 hy;rw[cp_]at hq hu
   obtain⟨j,hj,_⟩:=ha q hq.1 (by simpa[Ajc]using hq.2)
   obtain⟨k,hk,_⟩:=ha u hu.1 (by simpa[Ajc]using hu.2)
   grind
  unfold D1 at this
  grind
 ·obtain⟨j,hj,hlt⟩:=ha q hq hqs;rw[fi_,hj];unfold Qw at hlt
  grind
def KAt(L:List Sp)(o:List Nat)(P:List Sp):Prop:=∀(j k:Nat),o[j]? =some k->∃e,P[j]? =some e/\L[k]? =some e
theorem A46{α:Type}{L X:List α}{k:Nat}{e}(h:L[k]? =some e):(L++X)[k]? =some e:=gr
theorem A4m{L s}:(D2 L s).2[(D2 L s).1]? =some s/\∃X,(D2 L s).2=L++X:=by
 unfold D2
 split
 ·rename_i h
  have hi:=List.idxOf_lt_length_of_mem h;exact⟨gr,[],(bh_ _).symm⟩
 grind
theorem A1s:∀(l P L:List Sp) (o:List Nat),o.length=P.length->KAt L o P->(∃X,(Ct L l o).2=L++X)/\KAt (Ct L l o).2 (Ct L l o).1 (P++l)
 |[],P,L,o,_,h=>⟨⟨[],(bh_ _).symm⟩,by rw[bh_];exact h⟩
 |s::r,P,L,o,hl,h=>by
  obtain⟨h1,X,hX⟩:=A4m (L:=L) (s:=s);unfold Ct
  obtain⟨⟨Y,hY⟩,h3⟩:=A1s r (P++[s]) (D2 L s).2 (o++[(D2 L s).1]) (by simp[hl]) fun j k hk=>by
   by_cases hj:j<o.length
   ·rw[cg_ hj]at hk;obtain⟨e,e1,e2⟩:=h j k hk
    grind
   grind
  grind
structure SWk (g:Gr)(text:List Str)(L:List Sp)(s:Sp)(w:Wy):Prop where
 so:rSo g w.rule=s.1
 kid:∀rl,g.rules[w.rule]? =some rl->∀p∈rl.parts,(p.sort≠[]->∃k e,w.kids[p.arg.toNat]? =some k/\L[k]? =some e/\e.1=p.sort)/\(p.sort=[]->∃b,p.symbol=text.getD b [])
theorem SWk.mono{g text L X s w}(h:SWk g text L s w):SWk g text (L++X) s w:=
 ⟨h.so,fun rl hr p hp=>⟨fun hs=>by
  obtain⟨k,e,h1,h2,h3⟩:=(h.kid rl hr p hp).1 hs
  grind,(h.kid rl hr p hp).2⟩⟩
theorem A30{g}(hv:∀r∈g.rules,Hr g r=true){D text s x P Q}(hx:x∈Ajj g D text s)(hw:∀w∈P.ways,SWk g text P.list s w)(h:F7 x P=some Q):
  (∀w∈Q.ways,SWk g text Q.list s w)/\∃X,Q.list=P.list++X:=by
 unfold F7 at h
 split at h
 ·cases h
 ·cases h
  obtain⟨⟨X,hX⟩,hK⟩:=A1s x.2 [] P.list [] rfl (fun j k hk=>by cases hk)
  obtain⟨bl,_,_⟩:=Xa x.2 P.list [] gr;refine⟨fun w hw'=>?_,X,hX⟩
  rcases bb_.1 hw' with hw'|hw'
  ·show SWk g text (Ct P.list x.2 []).2 s w
   rw[hX];exact(hw w hw').mono
  ·rw[ao_]at hw';subst hw';obtain⟨r,hr,hx⟩:=List.mem_flatMap.1 hx;obtain⟨l,hl,rfl⟩:=bt_.1 hx;refine⟨of_decide_eq_true (cp_.1 hr).2,fun rl hrl p hp=>?_⟩
   obtain⟨h1,h2⟩:=A4l hv hrl l hl p hp;refine⟨fun hs=>?_,h2⟩
   obtain⟨e,e1,e2⟩:=h1 hs;have hj:p.arg.toNat<(Ct P.list l []).1.length:=gr;have hk:=az_ hj;obtain⟨e',e3,e4⟩:=hK _ _ hk
   grind
theorem A3n{g}(hv:∀r∈g.rules,Hr g r=true){D text s}:∀(l:List (Nat×List Sp)) {P Q:Pk},(∀x∈l,x∈Ajj g D text s)->(∀w∈P.ways,SWk g text P.list s w)->Pj l P=some Q->
  (∀w∈Q.ways,SWk g text Q.list s w)/\∃X,Q.list=P.list++X
 |[],P,Q,_,hw,h=>by cases h;exact⟨hw,[],(bh_ _).symm⟩
 |x::r,P,Q,hl,hw,h=>by
  unfold Pj at h
  split at h
  ·cases h
  ·rename_i P' hP
   obtain⟨a1,X,a2⟩:=A30 hv (hl x (ap_ ..)) hw hP;obtain⟨b1,Y,b2⟩:=A3n hv r (fun y hy=>hl y (aj_ _ hy)) a1 h
   grind
def FAt(g:Gr)(text:List Str)(L:List Sp)(F:List Nde):Prop:=∀(n:Nat) (x:Nde),F[n]? =some x->L[n]? =some x.sp/\∀w∈x.ways,SWk g text L x.sp w
theorem A2n{g}(hv:∀r∈g.rules,Hr g r=true){D text}:∀(f i total:Nat) (L:List Sp) (nodes F:List Nde),nodes.length=i->FAt g text L nodes->Pf g D text f i total L nodes=some F->∃L',FAt g text L' F/\∃X,L'=L++X
 |0,_,_,_,_,_,_,_,h=>by cases h
 |f+1,i,total,L,nodes,F,hn,hF,h=>by
  unfold Pf at h
  split at h
  ·cases h;exact⟨L,hF,[],(bh_ _).symm⟩
  ·rename_i s hs
   split at h
   ·cases h
   ·rename_i P hP
    obtain⟨a1,X,a2⟩:=A3n hv _ (fun x hx=>hx) gr hP
    have a2:P.list=L++X:=a2
    obtain⟨L',b1,Y,b2⟩:=A2n hv f (i+1) P.total P.list (nodes++[⟨s,P.ways⟩]) F (by simp[hn]) (fun n x hx=>by
     by_cases hlt:n<nodes.length
     ·rw[cg_ hlt]at hx;obtain⟨c1,c2⟩:=hF n x hx;rw[a2];exact⟨A46 c1,fun w hw=>(c2 w hw).mono⟩
     grind) h
    grind
theorem A3o(s):∀l:List Ax,ocL s l=l.any (ocT s)
 |[]=>rfl
 |t::r=>by rw[ocL,A3o s r];rfl
def A3p(g:Gr)(text:List Str)(s:Str):Prop:=∃rl∈g.rules,rl.label=s/\∀p∈rl.parts,p.sort=[]->∃b,p.symbol=text.getD b []
theorem A47{g}(hG:GOk g)(hv:∀r∈g.rules,Hr g r=true){text L F c E}(hF:FOk g F.length F)(hA:FAt g text L F)(h:CI F c E):∀(i n:Nat),E[i]? =some n->c.2.getD n 0≠0->(∃x,F[n]? =some x/\Ayf g.rules (fT g F c n)=some x.sp.1)/\∀s,ocT s (fT g F c n)=true->A3p g text s:=by
 intro i
 induction i using Nat.strongRecOn with
 |_ i ih=>
  intro n hi hn;obtain⟨x,w,hx,hf,hw,hp,hk⟩:=h.first hi hn;rw[Ajn h hi hn hx hf];have ok:=hF x (au_.2 ⟨_,hx⟩) w hw;obtain⟨_,hA2⟩:=hA n x hx;have hS:=hA2 w hw;obtain⟨rl,hrl⟩:∃rl,g.rules[w.rule]? =some rl:=⟨_,az_ ok.rule⟩
  have iq:Md g w.rule=rl.label:=by unfold Md;rw[hrl]
  have hso:rl.sort=x.sp.1:=by rw[←hS.so];unfold rSo;rw[hrl]
  have hro:=Aft hG.nd hrl;have hkid:=hS.kid rl hrl
  have bl:Qw rl=w.kids.length:=by
   rw[ok.len];unfold Qw nPt rPt;rw[hrl];simp
  refine⟨⟨x,hx,?_⟩,fun s hs=>?_⟩
  ·rw[Ayf,iq,hro];simp only;rw[if_pos,hso];rw[ad_];refine⟨?_,decide_eq_true gr⟩;refine b_.2 fun p hp=>?_
   by_cases hs:p.sort=[]
   ·simp[hs]
   ·obtain⟨k,e,k1,k2,k3⟩:=(hkid p hp).1 hs;have hkm:=ab_ k1;obtain⟨⟨j,hj,hj'⟩,hn'⟩:=hk k hkm;obtain⟨⟨y,hy,hform⟩,_⟩:=ih j hj k hj' hn';have:=(hA k y hy).1;rw[k2]at this;cases this;rw[bk_];right;refine decide_eq_true ?_;rw[Azh,br_,br_,k1]
    grind
  ·rw[ocT,bk_]at hs
   rcases hs with hs|hs
   ·have hs:=of_decide_eq_true hs;exact⟨rl,ab_ hrl,gr,fun p hp=>(hkid p hp).2⟩
   ·rw[A3o,e_]at hs
    grind
theorem A26{g}(hG:GOk g)(hv:∀r∈g.rules,Hr g r=true){text D sp F t}(hpk:Im g D text sp=some F)(h:Mu g F=(t,0)):Ayf g.rules t=some sp.1/\∀s,ocT s t=true->A3p g text s:=by
 obtain⟨hF,h0,_⟩:=Acl hpk
 obtain⟨L,hA,X,hX⟩:=A2n hv 4002 0 0 [sp] [] F rfl (fun n x hx=>by cases hx) hpk
 unfold Mu at h
 split at h
 ·cases h
 ·rename_i c hc
  split at h
  ·cases h
  ·rename_i h1
   split at h
   ·cases h
   ·split at h
    ·cases h
    ·cases h;obtain⟨E,hg,hm⟩:=Z5 hF _ 0 _ [] c ci0 h0 hc;obtain⟨i,hi⟩:=au_.1 hm;obtain⟨⟨x,hx,h2⟩,h3⟩:=A47 hG hv hF hA hg.ci i 0 hi Om;refine⟨?_,h3⟩;have:=(hA 0 x hx).1;rw[hX]at this;cases this;exact h2
theorem A28{d}(h:(ofF d).2=0):Ea d=0/\∃g,Kw (Il (Bt d) []) d.vars zG=some g/\F6 d.frames g=some (ofF d).1:=by
 unfold ofF at h⊢
 grind
theorem A29{d l T}(h:B1 d l=(T,0)):(ofF d).2=0/\∃t0 text F D w,l=t0::text/\Im (ofF d).1 D text w=some F/\Mu (ofF d).1 F=(T,0):=by
 unfold B1 at h
 by_cases he:(ofF d).2≠0
 ·grind
 ·rw[if_neg he]at h;refine⟨Classical.byContradiction he,?_⟩;cases l with
  |nil=>exact absurd (Prod.mk.inj h).2 (by decide)
  |cons t text=>
   have h:(if D7 t∉(ofF d).1.sorts then(Ek,11)else match Fj (ofF d).1 (D7 t) text with
    |(none,e)=>(Ek,if e=160 then 190 else e)
    |(some F,_)=>Mu (ofF d).1 F)=(T,0):=h
   by_cases hs:D7 t∉(ofF d).1.sorts
   ·grind
   ·rw[if_neg hs]at h
    rcases Vt (g:=(ofF d).1) (s:=D7 t) (t:=text)with⟨e,hp,hne⟩|⟨F,D,w,hp,hpk⟩
    ·grind
    grind
theorem A5r(d):∀r∈(ofF d).1.rules,Hr (ofF d).1 r=true:=by
 rcases Ajo (d:=d)with h|h
 ·rw[h];intro r hr;cases hr
 ·exact A24 h
structure Prsd (d:Db)(l:List Str)(T:Ax):Prop where
 of0:(ofF d).2=0
 fm:(Ayf (ofF d).1.rules T).isSome=true
 ok:okT (ofF d).1.rules T=true
 cn:M6 T<=4000
 tx:∃t0 text,l=t0::text/\∀s,ocT s T=true->A3p (ofF d).1 text s
theorem A4s{d l T}(h:B1 d l=(T,0)):Prsd d l T:=by
 obtain⟨h0,t0,text,F,D,w,hl,hpk,ht⟩:=A29 h;obtain⟨h1,h2⟩:=A26 (Yc d) (A5r d) hpk ht
 have hf:(Ayf (ofF d).1.rules T).isSome=true:=by rw[h1];rfl
 have hc:=(A04 d l).1;rw[h]at hc;exact⟨h0,hf,A3d (Yc d).rs T hf,hc,t0,text,hl,h2⟩
theorem A3r{d m}(h:Ayd (ofF d) m=0):(ofF d).2=0:=by
 unfold Ayd at h
 grind
theorem A2s{d}:∀(l:List Hp) (s:ClS),(l.foldl (Ayz d) s).vars=s.vars++(l.filter (·.floating)).map (·.label)/\
  ((l.foldl (Ayz d) s).code=0->s.code=0/\(∀t∈(l.foldl (Ayz d) s).prem,t∈s.prem∨∃h∈l,h.floating=false/\B1 d h.text=(t,0))/\(∀t∈s.prem,t∈(l.foldl (Ayz d) s).prem)/\∀h∈l,h.floating=false->Nv h.text=true->∃t∈(l.foldl (Ayz d) s).prem,B1 d h.text=(t,0))
 |[],s=>⟨(bh_ _).symm,fun h=>⟨h,fun t ht=>.inl ht,fun t ht=>ht,gr⟩⟩
 |h::l,s=>by
  rw[ct_];obtain⟨i1,i2⟩:=A2s l (Ayz d s h)
  have hcs:h.floating=true/\Ayz d s h=⟨s.vars++[h.label],s.prem,s.code⟩∨h.floating=false/\(Nv h.text=true/\Ayz d s h=⟨s.vars,s.prem++[(trC d s.code h.text).1],(trC d s.code h.text).2⟩∨Nv h.text=false/\Ayz d s h=s):=by
   cases hf:h.floating with
   |true=>left;exact⟨rfl,by unfold Ayz;rw[if_pos hf]⟩
   |false=>
    right;refine⟨rfl,?_⟩
    cases ha:Nv h.text with
    |true=>left;exact⟨rfl,by unfold Ayz;grind⟩
    |false=>right;exact⟨rfl,by unfold Ayz;grind⟩
  rcases hcs with⟨hf,e⟩|⟨hf,⟨ha,e⟩|⟨ha,e⟩⟩
  ·rw[e]at i1 i2⊢
   refine⟨by rw[i1,List.filter_cons_of_pos (by simp[hf])];simp,fun hc=>?_⟩
   grind
  ·rw[e]at i1 i2⊢;refine⟨gr,fun hc=>?_⟩
   obtain⟨j1,j2,j3,j4⟩:=i2 hc
   have hs0:s.code=0:=Classical.byContradiction fun q=>by
    have j1:(trC d s.code h.text).2=0:=j1;unfold trC at j1;grind
   have htr:B1 d h.text=((trC d s.code h.text).1,0):=by
    have j1:(trC d s.code h.text).2=0:=j1;unfold trC at j1⊢;grind
   grind
  grind
structure ClOk (d:Db)(f:Fr):Prop where
 ass:Nv f.text=true
 vars:(Ayc d f).vars=(f.hyps.filter (·.floating)).map (·.label)
 form:B1 d f.text=((Ayc d f).form,0)
 prem:∀t∈(Ayc d f).prem,∃h∈f.hyps,h.floating=false/\B1 d h.text=(t,0)
 all:∀h∈f.hyps,h.floating=false->Nv h.text=true->∃t∈(Ayc d f).prem,B1 d h.text=(t,0)
theorem A1h{d f}(hs:(Ayc d f).silent=false)(hc:(Ayc d f).code=0):ClOk d f:=by
 cases ha:Nv f.text with
 |false=>unfold Ayc at hs;rw[if_neg gr]at hs;cases hs
 |true=>
  have e:Ayc d f=⟨false,(Ayk d f.hyps).vars,(Ayk d f.hyps).prem,(trC d (Ayk d f.hyps).code f.text).1,(trC d (Ayk d f.hyps).code f.text).2⟩:=by unfold Ayc;rw[if_pos ha]
  rw[e]at hc;have hc:(trC d (Ayk d f.hyps).code f.text).2=0:=hc
  have h0:(Ayk d f.hyps).code=0:=Classical.byContradiction fun q=>by unfold trC at hc;grind
  obtain⟨i1,i2⟩:=A2s (d:=d) f.hyps ⟨[],[],0⟩;obtain⟨_,j2,_,j4⟩:=i2 h0
  refine⟨ha,by rw[e];exact i1,?_,fun t ht=>?_,fun h hh h1 h2=>?_⟩
  ·rw[e];unfold trC at hc⊢;grind
  ·rw[e]at ht
   rcases j2 t ht with q|q
   ·cases q
   ·exact q
  ·rw[e];exact j4 h hh h1 h2
theorem A1x{k nh}:∀{l:List Hp} {i:Nat} {lab:SM Bool} {ty:SM Str},(Jd k nh l i lab ty).1=0->(l.map (·.label)).Nodup/\∀h∈l,lab.has h.label=false
 |[],_,_,_,_=>⟨dk_,gr⟩
 |h::r,i,lab,ty,h0=>by
  unfold Jd at h0
  split at h0
  ·grind
  ·rename_i hc
   have hz:Vg k lab ty h (decide (Int.ofNat nh<=Int.ofNat i))=0:=gr;obtain⟨i1,i2⟩:=A1x h0
   have hl:lab.has h.label=false:=by
    unfold Vg at hz
    grind
   refine⟨?_,fun x hx=>?_⟩
   ·rw[cn_,ed_];refine⟨fun hm=>?_,i1⟩
    obtain⟨x,hx,e⟩:=bt_.1 hm;have:=i2 x hx;rw[fo_,e]at this
    simp at this
   ·rcases an_.1 hx with rfl|hx
    ·exact hl
    ·have:=i2 x hx;rw[fo_,bv_]at this;exact this.2
theorem A5s{d}(h0:(ofF d).2=0){f}(hf:f∈d.frames):(f.hyps.map (·.label)).Nodup:=by
 obtain⟨hc,_,_⟩:=Afj (A28 h0).1;obtain⟨k',be',_,h2⟩:=To (Ab9 hc) f hf;have:=(A1x (Ai7 h2)).1;rw[show f.all=f.hyps++(f.dummies++[])from rfl,co_]at this
 grind
theorem A2t{d}(h0:(ofF d).2=0){f}(hf:f∈d.frames):((f.hyps.filter (·.floating)).map (·.label)).Nodup:=(A5s h0 hf).sublist (List.filter_sublist.map _)
theorem A3s{d m}(hO:Ayd (ofF d) m=0){f}(hf:f∈d.frames)(hl:f.hyps.length<1000000):A07 (ofF d).1 (Ayc d f):=by
 have h0:=A3r hO;have hcl:=A01 (d:=d) f.hyps ⟨[],[],0⟩
 have hb:(Ayc d f).vars.length<1000000/\(Ayc d f).prem.length<1000000:=by
  have hc:(Ayk d f.hyps).vars.length<=f.hyps.length/\(Ayk d f.hyps).prem.length<=f.hyps.length:=by unfold Ayk;grind
  unfold Ayc
  grind
 refine⟨hb.1,hb.2,fun h1 h2=>?_,fun h1 h2=>?_⟩
 ·rw[(A1h h1 h2).vars];exact A2t h0 hf
 ·have hc:=A1h h1 h2;have hp:=A4s hc.form
  refine⟨fun t ht=>?_,hp.ok,by have:=hp.cn;omega⟩
  obtain⟨h,_,_,hT⟩:=hc.prem t ht;have hq:=A4s hT
  exact⟨hq.ok,by have:=hq.cn;omega⟩
mutual
theorem A2u {g:List Rl}:∀(t:Ax) (acc:List Str),acc.Nodup->(Ayh g t acc).Nodup
 |.node s ks,acc,h=>by
  unfold Ayh;refine A2v ks _ ?_
  grind
theorem A2v {g:List Rl}:∀(l:List Ax) (acc:List Str),acc.Nodup->(Ayv g l acc).Nodup
 |[],acc,h=>h
 |t::r,acc,h=>by
  unfold Ayv;exact A2v r _ (A2u t acc h)
end
theorem Ay4(d l):A23 (ofF d).1 (Ayr d (ofF d).1 l):=by
 unfold Ayr
 split
 ·split
  ·exact⟨show 0<1000000 by decide,fun h=>absurd h (by assumption),fun h=>absurd h (by assumption)⟩
  ·rename_i h2
   have hT:B1 d l=((B1 d l).1,0):=Prod.ext rfl (Classical.byContradiction h2);have hp:=A4s hT;have hl:=A00 (g:=(ofF d).1.rules) (B1 d l).1 []
   exact⟨by have:=hp.cn;grind,fun _=>A2u _ _ dk_,fun _=>⟨hp.ok,ai_ hp.cn (by decide)⟩⟩
 ·exact⟨show 0<1000000 by decide,fun h=>absurd (show(11:Int)=0 from h) (by decide),fun h=>absurd (show(11:Int)=0 from h) (by decide)⟩
theorem A4v{d}(h:W6 d 15 60=true):W6 d 25 100=true:=by
 unfold W6 at h⊢;simp only[ad_,decide_eq_true_eq,bi_]at h⊢;obtain⟨⟨⟨h1,h2⟩,h3⟩,h4⟩:=h
 refine⟨⟨⟨by omega,h2⟩,h3⟩,dv_.2 fun f hf=>?_⟩
 have:=dv_.1 h4 f hf;unfold bigF at this⊢
 grind
section
variable {Rr:Rec}{ρ:Ad}{J:Sto}{t ty p q:Nat}{k:IntKind}{x y:Operand}
theorem td3:(Ay Ew.P 3).map (·.desc)=some (.int .i64):=Kr
theorem ts5:(Ay Ew.P 5).isSome=true:=Kr
theorem A17(hx:Ah Ew ρ x=some (.int k (.ofNat p)))(hp:p<256):As Ew Rr (.convert 5 3 x) ρ J (nV p) J:=fun tm h=>by
 obtain⟨td,h1,h2⟩:=cy_.1 td3;obtain⟨ts,h3⟩:=bg_.1 ts5;have hb:Nat.ble p 9223372036854775807=true:=ar_ Om;simp only[opA,Aw,h1,h2,h3,h.opd hx,Pp,Me,Ak,M0,hb,cond_true];rfl
end
structure Ent where
 label:Str
 k:Nat
 o:Nat
def eEn(e:Ent):List AV:=[sV e.label,.sr e.o 0 1 e.k (some e.k)]
def A50(J:Sto)(n:Int)(E:List Ent):Prop:=∀e∈E,∃vals:List Int,J.get e.o=some (.cells (vals.flatMap eI))/\vals.length=e.k/\∀x∈vals,0<=x/\x<n
theorem A50.set{J U n E}(h:A50 J n E){o}{vals vals':List Int}(ho:J.get o=some (.cells (vals.flatMap eI)))(hl:vals'.length=vals.length)(hr:∀x∈vals',0<=x/\x<n)
  (hto:U.get o=some (.cells (vals'.flatMap eI)))(hg:∀b,b≠o->U.get b=J.get b):A50 U n E:=fun e he=>by
 obtain⟨vs,h1,h2,h3⟩:=h e he
 by_cases hq:e.o=o
 ·refine⟨vals',gr,?_,hr⟩;rw[hq,ho]at h1;have:=congrArg List.length (AO.cells.inj (by_ h1));rw[Ar5,Ar5]at this;omega
 grind
theorem A7i{n}{l:List Int}(h:∀x∈l,0<=x/\x<n){j y}(hy:0<=y/\y<n):∀x∈l.set j y,0<=x/\x<n:=gr
theorem A54(i):iV (((i+1:Nat):Int)-1)=.int .i64 (.ofNat i):=congrArg iV (by simp)
theorem f96{n}(hn1:1<=n)(h5:n<=5){E v J N}(hO:Own J N eEn 2 E v)(hE:A50 J n E)(hne:∀e∈E,adr v≠some e.o)(hEl:E.length<1000000)(hk:∀e∈E,e.k<1000000):
  Al Ew 96 [v,iV n] J fun w J'=>∃b,w=.bool b/\nx J'=nx J/\A50 J' n E/\∀c,(∀e∈E,e.o≠c)->J'.get c=J.get c:=by
 refine Aj Tryz.func96 rfl rfl fun hw hu0=>?_
 refine G8 ?_;refine O1 (Bf slC rfl hO.lenA.1 hO.lenA.2) (O1 (Agz (q:=1) okC rfl rfl gr gr) ?_);refine G3 ?_;refine Ci (fun k:Nat=>[(0,v),(1,iV n),(5,iV ((k:Int)-1))]) (fun k U=>k<=E.length/\nx U=nx J/\A50 U n E/\∀c,(∀e∈E,e.o≠c)->U.get c=J.get c) (fun k=>k) E.length SL ⟨nl,rfl,hE,fun _ _=>rfl⟩ ?_
 rintro k U ⟨hkl,n0,hE0,g0⟩;refine G6 ?_;refine Ab rfl ?_ ?_<;>intro h1
 ·have h1:(0:Int)<=(k:Int)-1:=of_decide_eq_true h1
  obtain⟨i,rfl⟩:∃i,k=i+1:=⟨k-1,by omega⟩
  have hi:i<E.length:=by omega
  obtain⟨e,he⟩:=Ar hi;have hem:=ab_ he;obtain⟨aT,tl,_,haT,rfl,hcT⟩:=hO.sr hi
  have hcT0:U.get aT=some (.cells (E.flatMap eEn++tl)):=by rw[g0 aT fun e he q=>hne e he (by rw[q];rfl)];exact hcT
  refine G7 ?_;refine O1 (Br elC rfl (congrArg some (A54 i)) hi) ?_;refine G ?_;refine O1 (A7q (enc:=eEn) (v:=.sr e.o 0 1 e.k (some e.k)) (fun _=>rfl) hcT0 he ldC rfl rfl (fun _=>rfl)) ?_
  refine G5 ?_;have hkk:=hk e hem;refine O1 (Bf (n:=e.k) slC rfl rfl rfl) (O1 (Agz (q:=1) okC rfl rfl gr gr) ?_);refine G3 ?_;refine Ci (fun j:Nat=>[(0,.sr aT 0 2 E.length none),(1,iV n),(5,iV (((i+1:Nat):Int)-1)),(6,.sr e.o 0 1 e.k (some e.k)),(7,iV ((j:Int)-1))]) (fun j U=>j<=e.k/\nx U=nx J/\A50 U n E/\∀c,(∀e∈E,e.o≠c)->U.get c=J.get c) (fun j=>j) e.k SL ⟨nl,n0,hE0,g0⟩ ?_
  rintro j U1 ⟨hjl,n1,hE1,g1⟩;refine G6 ?_;refine Ab rfl ?_ ?_<;>intro h2
  ·have h2:(0:Int)<=(j:Int)-1:=of_decide_eq_true h2
   obtain⟨p,rfl⟩:∃p,j=p+1:=⟨j-1,by omega⟩
   have hp:p<e.k:=by omega
   obtain⟨vals,hv1,hv2,hv3⟩:=hE1 e hem
   have hpv:p<vals.length:=by omega
   obtain⟨x,hx⟩:=Ar hpv;have hx3:=hv3 x (ab_ hx);have hv1':U1.get e.o=some (.cells (vals.flatMap eI++[])):=gr;obtain⟨U2,hτ2⟩:∃U2,U1.set e.o (.cells ((vals.set p (x+1)).flatMap eI++[]))=U2:=⟨_,rfl⟩;have n2:nx U2=nx U1:=gr;have c2:U2.get e.o=some (.cells ((vals.set p (x+1)).flatMap eI++[])):=gr;have g2:∀b,b≠e.o->U2.get b=U1.get b:=gr;have hpx:(vals.set p (x+1))[p]? =some (x+1):=gr;refine G8 ?_;refine O1 (Br elC rfl (congrArg some (A54 p)) hp) (O1 (Dg (enc:=eI) (v:=iV x) (fun _=>rfl) ldC rfl hv1' hx (fun _=>rfl)) ?_)
   refine O1 (A0y (q:=1) okC rfl rfl Om Om) ?_;refine O1 (Br elC rfl (congrArg some (A54 p)) hp) (O1 (Tb (enc:=eI) (u:=x+1) (fun _=>rfl) ldC rfl rfl rfl hv1' hpv) ?_)
   refine G ?_;rw[hτ2];refine G4 ?_;refine O1 (Br elC rfl (congrArg some (A54 p)) hp) (O1 (Dg (enc:=eI) (v:=iV (x+1)) (fun _=>rfl) ldC rfl c2 hpx (fun _=>rfl)) ?_)
   refine G3 ?_;have g2':∀c,(∀e∈E,e.o≠c)->U2.get c=J.get c:=fun c hc=>(g2 c fun q=>hc e hem q.symm).trans (g1 c hc)
   refine Ab rfl ?_ ?_<;>intro h3
   ·have h3:x+1<n:=of_decide_eq_true h3;refine G4 ?_;refine Bo fun hw9=>?_
    refine G ?_
    exact⟨_,rfl,_,_,a_ hw9 nl (fun _ _=>rfl),by omega,.same rfl,_,rfl,by omega,hE1.set (vals':=vals.set p (x+1)) hv1 (dc_ ..) (A7i hv3 ⟨by omega,h3⟩) gr g2,g2'⟩
   ·obtain⟨U3,hτ3⟩:∃U3,U2.set e.o (.cells (((vals.set p (x+1)).set p 0).flatMap eI++[]))=U3:=⟨_,rfl⟩;have n3:nx U3=nx U2:=gr;have c3:U3.get e.o=some (.cells (((vals.set p (x+1)).set p 0).flatMap eI++[])):=gr;have g3:∀b,b≠e.o->U3.get b=U2.get b:=gr;refine G4 ?_;refine O1 (Br elC rfl (congrArg some (A54 p)) hp) (O1 (Tb (enc:=eI) (u:=0) (fun _=>rfl) ldC rfl rfl rfl c2 gr) ?_)
    refine G ?_;rw[hτ3];refine G2 ?_;refine O1 (Agz (q:=1) okC rfl rfl gr gr) ?_;refine G2 ?_
    exact⟨p,bl_ _,⟨rfl,rfl,rfl,rfl,congrArg (fun x=>some (iV x)) Om,trivial⟩,by omega,by omega,
     hE1.set (vals':=(vals.set p (x+1)).set p 0) hv1 gr (fun y hy=>by rw[List.set_set]at hy;grind) gr (fun b hb=>(g3 b hb).trans (g2 b hb)),fun c hc=>(g3 c fun q=>hc e hem q.symm).trans (g2' c hc)⟩
  ·have h2:¬(0:Int)<=(j:Int)-1:=of_decide_eq_false h2;refine G3 ?_;refine O1 (Agz (q:=1) okC rfl rfl gr gr) ?_;refine G2 ?_
   exact⟨i,bl_ _,⟨rfl,rfl,congrArg (fun x=>some (iV x)) Om,trivial⟩,by omega,n1,hE1,g1⟩
 ·refine G5 ?_;refine Bo fun hw9=>?_
  refine G ?_
  exact⟨_,rfl,_,_,a_ hw9 nl (fun _ _=>rfl),by omega,.same rfl,_,rfl,n0,hE0,g0⟩
theorem Ayo.det{gd n tm c fuel R R'}(h:Ayo gd n tm c fuel R)(h':Ayo gd n tm c fuel R'):R=R':=by
 unfold Ayo at h h'
 split at h
 ·grind
 ·rename_i q;rw[if_neg q]at h'
  split at h
  ·grind
  ·rename_i q;rw[if_neg q]at h'
   split at h
   ·grind
   ·rename_i q;rw[if_neg q]at h'
    obtain⟨o,h1,h2⟩:=h;obtain⟨o',h1',h2'⟩:=h';rw[h2,h2',h1.det _ h1']
theorem A0b.det{gd n tm fuel}:∀{l:List Ax7} {i:Nat} {R R':Bool×Int×Int},A0b gd n tm fuel l i R->A0b gd n tm fuel l i R'->R=R'
 |[],_,_,_,h,h'=>by unfold A0b at h h';rw[h,h']
 |c::r,i,R,R',h,h'=>by
  unfold A0b at h h';obtain⟨H,h1,h2⟩:=h;obtain⟨H',h1',h2'⟩:=h';rw[←h1.det h1']at h2'
  split at h2
  ·grind
  ·rename_i q;rw[if_neg q]at h2';exact A0b.det h2 h2'
theorem A0b.tt{gd n tm fuel}:∀{l:List Ax7} {i:Nat} {R:Bool×Int×Int},A0b gd n tm fuel l i R->R.1=true->R=(true,0,0)
 |[],_,_,h,_=>by unfold A0b at h;exact h
 |c::r,i,R,h,ht=>by
  unfold A0b at h;obtain⟨H,h1,h2⟩:=h
  split at h2
  ·grind
  ·exact A0b.tt h2 ht
theorem A0s.mdl{gd n tm l x fuel R}(h:A0s gd n tm l x fuel R)(h0:R.2=0):∀M,A0b gd n tm fuel l 0 M->M=(true,0,0):=by
 obtain⟨M,h1,h2⟩:=h;intro M' hM;rw[hM.det h1]
 split at h2
 ·grind
 ·split at h2
  ·grind
  ·rename_i q;exact h1.tt gr
theorem A0s.det{gd n tm l x fuel R R'}(h:A0s gd n tm l x fuel R)(h':A0s gd n tm l x fuel R'):R=R':=by
 obtain⟨M,h1,h2⟩:=h;obtain⟨M',h1',h2'⟩:=h';rw[←h1.det h1']at h2'
 split at h2
 ·grind
 ·rename_i q;rw[if_neg q]at h2'
  split at h2
  ·grind
  ·rename_i q;rw[if_neg q]at h2'
   split at h2
   ·grind
   ·rename_i q;rw[if_neg q]at h2'
    split at h2
    ·grind
    ·rename_i q;rw[if_neg q]at h2'
     obtain⟨o,k1,k2⟩:=h2;obtain⟨o',k1',k2'⟩:=h2';rw[k2,k2',k1.det _ k1']
def FitT(n:Int):List Aya->List Rl->Prop
 |[],[]=>True
 |t::T,r::A=>(t.label=r.label/\Ayi n 10000 (Qw r) 1<=10000/\Int.ofNat t.vals.length=Ayi n 10000 (Qw r) 1/\∀v∈t.vals,0<=v/\v<n)/\FitT n T A
 |_,_=>False
theorem A67{g n}:∀{T:List Aya} {A:List Rl} {tm:SM (List Int)},FitT n T A->(∀r∈A,F4 g r.label=some r/\r.var=false)->(A.map (·.label)).Nodup->(∀r∈A,tm.get r.label=none)->
  Ay2 g n T tm=(0,T.foldl (fun(m:SM (List Int)) t=>m.put t.label t.vals) tm)/\(T.foldl (fun(m:SM (List Int)) t=>m.put t.label t.vals) tm).length=tm.length+A.length
 |[],[],tm,_,_,_,_=>⟨rfl,rfl⟩
 |[],_::_,_,h,_,_,_=>h.elim
 |_::_,[],_,h,_,_,_=>h.elim
 |t::T,r::A,tm,h,hr,hd,hn=>by
  obtain⟨⟨h1,h2,h3,h4⟩,h5⟩:=h;have h6:=hr r (ap_ ..);have h7:=hn r (ap_ ..);have hd:=ed_.1 hd
  have h8:=A67 (tm:=tm.put t.label t.vals) h5 (fun q hq=>hr q (aj_ _ hq)) hd.2 fun q hq=>by
   rw[ch_,if_neg (fun e=>hd.1 gr)]
   grind
  have nz:(t.vals.any fun v=>decide (v<0)||decide (n<=v))=false:=gr
  refine⟨?_,?_⟩
  ·rw[Ay2,h1,h6.1]
   grind
  ·rw[ct_,h8.2,SM.len_put,h1,h7]
   grind
theorem A7k{g}(hG:GOk g):(∀r∈axR g.rules,F4 g.rules r.label=some r/\r.var=false)/\((axR g.rules).map (·.label)).Nodup:=by
 refine⟨fun r hr=>?_,?_⟩
 ·unfold axR at hr;rw[cp_]at hr;obtain⟨j,hj⟩:=List.getElem?_of_mem hr.1;exact⟨Aft hG.nd hj,gr⟩
 ·exact hG.nd.sublist (List.filter_sublist.map _)
theorem A7l{d n gd T}(h0:(ofF d).2=0)(hN:A1c n gd=0)(hT:FitT n T (axR (ofF d).1.rules)):
  Ayd (ofF d) ⟨n,gd,T⟩=0/\tmO d ⟨n,gd,T⟩=T.foldl (fun(m:SM (List Int)) t=>m.put t.label t.vals) []:=by
 obtain⟨h1,h2⟩:=A7k (Yc d);obtain⟨k1,k2⟩:=A67 (g:=(ofF d).1.rules) (tm:=[]) hT h1 h2 fun _ _=>rfl
 have e:Ayx (ofF d).1.rules n T=(0,T.foldl (fun(m:SM (List Int)) t=>m.put t.label t.vals) []):=by
  unfold Ayx
  grind
 refine⟨?_,?_⟩
 ·unfold Ayd;grind
 ·show(Ayx _ n T).2=_;rw[e]
def A7d(p:Nat×Nat):AV:=.sr p.2 0 1 p.1 (some p.1)
def mkE(E:List Ent):SM (Nat×Nat):=E.foldl (fun(m:SM (Nat×Nat)) e=>m.put e.label (e.k,e.o)) []
theorem A7m(E e):mkE (E++[e])=(mkE E).put e.label (e.k,e.o):=by unfold mkE;grind
def toI:AV->Int
 |.int _ n=>n
 |_=>0
def A5z(J:Sto)(o:Nat):List Int:=match J.get o with
 |some (.cells cs)=>cs.map toI
 |_=>[]
theorem A7t(l:List Int):(l.flatMap eI).map toI=l:=by
 induction l with
 |nil=>rfl
 |cons x l ih=>rw[bs_,co_,ih];rfl
theorem A7n{J o l}(h:J.get o=some (.cells (l.flatMap eI))):A5z J o=l:=by
 unfold A5z;rw[h];exact A7t l
def A55(J:Sto)(e:Ent):Aya:=⟨e.label,A5z J e.o⟩
theorem A52{J n E}(h:A50 J n E){e}(he:e∈E):J.get e.o=some (.cells ((A5z J e.o).flatMap eI))/\(A5z J e.o).length=e.k/\∀x∈A5z J e.o,0<=x/\x<n:=by
 obtain⟨l,h1,h2,h3⟩:=h e he;rw[A7n h1]
 grind
theorem SM.mem_set{α}:∀{m:SM α} {s:Str} {x:α} {p:Str×α},p∈m.set s x->p∈m∨p.2=x
 |[],_,_,_,h=>by cases h
 |(k,v)::r,s,x,p,h=>by
  unfold SM.set at h
  split at h
  ·grind
  ·rcases an_.1 h with rfl|h
   ·grind
   ·rcases SM.mem_set h with h|h
    ·grind
    grind
theorem SM.mem_ins{α}:∀{m:SM α} {s:Str} {x:α} {p:Str×α},p∈m.ins s x->p∈m∨p.2=x
 |[],_,_,p,h=>by
  unfold SM.ins at h
  grind
 |(k,v)::r,s,x,p,h=>by
  unfold SM.ins at h
  split at h
  ·grind
  ·rcases an_.1 h with rfl|h
   ·grind
   ·rcases SM.mem_ins h with h|h
    ·grind
    grind
theorem SM.mem_put{α}{m:SM α}{s x p}(h:p∈m.put s x):p∈m∨p.2=x:=by
 unfold SM.put at h
 split at h
 ·exact SM.mem_set h
 ·exact SM.mem_ins h
theorem A7u{E p}(h:p∈mkE E):∃e∈E,p.2=(e.k,e.o):=by
 have key:∀(E:List Ent) (m:SM (Nat×Nat)),p∈E.foldl (fun(m:SM (Nat×Nat)) e=>m.put e.label (e.k,e.o)) m->p∈m∨∃e∈E,p.2=(e.k,e.o):=by
  intro E
  induction E with
  |nil=>intro m h;exact .inl h
  |cons e E ih=>
   intro m h
   rcases ih _ h with h|⟨q,h1,h2⟩
   ·rcases SM.mem_put h with h|h
    ·exact .inl h
    grind
   ·grind
 rcases key E [] h with h|h
 ·cases h
 ·exact h
def SM.mp{α β:Type}(f:α->β)(m:SM α):SM β:=m.map fun p=>(p.1,f p.2)
theorem SM.mp_get{α β}(f:α->β):∀(m:SM α) (s:Str),(m.mp f).get s=(m.get s).map f
 |[],_=>rfl
 |(k,v)::r,s=>by
  show SM.get ((k,f v)::SM.mp f r) s=_
  unfold SM.get
  split
  ·rfl
  ·exact SM.mp_get f r s
theorem SM.mp_set{α β}(f:α->β):∀(m:SM α) (s:Str) (x:α),(m.set s x).mp f=(m.mp f).set s (f x)
 |[],_,_=>rfl
 |(k,v)::r,s,x=>by
  show SM.mp f (SM.set ((k,v)::r) s x)=SM.set ((k,f v)::SM.mp f r) s (f x)
  unfold SM.set
  split
  ·rfl
  ·show(k,f v)::SM.mp f (SM.set r s x)=_;rw[SM.mp_set f r s x]
theorem SM.mp_ins{α β}(f:α->β):∀(m:SM α) (s:Str) (x:α),(m.ins s x).mp f=(m.mp f).ins s (f x)
 |[],_,_=>rfl
 |(k,v)::r,s,x=>by
  show SM.mp f (SM.ins ((k,v)::r) s x)=SM.ins ((k,f v)::SM.mp f r) s (f x)
  unfold SM.ins
  split
  ·rfl
  ·show(k,f v)::SM.mp f (SM.ins r s x)=_;rw[SM.mp_ins f r s x]
theorem SM.mp_put{α β}(f:α->β)(m:SM α)(s x):(m.put s x).mp f=(m.mp f).put s (f x):=by
 unfold SM.put;rw[SM.mp_get];cases m.get s with
 |none=>exact SM.mp_ins f m s x
 |some _=>exact SM.mp_set f m s x
theorem A7x(J E):(mkE E).mp (fun p=>A5z J p.2)=(E.map (A55 J)).foldl (fun(m:SM (List Int)) t=>m.put t.label t.vals) []:=by
 have key:∀(E:List Ent) (m:SM (Nat×Nat)),(E.foldl (fun(m:SM (Nat×Nat)) e=>m.put e.label (e.k,e.o)) m).mp (fun p=>A5z J p.2)=(E.map (A55 J)).foldl (fun(m:SM (List Int)) t=>m.put t.label t.vals) (m.mp fun p=>A5z J p.2):=by
  intro E
  induction E with
  |nil=>intro m;rfl
  |cons e E ih=>intro m;rw[ct_,ih,SM.mp_put];rfl
 exact key E []
theorem A7o{d g n gd N a r J E}(hc:∃b,b.length=5/\J.get a=some (.cells (Aym d g n b r))/\b=gdC gd)(hm:B8 A7d J r (mkE E))(hT:A50 J n E):
  Ayj d g n gd ((E.map (A55 J)).foldl (fun(m:SM (List Int)) t=>m.put t.label t.vals) []) N a r J:=by
 obtain⟨ver,hm⟩:=hm
 have kq:∀p∈mkE E,J.get p.2.2=some (.cells ((A5z J p.2.2).flatMap eI))/\(A5z J p.2.2).length=p.2.1:=fun p hp=>by
  obtain⟨e,he,hq⟩:=A7u hp;rw[hq];have:=A52 hT he
  grind
 refine⟨hc,(mkE E).map fun p=>(p.1,(A5z J p.2.2,some p.2.2)),⟨ver,?_⟩,?_,fun p hp o ho=>?_⟩
 ·rw[hm]
  congr 2
  unfold Cn;rw[List.map_map];refine List.map_congr_left fun p hp=>?_
  show(kS p.1,A7d p.2)=(kS p.1,tabE (A5z J p.2.2,some p.2.2))
  unfold tabE A7d
  grind
 ·rw[←A7x];unfold emF SM.mp;rw[List.map_map];rfl
 grind
def A6t(n:Int):List Ent->List Rl->Prop
 |[],[]=>True
 |e::E,r::A=>(e.label=r.label/\Ayi n 10000 (Qw r) 1<=10000/\Int.ofNat e.k=Ayi n 10000 (Qw r) 1)/\A6t n E A
 |_,_=>False
theorem A6t.snoc{n e r}(h:e.label=r.label/\Ayi n 10000 (Qw r) 1<=10000/\Int.ofNat e.k=Ayi n 10000 (Qw r) 1):∀{E:List Ent} {A:List Rl},A6t n E A->A6t n (E++[e]) (A++[r])
 |[],[],_=>⟨h,trivial⟩
 |[],_::_,q=>q.elim
 |_::_,[],q=>q.elim
 |_::_,_::_,q=>⟨q.1,A6t.snoc h q.2⟩
theorem A6t.len{n}:∀{E:List Ent} {A:List Rl},A6t n E A->E.length=A.length/\∀e∈E,e.k<=10000
 |[],[],_=>⟨rfl,gr⟩
 |[],_::_,q=>q.elim
 |_::_,[],q=>q.elim
 |e::E,r::A,q=>by
  obtain⟨h1,h2⟩:=q.2.len
  refine⟨by simp[h1],fun x hx=>?_⟩
  rcases an_.1 hx with rfl|hx
  ·have h3:=q.1.2.1;have h4:=q.1.2.2
   grind
  grind
theorem A6t.tb{n J}:∀{E:List Ent} {A:List Rl},A6t n E A->A50 J n E->FitT n (E.map (A55 J)) A
 |[],[],_,_=>trivial
 |[],_::_,q,_=>q.elim
 |_::_,[],q,_=>q.elim
 |e::E,r::A,q,h=>by
  have h1:=A52 h (ap_ ..)
  exact⟨⟨q.1.1,q.1.2.1,by show Int.ofNat (A5z J e.o).length=_;rw[h1.2.1];exact q.1.2.2,h1.2.2⟩,q.2.tb fun x hx=>h x (aj_ _ hx)⟩
theorem A7y(k):rep [.int .i64 0] k=(List.replicate k (0:Int)).flatMap eI:=by
 induction k with
 |zero=>rfl
 |succ k ih=>rw[List.replicate_succ,bs_,←ih];rfl
theorem A7e{J U n B}(hn:∀a,B<=a->U.get a=none):∀{E:List Ent},A50 J n E->(∀e∈E,B<=e.o)->FzL J U (E.flatMap eEn) ((E.map (A55 J)).flatMap eTb)
 |[],_,_=>.nil
 |e::E,hT,hB=>by
  obtain⟨h1,h2,_⟩:=A52 hT (ap_ ..);rw[cn_,bs_,bs_]
  show FzL J U (sV e.label::.sr e.o 0 1 e.k (some e.k)::E.flatMap eEn) (sV e.label::slV eI 1 (A5z J e.o)::(E.map (A55 J)).flatMap eTb)
  refine .cons (.same rfl) (.cons ?_ (A7e hn (fun x hx=>hT x (aj_ _ hx)) fun x hx=>hB x (aj_ _ hx)))
  have ht:Dr (e.k*1) (((A5z J e.o).flatMap eI).drop 0)=some ((A5z J e.o).flatMap eI):=by
   have:=D0 (l:=(A5z J e.o).flatMap eI) (r:=[]);rw[bh_,Ar5,h2]at this
   grind
  have:=Fz.sr (off:=0) (sz:=1) (len:=e.k) (cap:=some e.k) h1 (hn e.o (hB e (ap_ ..))) ht (dj_ (A2 (fun _=>rfl) _))
  unfold slV;grind
theorem A7v{J U n E va B}(ho:Own J B eEn 2 E va)(hT:A50 J n E)(hB:∀e∈E,B<=e.o)(hn:∀a,B<=a->U.get a=none):Fz J U va (slV eTb 2 (E.map (A55 J))):=by
 have hL:=A7e hn hT hB
 rcases ho with⟨rfl,rfl|rfl⟩|⟨a,tl,h1,_,rfl,h3⟩
 ·exact .nils gr
 ·exact .sv gr .nil
 ·have ht:Dr (E.length*2) ((E.flatMap eEn++tl).drop 0)=some (E.flatMap eEn):=by
   have:=D0 (l:=E.flatMap eEn) (r:=tl)
   rwa[Dl (sz:=2) (fun _=>rfl)]at this
  have:=Fz.sr (off:=0) (sz:=2) (len:=E.length) (cap:=none) h3 (hn a h1) ht hL;unfold slV;grind
theorem A7z(n):AV.beq (iV n) (iV n)=true:=by
 show(Ed .i64 .i64&&Tz n n)=true
 cases n<;>(simp only[Tz,aw_];rfl)
theorem A7w(r):AV.beqs (eR r) (eR r)=true:=by
 have h:∀p:Pt,AV.beqs (ePt p) (ePt p)=true:=fun p=>by
  unfold ePt;simp only[AV.beqs,Axr,A7z,be_]
 unfold eR;simp only[AV.beqs,Axr,Ahm h,be_,Bool.true_and,Bool.and_true];cases r.var<;>rfl
theorem A68{n m}(hn:0<=n)(hm:0<=m):∀{k:Nat} {c:Int},0<=c->0<=Ayi n m k c
 |0,c,h=>by unfold Ayi;exact h
 |k+1,c,h=>by
  unfold Ayi
  split
  ·omega
  ·exact A68 hn hm (Int.mul_nonneg h hn)
def A64(d:Db)(n:Int)(gd:List Int)(l:List Str)(m:Ax9)(e:Int):Prop:=
 (e≠0/\m.tabs=[])∨(e=0/\MdB m/\Ayd (ofF d) m=0/\m.n=n/\m.des=gd/\∃R,A0s gd n (tmO d m) ((Ayg d d.frames.length).map (·.1)) (Ayr d (ofF d).1 l) 100000 R/\R.2=0)
structure SrI (d:Db)(g:Gr)(n:Int)(gd:List Int)(J:Sto)(A r B:Nat)(E:List Ent)(va:AV)(U:Sto):Prop where
 n0:B<=nx U
 g0:∀b,b<nx J->U.get b=J.get b
 t10:U.get (nx J)=some (.cells [.int .i64 0,nS,nS])
 t15:U.get (nx J+1)=some (.cells [iV n,slV eI 1 gd,va])
 w:∃b,b.length=5/\U.get A=some (.cells (Aym d g n b r))/\b=gdC gd
 mp:B8 A7d U r (mkE E)
 ow:Own U B eEn 2 E va
 tb:A50 U n E
 lo:∀e∈E,B<=e.o/\e.o<nx U/\adr va≠some e.o
theorem f38(d:Db)(n:Int)(gd:List Int)(l:List Str)(k:Nat)(J:Sto)(hD:DbB d)(hvf:d.vars.length+d.frames.length<1000000)(hfr:∀f∈d.frames,f.hyps.length<=1000000/\f.text.length<1000000/\∀h∈f.hyps,h.text.length<1000000)(hfh:∀f∈d.frames,f.hyps.length<1000000)
  (hgd:gd.length<1000000)(hl:l.length<1000000)(hk:k<256):
  Al Ew 38 [dbV d,iV n,slV eI 1 gd,Af l,nV k] J fun v J'=>∃m e,v=.tup [mdV m,iV e]/\A64 d n gd l m e/\J'=J:=by
 have hgl:=(Yc d).len;refine Aj Tryz.func38 rfl rfl fun hw hu0=>?_
 have fz0:∀U:Sto,Fz U J (.agg [.int .i64 0,nS,nS]) (mdV ⟨0,[],[]⟩):=fun U=>.agg (.cons (.same rfl) (.cons (.nils gr) (.cons (.nils gr) .nil)))
 have fin:∀{ρ:Ad} {U:Sto} {vs:List AV} {m:Ax9} {e:Int},Ad.at ρ 10=some (.pr (nx J) 0)->Ad.at ρ 11=some (iV e)->U.get (nx J)=some (.cells vs)->vs.length=3->Fz U J (.agg vs) (mdV m)->nx J<=nx U->(∀b,b<nx J->U.get b=J.get b)->A64 d n gd l m e->
   Agw Ew Tryz.f38 (nx J) (fun v J'=>∃m e,v=.tup [mdV m,iV e]/\A64 d n gd l m e/\J'=J) ρ U:=by
  intro ρ U vs m e p10 p11 q10 hv hF hn hg hQ
  obtain⟨x,y,z,rfl⟩:∃x y z,vs=[x,y,z]:=by
   match vs,hv with
   |[x,y,z],_=>exact⟨x,y,z,rfl⟩
  exact⟨[.agg [x,y,z],iV e],Am (vs:=[x,y,z]) (ldC (t:=62)) p10 (by simp only[Sto.cells];rw[q10]) rfl (by simp only[Us,p11]),.tup [mdV m,iV e],J,am_ hw ⟨hn,hg⟩,nl,.tup (.cons hF (.cons (.same rfl) .nil)),m,e,rfl,hQ,rfl⟩
 obtain⟨J1,hσ1⟩:∃J1,J.new (.cells [.int .i64 0,nS,nS])=J1:=⟨_,rfl⟩;have n1:nx J1=nx J+1:=gr;have g1:∀b,b<nx J->J1.get b=J.get b:=gr;have c1:J1.get (nx J)=some (.cells [.int .i64 0,nS,nS]):=gr;have st0:∀(U:Sto) (vs:List AV),nx (U.set (nx J) (.cells vs))=nx U/\(U.set (nx J) (.cells vs)).get (nx J)=some (.cells vs)/\∀b,b<nx J->(U.set (nx J) (.cells vs)).get b=U.get b:=fun U vs=>⟨Aq ..,gr,gr⟩
 refine G3 ?_;refine O1 (Bj (n:=nx J) ziC rfl) ?_;refine G2 ?_;rw[hσ1];refine G3 ?_;refine Ca (f66 d J1 hD hvf) ?_;refine G12 ?_;refine Ab rfl ?_ ?_<;>intro h1
 ·have h1:(ofF d).2≠0:=gr;refine G4 ?_;refine O1 (sO (cs':=[.int .i64 0,nS,nS]) c1) ?_;refine G3 ?_;obtain⟨s1,s2,s3⟩:=st0 J1 [.int .i64 0,nS,nS];exact fin (m:=⟨0,[],[]⟩) rfl rfl s2 rfl (fz0 _) Om (fun b hb=>(s3 b hb).trans (g1 b hb)) (.inl ⟨h1,rfl⟩)
 have h1:(ofF d).2=0:=gr;refine G7 ?_;refine Qh 2 _ (decide ((100000:Int)<.ofNat k)) rfl rfl rfl rfl rfl (Eh rfl) (fun hg=>?_) (fun hg=>?_) ?_
 ·iterate 2 refine Gn hg ?_
  refine G ?_;refine⟨rfl,?_,?_⟩
  ·exact sb
  ·exact rfl
 ·iterate 2 refine Gn hg ?_
  refine G ?_;exact⟨rfl,sb⟩
 refine G ?_;refine Ab rfl ?_ ?_<;>intro h2
 ·grind
 refine G6 ?_;refine Ca (f90 n gd J1 hgd) ?_;refine G7 ?_;refine Ab rfl ?_ ?_<;>intro h3
 ·have h3:A1c n gd≠0:=gr;refine G4 ?_;refine O1 (sO (cs':=[.int .i64 0,nS,nS]) c1) ?_;refine G3 ?_;obtain⟨s1,s2,s3⟩:=st0 J1 [.int .i64 0,nS,nS];exact fin (m:=⟨0,[],[]⟩) rfl rfl s2 rfl (fz0 _) Om (fun b hb=>(s3 b hb).trans (g1 b hb)) (.inl ⟨h3,rfl⟩)
 have h3:A1c n gd=0:=gr;obtain⟨hn1,hn5,hgr⟩:=A3h h3;obtain⟨J2,hσ2⟩:∃J2,(J1.new (.cells [.int .i64 0,nS,nS])).set (nx J+1) (.cells [iV n,slV eI 1 gd,nS])=J2:=⟨_,rfl⟩;have n2:nx J2=nx J+2:=gr;have g2:∀b,b<nx J+1->J2.get b=J1.get b:=gr;have c2:J2.get (nx J+1)=some (.cells [iV n,slV eI 1 gd,nS]):=gr;refine G5 ?_;refine Ca (f91v gd J1 hgd) ?_;refine G ?_
 refine O1 (Bj (n:=nx J+1) ziC n1) (O1 (sO (cs:=[.int .i64 0,nS,nS]) (cs':=[iV n,slV eI 1 gd,nS]) (by rw[ag_,n1,if_pos rfl])) ?_)
 refine G ?_;rw[hσ2];refine G6 ?_;refine Az rfl rfl rfl rfl (f92 d (ofF d).1 n gd J2 hgd fun x hx=>⟨(hgr x hx).1,gr⟩) ?_
 rintro _ J3 ⟨rfl,hS3,hB3⟩;refine G6 ?_;refine Ca (f93 (ofF d).1 J3 Om) ?_;refine G3 ?_;refine Bo fun hw3=>?_
 have hA3:nx J2+1<nx J3:=by obtain⟨_,_,h,_⟩:=hS3.cl;exact(hw3 _ _ h).1
 obtain⟨B,hB⟩:∃B,nx J3=B:=⟨_,rfl⟩;have hI3:SrI d (ofF d).1 n gd J (nx J2+1) (nx J2) B [] nS J3:=
  ⟨by omega,fun b hb=>(hB3.2 b Om).trans ((g2 b Om).trans (g1 b hb)),(hB3.2 _ Om).trans ((g2 _ Om).trans c1),(hB3.2 _ Om).trans c2,hS3.cl,by obtain⟨ver,h⟩:=hS3.mp;exact⟨ver,h⟩,.nil,(fun e he=>by cases he),gr⟩
 have hax:(axR (ofF d).1.rules).length<=600:=ai_ (ee_ _ _) hgl;refine G ?_;refine Ci (fun x:List Ent×AV=>[(1,iV n),(3,Af l),(4,nV k),(10,.pr (nx J) 0),(15,.pr (nx J+1) 0),(16,.pr (nx J2+1) 0),(60,slV eR 4 (axR (ofF d).1.rules)),(61,nV (axR (ofF d).1.rules).length),(62,nV x.1.length)]) (fun x U=>x.1.length<=(axR (ofF d).1.rules).length/\A6t n x.1 ((axR (ofF d).1.rules).take x.1.length)/\SrI d (ofF d).1 n gd J (nx J2+1) (nx J2) B x.1 x.2 U) (fun x=>(axR (ofF d).1.rules).length-x.1.length) ([],nS) SL ⟨aq_ _,trivial,hI3⟩ ?_
 rintro⟨E,va⟩ U ⟨hEl,hFE,hI⟩
 dsimp only at hEl hFE hI
 refine G5 ?_;refine Ab rfl ?_ ?_<;>intro h4
 ·have hlt:E.length<(axR (ofF d).1.rules).length:=Int.ofNat_lt.1 (of_decide_eq_true h4);obtain⟨r,hr⟩:=Ar hlt;have hrm:=ab_ hr;have hrg:r∈(ofF d).1.rules:=(cp_.1 hrm).1;have hprt:=(Yc d).prt r hrg
  have hna:Qw r<1000000:=by have:Qw r<=r.parts.length:=ee_ _ _;omega
  iterate 13 refine G ?_
  refine Ca (f95 r U Om) ?_;obtain⟨p,hp⟩:=Int.eq_ofNat_of_zero_le (A68 (n:=n) (m:=10000) (k:=Qw r) (c:=1) Om Om Om);have h94:=f94 n (Qw r) U hn1 hn5 hna;rw[hp]at h94;refine Ca h94 ?_;refine G8 ?_;refine Ab rfl ?_ ?_<;>intro h5
  ·refine G3 ?_;refine O1 (sO (cs':=[.int .i64 0,nS,nS]) hI.t10) ?_;refine G3 ?_;obtain⟨s1,s2,s3⟩:=st0 U [.int .i64 0,nS,nS];have:=hI.n0
   exact fin (m:=⟨0,[],[]⟩) (e:=4) rfl rfl s2 rfl (fz0 _) Om (fun b hb=>(s3 b hb).trans (hI.g0 b hb)) (.inl ⟨by decide,rfl⟩)
  have h5:p<=10000:=gr;refine G2 ?_;obtain⟨bs,hbl,hbc,hbe⟩:=hI.w;have n0:=hI.n0;have hal2:=A7c (J:=U) (A:=rep [.int .i64 0] p) (B:=[.str [],nS]);obtain⟨U0,hτ0⟩:∃U0,A56 U (rep [.int .i64 0] p) [.str [],nS]=U0:=⟨_,rfl⟩;rw[hτ0]at hal2
  have nτ0:nx U0=nx U+4:=by rw[←hτ0];unfold A56;rw[Ao,A53]
  obtain⟨U1,hτ1⟩:∃U1,U0.set (nx U+3) (.cells [sV r.label,.sr (nx U+2) 0 1 p (some p)])=U1:=⟨_,rfl⟩;have nτ1:nx U1=nx U+4:=gr;have gτ1:∀b,b<nx U->U1.get b=U.get b:=gr;have cτ1:U1.get (nx U+3)=some (.cells [sV r.label,.sr (nx U+2) 0 1 p (some p)]):=gr
  have vτ1:U1.get (nx U+2)=some (.cells ((List.replicate p (0:Int)).flatMap eI)):=by rw[←hτ1,aa_,if_neg Om,hal2,if_neg Om,if_pos rfl,A7y]
  refine A7s [.pv (eR r),sV r.label,nV p,.sr (nx U+2) 0 1 p (some p),.agg [sV r.label,.sr (nx U+2) 0 1 p (some p)],.pr (nx U+3) 0,An] 3 5 6 Di rfl rfl ⟨by kernel_rfl,by kernel_rfl⟩ Kr rfl rfl rfl rfl rfl (fun υ=>O3 (n:=p) elC rfl rfl (by simp only[sizeLim];omega)) ziC rfl rfl rfl (by decide) (by decide) rfl rfl (sO (a:=nx U+3) (off:=0) (cs:=[.str [],nS]) (cs':=[sV r.label,.sr (nx U+2) 0 1 p (some p)]) gr) rfl ?_ (fun _ _ _ _ _ _=>by kernel_rfl) (fun _ _ _ _ _=>by kernel_rfl) ?_
  ·intro k hk hc υ
   match k,hk,hc with
   |0,_,_=>exact⟨_,_,_,rfl,rfl,Ae (fdC (t:=202) (i:=0)) rfl rfl,rfl,A7w r⟩
   |1,_,_=>exact⟨_,_,_,rfl,rfl,Ac (ldC (t:=9)) rfl rfl rfl,rfl,Axr _⟩
   |2,_,_=>exact⟨_,_,_,rfl,rfl,Ag rfl,rfl,Acw _⟩
   |3,_,h=>cases h
   |4,_,_=>exact⟨_,_,_,rfl,rfl,Ut (bdC (t:=138)) rfl rfl,rfl,by show AV.beqs [_,_] [_,_]=true;simp only[AV.beqs,Axr,Asw,be_]⟩
   |5,_,h=>cases h
   |6,_,h=>cases h
   |k+7,hk,_=>exact absurd hk (by simp)
  rw[hτ0,hτ1];obtain⟨e,he⟩:∃e:Ent,e=⟨r.label,p,nx U+2⟩:=⟨_,rfl⟩;have hva:∀b,adr va=some b->b<nx U:=fun b hb=>(hI.ow.adr_lt hb).2
  have ow1:Own U1 B eEn 2 E va:=hI.ow.of_get Om fun b q=>gτ1 b (hva b q)
  obtain⟨U2,hap,nτ2,ow2,gτ2⟩:=dn_ (enc:=eEn) (sz:=2) (by':=40) (fun _=>rfl) (show B<=nx U1 by omega) ow1 e (by simp only[sizeLim];omega)
  rw[he]at hap;have gτ2':∀b,b<nx U+4->adr va≠some b->U2.get b=U1.get b:=fun b hb=>gτ2 b Om
  have hvB:∀b,b<B->adr va≠some b:=fun b hb q=>by have:=(hI.ow.adr_lt q).1;omega
  obtain⟨U3,hτ3⟩:∃U3,U2.set (nx J+1) (.cells [iV n,slV eI 1 gd,.sr (nx U1) 0 2 (E.length+1) none])=U3:=⟨_,rfl⟩;have nτ3:nx U3=nx U2:=gr;have cτ3:U3.get (nx J+1)=some (.cells [iV n,slV eI 1 gd,.sr (nx U1) 0 2 (E.length+1) none]):=gr;have gτ3:∀b,b≠nx J+1->U3.get b=U2.get b:=gr;refine G3 ?_
  refine O1 (E8 (v:=va) (by rw[gτ1 _ Om];exact hI.t15) ldC rfl rfl) ?_
  refine O1 (E8 (v:=.agg [sV r.label,.sr (nx U+2) 0 1 p (some p)]) cτ1 ldC rfl rfl) (Cx (Ai elC byW rfl rfl rfl) (Dv (len:=1)) rfl rfl (O1 (Av elC rfl slC rfl rfl rfl (new:=[sV r.label,.sr (nx U+2) 0 1 p (some p)]) rfl hap) ?_));refine G ?_;refine O1 (G1 (cs':=[iV n,slV eI 1 gd,.sr (nx U1) 0 2 (E.length+1) none]) ((gτ2' _ Om (hvB _ Om)).trans ((gτ1 _ Om).trans hI.t15)) ldC rfl rfl rfl rfl) ?_;refine G ?_;rw[hτ3];have gg:∀b,b<B->b≠nx J+1->U3.get b=U.get b:=fun b hb hne=>(gτ3 b hne).trans ((gτ2' b Om (hvB b hb)).trans (gτ1 b Om))
  obtain⟨ver,hmv⟩:=hI.mp;have hmv3:U3.get (nx J2)=some (.map 9 (Cn A7d (mkE E)) ver):=(gg _ Om Om).trans hmv;have hbc3:U3.get (nx J2+1)=some (.cells (Aym d (ofF d).1 n bs (nx J2))):=(gg _ Om Om).trans hbc;have cτ13:U3.get (nx U+3)=some (.cells [sV r.label,.sr (nx U+2) 0 1 p (some p)]):=(gτ3 _ Om).trans ((gτ2' _ Om gr).trans cτ1);refine XS (l:=[]) trivial ?_;refine G3 ?_;refine DF (E8 hbc3 ldC rfl (A0n hbl)) ?_;refine G3 ?_
  refine DF (E8 (v:=.sr (nx U+2) 0 1 p (some p)) cτ13 ldC rfl rfl) (DT (Gh (enc:=A7d) (v:=(p,nx U+2)) st9 Ae5 rfl hmv3 rfl rfl (fun te k1 k2=>by unfold A7d Je;rw[k2];rfl)) ?_)
  refine G2 ?_;refine O1 (D3 (p:=E.length) (q:=1) okC rfl rfl Om) ?_;refine G2 ?_;obtain⟨U4,hτ4⟩:∃U4,U3.set (nx J2) (.map 9 (Cn A7d ((mkE E).put r.label (p,nx U+2))) (ver+1))=U4:=⟨_,rfl⟩;rw[hτ4];have nτ4:nx U4=nx U3:=gr;have gτ4:∀b,b≠nx J2->U4.get b=U3.get b:=gr
  have hE':A6t n (E++[e]) ((axR (ofF d).1.rules).take (E.length+1)):=by
   rw[List.take_add_one,hr]
   exact A6t.snoc ⟨by rw[he],gr,gr⟩ hFE
  refine⟨(E++[e],.sr (nx U1) 0 2 (E.length+1) none),gr,⟨rfl,rfl,rfl,rfl,rfl,rfl,rfl,rfl,by show _=some (nV (E++[e]).length);rw[bx_,fh_];rfl,trivial⟩,gr,gr,?_⟩
  have g4:∀b,b≠nx J2->b≠nx J+1->b<nx U->adr va≠some b->U4.get b=U.get b:=fun b q1 q2 q3 q4=>(gτ4 b q1).trans ((gτ3 b q2).trans ((gτ2' b Om q4).trans (gτ1 b q3)))
  refine⟨by omega,fun b hb=>(g4 b Om Om Om (hvB b Om)).trans (hI.g0 b hb),(g4 _ Om Om Om (hvB _ Om)).trans hI.t10,(gτ4 _ Om).trans cτ3,⟨bs,hbl,(gτ4 _ Om).trans hbc3,hbe⟩,⟨ver+1,by rw[A7m,←hτ4,aa_,if_pos rfl,he]⟩,?_,fun x hx=>?_,fun x hx=>?_⟩
  ·exact ow2.of_get Om fun b q=>by
    have q:some (nx U1)=some b:=q
    grind
  ·rcases bb_.1 hx with hx|hx
   ·obtain⟨vs,h6,h7⟩:=hI.tb x hx;obtain⟨l1,l2,l3⟩:=hI.lo x hx
    grind
   grind
  ·have hne:∀o,o<nx U1->adr (.sr (nx U1) 0 2 (E.length+1) none)≠some o:=fun o ho q=>by
    have q:some (nx U1)=some o:=q;cases q;omega
   rcases bb_.1 hx with hx|hx
   ·obtain⟨l1,l2,l3⟩:=hI.lo x hx
    grind
   grind
 ·have hge:E.length=(axR (ofF d).1.rules).length:=gr;rw[hge,List.take_length]at hFE;obtain⟨_,hFk⟩:=hFE.len
  have zret:∀{ρ:Ad} {υ:Sto} {e:Int} (hJ:SrI d (ofF d).1 n gd J (nx J2+1) (nx J2) B E va υ),Ad.at ρ 10=some (.pr (nx J) 0)->Ad.at ρ 11=some (iV e)->e≠0->Agw Ew Tryz.f38 (nx J) (fun v J'=>∃m e,v=.tup [mdV m,iV e]/\A64 d n gd l m e/\J'=J) ρ (υ.set (nx J) (.cells [.int .i64 0,nS,nS])):=by
   intro ρ υ e hJ p10 p11 he;obtain⟨s1,s2,s3⟩:=st0 υ [.int .i64 0,nS,nS];have:=hJ.n0;exact fin (m:=⟨0,[],[]⟩) p10 p11 s2 rfl (fz0 _) Om (fun b hb=>(s3 b hb).trans (hJ.g0 b hb)) (.inl ⟨he,rfl⟩)
  have nextI:∀{υ υ2:Sto},SrI d (ofF d).1 n gd J (nx J2+1) (nx J2) B E va υ->nx υ2=nx υ->A50 υ2 n E->(∀c,(∀e∈E,e.o≠c)->υ2.get c=υ.get c)->SrI d (ofF d).1 n gd J (nx J2+1) (nx J2) B E va υ2:=by
   intro υ υ2 hJ n6 hT6 g6
   have gB:∀c,c<B->υ2.get c=υ.get c:=fun c hc=>g6 c fun e he q=>by have:=(hJ.lo e he).1;omega
   obtain⟨bs,w1,w2,w3⟩:=hJ.w
   exact⟨by have:=hJ.n0;omega,fun b hb=>(gB b Om).trans (hJ.g0 b hb),(gB _ Om).trans hJ.t10,(gB _ Om).trans hJ.t15,⟨bs,w1,(gB _ Om).trans w2,w3⟩,hJ.mp.of_get (gB _ Om),
    hJ.ow.of_get Om fun b q=>g6 b fun e he q2=>(hJ.lo e he).2.2 gr,hT6,fun e he=>by obtain⟨l1,l2,l3⟩:=hJ.lo e he;grind⟩
  have hG:∀{υ:Sto},SrI d (ofF d).1 n gd J (nx J2+1) (nx J2) B E va υ->Ayd (ofF d) ⟨n,gd,E.map (A55 υ)⟩=0/\Ayj d (ofF d).1 n gd (tmO d ⟨n,gd,E.map (A55 υ)⟩) B (nx J2+1) (nx J2) υ:=fun hJ=>by
   obtain⟨hO,htm⟩:=A7l h1 h3 (hFE.tb hJ.tb)
   exact⟨hO,by rw[htm];exact A7o hJ.w hJ.mp hJ.tb⟩
  obtain⟨hO0,hG0⟩:=hG hI
  have hMd:∀υ,SrI d (ofF d).1 n gd J (nx J2+1) (nx J2) B E va υ->MdB ⟨n,gd,E.map (A55 υ)⟩:=fun υ hJ=>by
   refine⟨hgd,gr,fun x hx=>?_⟩
   obtain⟨e,he,rfl⟩:=bt_.1 hx;have h6:=(A52 hJ.tb he).2.1;have h7:=hFk e he
   show(A5z υ e.o).length<_
   omega
  have hll:((Ayg d d.frames.length).map (·.1)).length<1000000:=by
   have:=Azf d d.frames.length
   grind
  have hcm:∀c∈(Ayg d d.frames.length).map (·.1),A07 (ofF d).1 c:=fun c hc=>by
   obtain⟨p,hp,rfl⟩:=bt_.1 hc;unfold Ayg at hp;obtain⟨i,_,hi⟩:=List.mem_filterMap.1 hp;unfold A13 at hi
   split at hi
   ·rename_i f hf
    split at hi
    ·cases hi
    ·cases hi;exact A3s hO0 (ab_ hf) (hfh f (ab_ hf))
   ·cases hi
  have hGl:∀x:Ax8,(eGl x).length=4:=fun x=>by unfold eGl;rw[bx_,Dh];rfl
  refine G4 ?_;refine Ca (f81 hG0 hD hvf hfr) ?_;refine G10 ?_;refine Ca (f83 hG0 hD hvf Om hl) ?_;refine Ho ziC ldC rfl (fun _=>rfl) rfl (A7 (hGl _)) rfl rfl ?_
  refine G6 ?_;refine Ci (fun i:Nat=>[(1,iV n),(4,nV k),(10,.pr (nx J) 0),(15,.pr (nx J+1) 0),(16,.pr (nx J2+1) 0),(21,slV eCm 6 ((Ayg d d.frames.length).map (·.1))),(23,.pv (eGl (Ayr d (ofF d).1 l))),(24,nV i)]) (fun i υ=>i<=k/\SrI d (ofF d).1 n gd J (nx J2+1) (nx J2) B E va υ) (fun i=>k-i) 0 SL ⟨aq_ _,hI⟩ ?_
  rintro i υ ⟨hik,hJ⟩;refine G9 ?_;refine Ab rfl ?_ ?_<;>intro h5
  ·refine G3 ?_;refine O1 (sO (cs':=[.int .i64 0,nS,nS]) hJ.t10) ?_;refine G3 ?_
   exact zret hJ (e:=10) rfl rfl (by decide)
  have hlt:i<k:=gr;obtain⟨hO,hGu⟩:=hG hJ;obtain⟨_,_,gT⟩:=Ayu hO;refine G6 ?_
  refine O1 (Ac ldC rfl rfl (Wz (hGl _))) (Az rfl rfl rfl rfl (f82 (fuel:=100000) hGu gT hn1 hn5 hcm hll (Ay4 d l) (by decide) (by decide)) ?_)
  rintro _ υz ⟨R,rfl,hR,hz⟩;rw[hz]
  iterate 16 refine G ?_
  refine Ab rfl ?_ ?_<;>intro h6
  ·have h6:R.2=0:=of_decide_eq_true h6;refine G2 ?_;refine O1 (E8 (v:=.agg [iV n,slV eI 1 gd,va]) hJ.t15 ldC rfl rfl) (O1 (sO (cs':=[iV n,slV eI 1 gd,va]) hJ.t10) ?_);refine G3 ?_;obtain⟨s1,s2,s3⟩:=st0 υ [iV n,slV eI 1 gd,va];have nB:=hJ.n0;obtain⟨υs,hυs⟩:∃υs,υ.set (nx J) (.cells [iV n,slV eI 1 gd,va])=υs:=⟨_,rfl⟩;rw[hυs]at s1 s2 s3⊢;have gs:∀b,b≠nx J->υs.get b=υ.get b:=gr
   have hgo:∀e∈E,υs.get e.o=υ.get e.o:=fun e he=>gs _ (by have:=(hJ.lo e he).1;omega)
   have htb:E.map (A55 υs)=E.map (A55 υ):=List.map_congr_left fun e he=>by unfold A55 A5z;rw[hgo e he]
   have hT:A50 υs n E:=fun e he=>by obtain⟨vs,q1,q2⟩:=hJ.tb e he;grind
   have hows:Own υs B eEn 2 E va:=hJ.ow.of_get Om fun b q=>gs b (by have:=(hJ.ow.adr_lt q).1;omega)
   have hFz:=A7v (U:=J) hows hT (fun e he=>(hJ.lo e he).1) fun a ha=>by
    cases hh:J.get a with
    |none=>rfl
    |some O=>have:=(hw _ _ hh).1;omega
   rw[htb]at hFz;exact fin (m:=⟨n,gd,E.map (A55 υ)⟩) (e:=0) rfl rfl s2 rfl (.agg (.cons (.same rfl) (.cons (.same (A2 (fun _=>rfl) _)) (.cons hFz .nil)))) Om (fun b hb=>(s3 b hb).trans (hJ.g0 b hb)) (.inr ⟨rfl,hMd υ hJ,hO,rfl,rfl,R,hR,h6⟩)
  have h6:R.2≠0:=of_decide_eq_false h6;refine G6 ?_;refine Ab rfl ?_ ?_<;>intro h7
  ·refine G ?_;refine Ab rfl ?_ ?_<;>intro h8
   ·refine G4 ?_;refine O1 (E8 (v:=va) hJ.t15 ldC rfl rfl) ?_;refine G ?_;refine Az rfl rfl rfl rfl (f96 hn1 hn5 hJ.ow hJ.tb (fun e he=>(hJ.lo e he).2.2) Om gr) ?_
    rintro _ υ2 ⟨b,rfl,n6,hT6,g6⟩;refine G2 ?_;have hK:=nextI hJ n6 hT6 g6;refine Ab rfl ?_ ?_<;>intro h9
    ·refine G3 ?_;refine O1 (sO (cs':=[.int .i64 0,nS,nS]) hK.t10) ?_;refine G3 ?_
     exact zret hK (e:=5) rfl rfl (by decide)
    ·refine G6 ?_
     exact⟨i+1,by omega,SL,by omega,hK⟩
   grind
  ·refine G4 ?_;refine Ab rfl ?_ ?_<;>intro h8
   ·refine G4 ?_;refine O1 (E8 (v:=va) hJ.t15 ldC rfl rfl) ?_;refine G ?_;refine Az rfl rfl rfl rfl (f96 hn1 hn5 hJ.ow hJ.tb (fun e he=>(hJ.lo e he).2.2) Om gr) ?_
    rintro _ υ2 ⟨b,rfl,n6,hT6,g6⟩;refine G2 ?_;have hK:=nextI hJ n6 hT6 g6;refine Ab rfl ?_ ?_<;>intro h9
    ·refine G3 ?_;refine O1 (sO (cs':=[.int .i64 0,nS,nS]) hK.t10) ?_;refine G3 ?_
     exact zret hK (e:=5) rfl rfl (by decide)
    ·refine G6 ?_
     exact⟨i+1,by omega,SL,by omega,hK⟩
   ·refine G4 ?_;refine O1 (sO (cs':=[.int .i64 0,nS,nS]) hJ.t10) ?_;refine G3 ?_;exact zret hJ (e:=R.2) rfl rfl h6
def dB:Db:=⟨[[119,102,102],[124,45],[40],[41],[45,62],[45,46]],[[112,104],[112,115],[99,104]],[⟨[119,105],false,[⟨[119,112,104],true,[[119,102,102],[112,104]]⟩,⟨[119,112,115],true,[[119,102,102],[112,115]]⟩],[],[[119,102,102],[40],[112,104],[45,62],[112,115],[41]],[⟨[119,99,104],true,[[119,102,102],[99,104]]⟩],[],[]⟩,
 ⟨[119,110],false,[⟨[119,112,104],true,[[119,102,102],[112,104]]⟩],[],[[119,102,102],[45,46],[112,104]],[⟨[119,112,115],true,[[119,102,102],[112,115]]⟩,⟨[119,99,104],true,[[119,102,102],[99,104]]⟩],[],[]⟩,
 ⟨[97,120,45,49],false,[⟨[119,112,104],true,[[119,102,102],[112,104]]⟩,⟨[119,112,115],true,[[119,102,102],[112,115]]⟩],[],[[124,45],[40],[112,104],[45,62],[40],[112,115],[45,62],[112,104],[41],[41]],[⟨[119,99,104],true,[[119,102,102],[99,104]]⟩],[],[]⟩]⟩
def rsB:List Rl:=[⟨[119,112,104],[119,102,102],[⟨[112,104],[],0⟩],true⟩,
 ⟨[119,112,115],[119,102,102],[⟨[112,115],[],0⟩],true⟩,
 ⟨[119,99,104],[119,102,102],[⟨[99,104],[],0⟩],true⟩,
 ⟨[119,105],[119,102,102],[⟨[40],[],0⟩,⟨[],[119,102,102],0⟩,⟨[45,62],[],0⟩,⟨[],[119,102,102],1⟩,⟨[41],[],0⟩],false⟩,
 ⟨[119,110],[119,102,102],[⟨[45,46],[],0⟩,⟨[],[119,102,102],0⟩],false⟩]
def gB:Gr:=⟨[[119,102,102]],rsB⟩
def mB:Ax9:=⟨2,[1],[⟨[119,105],[1,1,0,1]⟩,⟨[119,110],[1,0]⟩]⟩
def tmB:SM (List Int):=[([119,105],[1,1,0,1]),([119,110],[1,0])]
theorem vB:∀r∈rsB,Hr gB r=true:=by
 intro r hr
 have hp:(D1 r).Pairwise fun x y=>decide (x<=y)=true:=by revert r;decide+kernel
 unfold Hr;rw[Atl hp];clear hp
 revert r
 decide+kernel
theorem A5j:Eb gB=0:=by
 unfold Eb
 rw[if_neg (by decide+kernel),if_neg (by decide+kernel),show Pe gB gB.rules []=false from Akh vB (by decide+kernel)];rfl
theorem A5a:Ea dB=0:=Kr
theorem varsB:Kw (Il (Bt dB) []) dB.vars zG=some ⟨[[119,102,102]],rsB.take 3⟩:=Kr
theorem A5b:F6 dB.frames ⟨[[119,102,102]],rsB.take 3⟩=some gB:=Kr
theorem ofB:ofF dB=(gB,0):=by
 unfold ofF
 rw[if_neg (by rw[A5a];decide),varsB]
 simp only;rw[A5b];simp only
 rw[if_neg (by rw[A5j];decide)]
theorem A5v:W6 dB 25 100=true:=Kr
def lph:Str:=[119,112,104]
def lps:Str:=[119,112,115]
def tG:Ax:=.node [119,105] [vph,vps]
def tA:Ax:=.node [119,105] [vph,.node [119,105] [vps,vph]]
def tN:Ax:=.node [119,110] [vph]
def xB:List Str:=[[124,45],[40],[112,104],[45,62],[112,115],[41]]
theorem prsB{s text}:Fj gB s text=(if s∉gB.sorts then((none,5):Option (List Nde)×Int)else if text.length>200 then(none,4)else
   if(Ej gB s text).sets.length<=text.length∨(s,0,text.length)∉(Ej gB s text).done then(none,160)else
   match Im gB (Ej gB s text).done text (s,0,text.length)with
   |none=>(none,15)
   |some F=>(some F,0)):=by
 unfold Fj
 rw[if_neg (by rw[A5j];decide)];rfl
theorem A5k{t text}:B1 dB (t::text)=(if D7 t∉gB.sorts then(Ek,11)else match Fj gB (D7 t) text with
  |(none,e)=>(Ek,if e=160 then 190 else e)
  |(some F,_)=>Mu gB F):=by
 unfold B1
 rw[ofB,if_neg (by decide)];rfl
theorem A5w:B1 dB xB=(tG,0):=by unfold xB;rw[A5k,prsB];kernel_rfl
theorem A5x:B1 dB (dB.frames[2]?.getD zFr).text=(tA,0):=by
 show B1 dB ([124,45]::[[40],[112,104],[45,62],[40],[112,115],[45,62],[112,104],[41],[41]])=_
 rw[A5k,prsB];kernel_rfl
theorem A4x:Ayd (ofF dB) mB=0:=by rw[ofB];kernel_rfl
theorem tmoB:tmO dB mB=tmB:=by unfold tmO;rw[ofB];kernel_rfl
def cZ:Ax7:=⟨true,[],[],A1r,0⟩
def cA:Ax7:=⟨false,[lph,lps],[],tA,0⟩
theorem A5c:Ayg dB dB.frames.length=[(cZ,0),(cZ,1),(cA,2)]:=by
 have h2:Ayc dB (dB.frames[2]?.getD zFr)=cA:=by
  have hy:Ayk dB (dB.frames[2]?.getD zFr).hyps=⟨[lph,lps],[],0⟩:=Kr;unfold Ayc;rw[if_pos Kr,hy]
  show(⟨false,[lph,lps],[],(B1 dB (dB.frames[2]?.getD zFr).text).1,(B1 dB (dB.frames[2]?.getD zFr).text).2⟩:Ax7)=cA
  rw[A5x];rfl
 have h0:Ayc dB (dB.frames[0]?.getD zFr)=cZ:=by unfold Ayc;rw[if_neg (by decide+kernel)];rfl
 have h1:Ayc dB (dB.frames[1]?.getD zFr)=cZ:=by unfold Ayc;rw[if_neg (by decide+kernel)];rfl
 unfold Ayg
 rw[show List.range dB.frames.length=[0,1,2] by kernel_rfl]
 have g0:A13 dB 0=some (cZ,0):=by rw[←h0];rfl
 have g1:A13 dB 1=some (cZ,1):=by rw[←h1];rfl
 have g2:A13 dB 2=some (cA,2):=by rw[←h2];rfl
 grind
theorem A4y{R}(h:Ayo [1] 2 tmB cZ 100 R):R=(true,[],0):=by
 unfold Ayo at h;rwa[if_pos (show cZ.silent=true from rfl)]at h
theorem A5y{R}(h:Ayo [1] 2 tmB cA 100 R):R=(true,[],0):=by
 unfold Ayo at h
 rw[if_neg (by decide),if_neg (by decide),if_neg (by decide+kernel)]at h
 obtain⟨o,ho,hR⟩:=h;have h1:Run 2 cA.vars.reverse (A12 [1] 2 tmB cA) (Ayy cA.vars) none:=A11 (k:=10) Kr;rw[←ho.det _ h1]at hR;exact hR
theorem A4z{M}(h:A0b mB.des mB.n (tmO dB mB) 100 ((Ayg dB dB.frames.length).map (·.1)) 0 M):M=(true,0,0):=by
 rw[tmoB,A5c]at h;obtain⟨H,h1,h⟩:=h
 rw[A4y h1,if_neg (by decide)]at h
 obtain⟨H,h1,h⟩:=h
 rw[A4y h1,if_neg (by decide)]at h
 obtain⟨H,h1,h⟩:=h
 rw[A5y h1,if_neg (by decide)]at h
 exact h
def lB:List Ayb:=[⟨lph,1⟩,⟨lps,0⟩]
theorem goalB:Ayr dB (ofF dB).1 xB=⟨tG,[lph,lps],0⟩:=by
 unfold Ayr
 rw[if_pos Kr,A5w,if_neg (by decide),ofB]
 kernel_rfl
theorem A5d{R}(h:Ayt dB mB xB 100 R):R=(lB,0):=by
 unfold Ayt at h;rw[if_pos A4x]at h;obtain⟨M,hM,h⟩:=h;rw[A4z hM,goalB,tmoB]at h
 rw[if_neg (by decide),if_neg (by decide),if_neg (by decide),if_neg (by decide+kernel)]at h
 obtain⟨o,ho,hR⟩:=h;have h1:Run 2 [lps,lph] (fun m=>Ay9 [1] 2 tmB m tG) (Ayy [lph,lps]) (some [(lph,1),(lps,0)]):=A11 (k:=10) Kr
 rw[←ho.det _ h1]at hR;exact hR
theorem A5l:Ayp dB mB tN [⟨lph,1⟩]=0/\Ay3 dB mB tN [⟨lph,1⟩]=0:=by
 have h1:Ayp dB mB tN [⟨lph,1⟩]=0:=by
  unfold Ayp Ay8;rw[if_pos A4x,ofB]
  kernel_rfl
 refine⟨h1,?_⟩;unfold Ay3;rw[if_pos h1,tmoB,ofB]
 kernel_rfl
theorem f113(a b J):Cv 113 [sV a,sV b] J (.agg [sV a,.bool true,.sv [.str [119,102,102],sV b] 1 2 none]):=by
 refine Aj Tryz.func113 rfl rfl fun hw hu0=>?_
 refine G2 ?_;refine O1 (Bj (n:=nx J) ziC rfl) ?_;refine G ?_;obtain⟨J1,hσ1⟩:∃J1,J.new (.cells [.str [],.bool false,nS])=J1:=⟨_,rfl⟩;rw[hσ1];have n1:nx J1=nx J+1:=gr;have g1:∀b,b<nx J->J1.get b=J.get b:=gr;have r1:J1.get (nx J)=some (.cells [.str [],.bool false,nS]):=gr;refine G4 ?_;refine Cx (Ai elC byW rfl rfl rfl) (Dv (len:=2)) rfl rfl ?_;refine G ?_;refine O1 (sO (cs':=[sV a,.bool true,.sv [.str [119,102,102],sV b] 1 2 none]) r1) ?_;refine G2 ?_
 exact⟨[.agg [sV a,.bool true,.sv [.str [119,102,102],sV b] 1 2 none]],Am (vs:=[sV a,.bool true,.sv [.str [119,102,102],sV b] 1 2 none]) (ldC (t:=74)) rfl (by simp only[Sto.cells];grind) rfl rfl,_,J,am_ hw ⟨gr,gr⟩,nl,.same rfl,rfl,rfl⟩
theorem f61(J):Cv 61 [] J (dbV dB):=by
 refine Aj Tryz.func61 rfl rfl fun hw hu0=>?_
 refine G2 ?_;refine O1 (Bj (n:=nx J) ziC rfl) ?_;refine G ?_;obtain⟨J1,hσ1⟩:∃J1,J.new (.cells [nS,nS,nS])=J1:=⟨_,rfl⟩;rw[hσ1];have n1:nx J1=nx J+1:=gr;have g1:∀b,b<nx J->J1.get b=J.get b:=gr;have r1:J1.get (nx J)=some (.cells [nS,nS,nS]):=gr;refine G7 ?_;refine Ca (f113 [119,112,104] [112,104] _) ?_;refine G ?_;refine Ca (f113 [119,112,115] [112,115] _) ?_;refine G ?_;refine Ca (f113 [119,99,104] [99,104] _) ?_;refine O1 (Bj (n:=nx J1) ziC rfl) (O1 (Bj (n:=nx J1+1) ziC (Ao _ _)) (O1 (Bj (n:=nx J1+2) ziC gr) ?_));refine O1 (G1 (cs:=[.str [],.bool false,nS]) (cs':=[.str [119,112,104],.bool true,.sv [.str [119,102,102],.str [112,104]] 1 2 none]) gr ldC rfl rfl rfl rfl) ?_;refine O1 (G1 (cs:=[.str [],.bool false,nS]) (cs':=[.str [119,112,115],.bool true,.sv [.str [119,102,102],.str [112,115]] 1 2 none]) gr ldC rfl rfl rfl rfl) ?_;refine O1 (G1 (cs:=[.str [],.bool false,nS]) (cs':=[.str [119,99,104],.bool true,.sv [.str [119,102,102],.str [99,104]] 1 2 none]) gr ldC rfl rfl rfl rfl) ?_;refine G ?_;obtain⟨J2,hσ2⟩:∃J2,(((((J1.new (.cells [.str [],.bool false,nS])).new (.cells [.str [],.bool false,nS])).new (.cells [.str [],.bool false,nS])).set (nx J1) (.cells [.str [119,112,104],.bool true,.sv [.str [119,102,102],.str [112,104]] 1 2 none])).set (nx J1+1) (.cells [.str [119,112,115],.bool true,.sv [.str [119,102,102],.str [112,115]] 1 2 none])).set (nx J1+2) (.cells [.str [119,99,104],.bool true,.sv [.str [119,102,102],.str [99,104]] 1 2 none])=J2:=⟨_,rfl⟩;rw[hσ2]
 have n2:nx J2=nx J1+3:=by rw[←hσ2,Aq,Aq,Aq,Ao,Ao,Ao]
 have g2:∀b,b<nx J1->J2.get b=J1.get b:=gr;have p2:J2.get (nx J1)=some (.cells [.str [119,112,104],.bool true,.sv [.str [119,102,102],.str [112,104]] 1 2 none]):=gr;have p3:J2.get (nx J1+1)=some (.cells [.str [119,112,115],.bool true,.sv [.str [119,102,102],.str [112,115]] 1 2 none]):=gr;have p4:J2.get (nx J1+2)=some (.cells [.str [119,99,104],.bool true,.sv [.str [119,102,102],.str [99,104]] 1 2 none]):=gr;refine G2 ?_;refine O1 (Ai elC byW rfl rfl rfl) (O1 (Ai elC byW rfl rfl rfl) (O1 (lO p2) (O1 (lO p3) (O1 (Ai elC byW rfl rfl rfl) (O1 (Ai elC byW rfl rfl rfl) (O1 (lO p4) (O1 (Ai elC byW rfl rfl rfl) ?_)))))));refine G ?_;refine O1 (lO p2) (O1 (Ai elC byW rfl rfl rfl) (O1 (Ai elC byW rfl rfl rfl) (O1 (lO p3) (O1 (lO p4) (O1 (Ai elC byW rfl rfl rfl) ?_)))));refine G ?_;refine O1 (lO p2) (O1 (lO p3) (O1 (Ai elC byW rfl rfl rfl) (O1 (Ai elC byW rfl rfl rfl) (O1 (lO p4) (O1 (Ai elC byW rfl rfl rfl) ?_)))));refine G ?_;refine O1 (Ai elC byW rfl rfl rfl) ?_;refine G ?_;refine O1 (G1 (off:=0) ((g2 _ Om).trans r1) ldC rfl rfl rfl rfl) ?_;refine G2 ?_
 refine⟨_,Am (ldC (t:=25)) rfl (by simp only[Sto.cells];rw[aa_,if_pos rfl]) rfl rfl,dbV dB,J,am_ hw ⟨gr,gr⟩,nl,Ahs 12 _ _ Kr,rfl,rfl⟩
theorem f62(J):Cv 62 [] J (mdV mB):=by
 refine Aj Tryz.func62 rfl rfl fun hw hu0=>?_
 refine G2 ?_;refine O1 (Bj (n:=nx J) ziC rfl) ?_;refine G3 ?_;refine O1 (Ai elC byW rfl rfl rfl) (O1 (Ai elC byW rfl rfl rfl) ?_);refine G ?_;refine O1 (Ai elC byW rfl rfl rfl) ?_;refine G ?_;refine O1 (Ai elC byW rfl rfl rfl) ?_;refine G ?_
 refine O1 (sO (off:=0) (by rw[ag_,if_pos rfl])) ?_
 refine G2 ?_
 refine⟨_,Am (ldC (t:=62)) rfl (by simp only[Sto.cells];rw[aa_,if_pos rfl]) rfl rfl,mdV mB,J,am_ hw ⟨gr,gr⟩,nl,Ahs 12 _ _ Kr,rfl,rfl⟩
theorem f64w(s J):Cv 64 [sV s] J (.agg [sV s,.sv [] 2 0 none]):=by
 refine Aj Tryz.func64 rfl rfl fun hw hu0=>?_
 refine G2 ?_;refine O1 (Bj (n:=nx J) ziC rfl) ?_;refine G5 ?_
 refine O1 (sO (off:=0) (by rw[ag_,if_pos rfl])) ?_
 refine G2 ?_
 refine⟨_,Am (ldC (t:=39)) rfl (by simp only[Sto.cells];rw[aa_,if_pos rfl]) rfl rfl,.agg [sV s,.sv [] 2 0 none],J,am_ hw ⟨gr,gr⟩,nl,.agg (.cons (.same rfl) (.cons (.nils gr) .nil)),rfl,rfl⟩
theorem f63(s ks J):Cv 63 [sV s,slV eT 2 ks] J (.agg [sV s,slV eT 2 ks]):=by
 refine Aj Tryz.func63 rfl rfl fun hw hu0=>?_
 refine G2 ?_;refine O1 (Bj (n:=nx J) ziC rfl) ?_;refine G6 ?_
 refine O1 (sO (off:=0) (by rw[ag_,if_pos rfl])) ?_
 refine G2 ?_
 refine⟨_,Am (ldC (t:=39)) rfl (by simp only[Sto.cells];rw[aa_,if_pos rfl]) rfl rfl,_,J,am_ hw ⟨gr,gr⟩,nl,.same (by show AV.unds _ [sV s,slV eT 2 ks]=true;grind),rfl,rfl⟩
theorem A5m(x):D4 Ew.P 136 (.agg (eVl x))=some (.agg [kS x.var,.int .i64 x.val]):=Kr
theorem A40(x:Ayb):Key.eq (.agg [kS x.var,.int .i64 x.val]) (.agg [kS x.var,.int .i64 x.val])=true:=by
 show cond (Key.eq (kS x.var) (kS x.var)) (cond (Key.eq (.int .i64 x.val) (.int .i64 x.val)) true false) false=true
 rw[Abl,decide_eq_true rfl,show Key.eq (.int .i64 x.val) (.int .i64 x.val)=true by show(Ed .i64 .i64&&Tz x.val x.val)=true;rw[Nn,decide_eq_true rfl];rfl]
 rfl
theorem f65(l J)(hb:l.length<4611686018427387904):Cv 65 [slV eVl 2 l,slV eVl 2 l] J (.bool true):=by
 refine Aj Tryz.func65 rfl rfl fun hw hu0=>?_
 iterate 13 refine G ?_
 refine Ab rfl ?_ ?_<;>intro h1
 ·simp at h1
 ·refine G9 ?_;refine Bz l.length (fun i0=>[(0,slV eVl 2 l),(1,slV eVl 2 l),(12,iV (.ofNat l.length)),(13,iV (.ofNat i0))]) (fun i0 J0=>J0=J) SL rfl ?_
  rintro i0 J0 hi0 rfl;refine G5 ?_;refine Ab rfl ?_ ?_<;>intro h2
  ·have bc:i0<l.length:=gr;obtain⟨a0,ha0⟩:=Ar bc;refine G9 ?_;refine X0 ?_;refine G8 ?_;refine DF (Aw3 okC rfl rfl rfl rfl (A5m a0) (A5m a0)) ?_;refine G ?_;refine⟨rfl,rfl,?_⟩;refine Ab rfl ?_ ?_<;>intro h3
   ·rw[A40]at h3;cases h3
   ·refine G5 ?_;exact⟨bc,SL,rfl⟩
  ·refine G6 ?_;exact⟨_,rfl,_,_,a_ hw nl (fun _ _=>rfl),nl,.same rfl,rfl,rfl⟩
theorem f39{d m}(J)(hD:DbB d)(hvf:d.vars.length+d.frames.length<1000000)(hfr:∀f∈d.frames,f.hyps.length<=1000000/\f.text.length<1000000/\∀h∈f.hyps,h.text.length<1000000)(hM:MdB m)(hC:∀f∈d.frames,Ayd (ofF d) m=0->A07 (ofF d).1 (Ayc d f))(hO:Ayd (ofF d) m=0){fuel}(hf1:1<=fuel)(hf9:fuel<=100000)(hR:∀M,A0b m.des m.n (tmO d m) fuel ((Ayg d d.frames.length).map (·.1)) 0 M->M=(true,0,0)):
  Cv 39 [dbV d,mdV m,iV fuel] J (.tup [.bool true,iV 0,iV 0]):=by
 obtain⟨g1,g5,gT⟩:=Ayu hO;have hcl:=Azf d d.frames.length;refine Aj Tryz.func39 rfl rfl fun hw hu0=>?_
 iterate 13 refine G ?_
 refine Az rfl rfl rfl rfl (f78 d m J hD hvf hM (show 0<=fuel by omega) hf9) ?_
 rintro _ U ⟨p,rfl,hu9,hB,hp⟩;obtain⟨rfl,hS⟩:=hp hO;rw[hO];refine G12 ?_;refine Ab rfl gr (fun h1=>?_)
 have hcm:∀c∈(Ayg d d.frames.length).map (·.1),A07 (ofF d).1 c:=fun c hc=>by
  obtain⟨x,hx,rfl⟩:=bt_.1 hc;obtain⟨i,_,hi⟩:=List.mem_filterMap.1 hx;unfold A13 at hi
  grind
 refine G4 ?_;refine Ca (f81 hS.g hD hvf hfr) ?_;refine G11 ?_;refine Az rfl rfl rfl rfl (f97 hS.g gT g1 g5 hcm gr hf1 hf9) ?_;rintro _ _ ⟨M,rfl,hMr,rfl⟩;rw[hR M hMr]
 iterate 13 refine G ?_
 refine Qh 2 _ false rfl rfl rfl rfl rfl (Eh rfl) gr (fun hg=>?_) ?_
 ·refine Co rfl rfl rfl rfl rfl rfl (Co rfl rfl rfl rfl rfl rfl ?_);refine G ?_;exact⟨rfl,sb⟩
 refine G ?_;refine Ab rfl (fun h2=>?_) gr
 refine G9 ?_;exact⟨_,rfl,_,J,am_ hw hB,nl,.same rfl,rfl,rfl⟩
theorem A3c{v cs sz len c}(h:v=.sv cs sz len none):Wk (.sv cs sz len (some c)) v:=by rw[h];exact Dv
def xV:AV:=.sv [.str [124,45],.str [40],.str [112,104],.str [45,62],.str [112,115],.str [41]] 1 6 (some 6)
def kV:AV:=.sv [sV lph,.sv [] 2 0 none] 2 1 (some 1)
def lVl:AV:=.sv [sV lph,iV 1] 2 1 (some 1)
theorem f23(J):Cv 23 [] J (.bool true):=by
 obtain⟨hD,hvf,hsm⟩:=Ac1 A5v
 have hM:MdB mB:=⟨by decide,by decide,by decide⟩
 have hfr:∀f∈dB.frames,f.hyps.length<=1000000/\f.text.length<1000000/\∀h∈f.hyps,h.text.length<1000000:=fun f hf=>⟨by have:=(hD.f f hf).h;omega,gr,gr⟩
 have hCm:∀f∈dB.frames,Ayd (ofF dB) mB=0->A07 (ofF dB).1 (Ayc dB f):=fun f hf hO=>A3s hO hf (hD.f f hf).h
 have h39:Cv 39 [dbV dB,mdV mB,iV 100] J (.tup [.bool true,iV 0,iV 0]):=f39 J hD hvf hfr hM hCm A4x (by decide) (by decide) fun M h=>A4z h
 have h30:Cv 30 [dbV dB,mdV mB,xV,iV 100] J (.tup [slV eVl 2 lB,iV 0]):=by
  have h:=f30 dB mB J hD hvf hfr hM hCm (l:=xB) (by decide) (fun _=>Ay4 dB xB) (fuel:=100) (by decide) (by decide)
  refine Al.wk (h.mono fun v J' hq=>?_) (.cons .rfl' (.cons .rfl' (.cons (A3c rfl) (.cons .rfl' .nil))))
  obtain⟨R',e1,e2,e3⟩:=hq;rw[A5d e2]at e1
  grind
 have h63:Cv 63 [sV [119,110],kV] J (.agg [sV [119,110],slV eT 2 [vph]]):=
  Al.wk (f63 [119,110] [vph] J) (.cons .rfl' (.cons (A3c (by unfold slV;simp only[bs_,fk_,vph,Cl];rfl)) .nil))
 have h27:Cv 27 [dbV dB,mdV mB,.agg [sV [119,110],slV eT 2 [vph]],lVl] J (.tup [iV 0,iV 0]):=by
  have h:=f27 dB mB tN [⟨lph,1⟩] J hD hvf hM (by decide) (by decide) (by decide)
  rw[A5l.1,A5l.2,show En tN=.agg [sV [119,110],slV eT 2 [vph]]from Cg _ _]at h
  exact Al.wk h (.cons .rfl' (.cons .rfl' (.cons .rfl' (.cons (A3c rfl) .nil))))
 have h65:∀J,Cv 65 [slV eVl 2 lB,slV eVl 2 lB] J (.bool true):=fun J=>f65 lB J (by decide)
 refine Aj Tryz.func23 rfl rfl fun hw hu0=>?_
 refine G6 ?_;refine Ca (f61 J) ?_;refine G3 ?_;refine XX 1 (l:=[(62,[],J,mdV mB,J),(39,[dbV dB,mdV mB,iV 100],J,.tup [.bool true,iV 0,iV 0],J)]) ⟨f62 J,h39,trivial⟩ ?_;refine G2 ?_
 refine DT (Bq rfl rfl (Dw (by decide) Bv)) ?_
 refine G8 ?_
 refine⟨(by intro e he;simp at he;rcases he with rfl|rfl|rfl<;>exact .refl),?_⟩
 refine G ?_;refine XX 1 (l:=[(62,[],J,mdV mB,J),(30,[dbV dB,mdV mB,xV,iV 100],J,.tup [slV eVl 2 lB,iV 0],J)]) ⟨f62 J,h30,trivial⟩ ?_;refine G2 ?_
 refine DF (Ai elC byW rfl rfl rfl) (DT (Bq rfl rfl (Dw (by decide) Bv)) ?_)
 refine G6 ?_
 refine⟨(by intro e he;simp at he;rcases he with rfl|rfl|rfl<;>exact .refl),?_⟩
 refine G ?_;refine XX 3 (l:=[(62,[],J,mdV mB,J),(64,[sV lph],J,.agg [sV lph,.sv [] 2 0 none],J),(63,[sV [119,110],kV],J,.agg [sV [119,110],slV eT 2 [vph]],J),(27,[dbV dB,mdV mB,.agg [sV [119,110],slV eT 2 [vph]],lVl],J,.tup [iV 0,iV 0],J)]) ⟨f62 J,f64w lph J,h63,h27,trivial⟩ ?_;refine G ?_
 refine DT (Bq rfl rfl (Bv)) (DT (Bq rfl rfl (Dw (by decide) Bv)) ?_)
 refine DF (Ai elC byW rfl rfl rfl) (DT (Bq rfl rfl (Dw (by decide) (Dw (by decide) Bv))) ?_)
 refine G ?_
 refine DF (Ai elC byW rfl rfl rfl) (DT (Bq rfl rfl (Dw (by decide) (Dw (by decide) (Dw (by decide) Bv)))) ?_)
 refine G6 ?_
 refine⟨(by intro e he;simp at he;rcases he with rfl|rfl|rfl|rfl|rfl<;>exact .refl),?_⟩
 refine G4 ?_;refine Bi rfl rfl rfl rfl rfl noR rfl rfl (Ag rfl) (Bi rfl rfl rfl rfl rfl noR rfl rfl (H4 (q:=0) okC rfl rfl) (O1 (A3 rfl rfl rfl) ?_));refine G ?_;refine Bi rfl rfl rfl rfl rfl noR rfl rfl (Ag rfl) (Bi rfl rfl rfl rfl rfl noR rfl rfl (H4 (q:=0) okC rfl rfl) (O1 (A3 rfl rfl rfl) ?_));refine G ?_;refine Bi rfl rfl rfl rfl rfl noR rfl rfl (Ag rfl) (Bi rfl rfl rfl rfl rfl noR rfl rfl (H4 (q:=0) okC rfl rfl) (O1 (A3 rfl rfl rfl) ?_));refine G ?_;refine Bi rfl rfl rfl rfl rfl noR rfl rfl (Ag rfl) (Bi rfl rfl rfl rfl rfl noR rfl rfl (H4 (q:=0) okC rfl rfl) (O1 (A3 rfl rfl rfl) ?_));refine G ?_;refine Bi rfl rfl rfl rfl rfl noR rfl rfl (Ag rfl) (Bi rfl rfl rfl rfl rfl noR rfl rfl (Ut bdC rfl rfl) (Bi rfl rfl rfl rfl rfl noR rfl rfl (Ut bdC rfl rfl) (Ato (Ai elC byW rfl rfl rfl) (Dv (len:=2)) (Bh rfl rfl rfl rfl rfl rfl rfl rfl (h65 _) (O1 (A3 rfl rfl rfl) ?_)))));refine G3 ?_;exact⟨_,rfl,_,_,a_ hw nl (fun _ _=>rfl),nl,.same rfl,rfl,rfl⟩
theorem f41(d m J)(hD:DbB d)(hvf:d.vars.length+d.frames.length<1000000)(hM:MdB m):Cv 41 [dbV d,mdV m] J (iV (Ayd (ofF d) m)):=by
 refine Aj Tryz.func41 rfl rfl fun hw hu0=>?_
 refine G10 ?_;refine Az rfl rfl rfl rfl (f71 d m J hD hvf hM) ?_;rintro _ U ⟨p,rfl,_,hB,_⟩;refine G12 ?_;exact⟨_,rfl,_,J,am_ hw hB,nl,.same rfl,rfl,rfl⟩
theorem f40i(l m J)(hb:m.length<4611686018427387904):Cv 40 [slV eI 1 l,slV eI 1 m] J (.bool (decide (l=m))):=by
 refine Aj Tryz.func40 rfl rfl fun hw hu0=>?_
 iterate 13 refine G ?_
 refine Ab rfl ?_ ?_<;>intro h1
 ·refine G5 ?_;refine B4 hw rfl ?_;exact congrArg AV.bool (decide_eq_false gr).symm
 ·have bl:l.length=m.length:=gr;refine G9 ?_;refine Bz l.length (fun i0=>[(0,slV eI 1 l),(1,slV eI 1 m),(12,iV (.ofNat l.length)),(13,iV (.ofNat i0))]) (fun i0 J0=>J0=J/\l.take i0=m.take i0) SL ⟨rfl,rfl⟩ ?_
  rintro i0 J0 hi0 ⟨rfl,hf0⟩;refine G5 ?_;refine Ab rfl ?_ ?_<;>intro h2
  ·have bc:i0<l.length:=gr;obtain⟨a0,ha0⟩:=Ar bc
   obtain⟨b,hb0⟩:=Ar (show i0<m.length by omega)
   refine G9 ?_;refine X0 ?_;refine G10 ?_;refine⟨rfl,rfl,?_⟩;refine Ab rfl ?_ ?_<;>intro h3
   ·refine G5 ?_;refine B4 hw rfl ?_;exact congrArg AV.bool (decide_eq_false gr).symm
   ·refine G5 ?_
    refine⟨bc,SL,rfl,(have h4:a0=b:=gr;by rw[Fw ha0,Fw hb0,hf0,h4])⟩
  ·have bj:l.length<=i0:=gr;refine G6 ?_;refine B4 hw rfl ?_;exact congrArg AV.bool (decide_eq_true gr).symm
theorem A7p{E ρ J Rr t x y k p}{ty:Nat}(hi:okI E.P t=true)(hx:Ah E ρ x=some (.int k p))(hy:Ah E ρ y=some (.int k p)):As E Rr (.binOp .eql t x y ty) ρ J (.bool true) J:=by
 have:=H4 (Rr:=Rr) (J:=J) (ty:=ty) hi hx hy
 grind
theorem A7h{d}(h:W6 d 12 60=true):W6 d 15 60=true:=by
 unfold W6 at h⊢
 grind
theorem f7L(d n gd text k)(hk:k<256)(J):Cv 7 [dbV d,iV n,slV eI 1 gd,Af text,.int .u8 (.ofNat k)] J (.bool true):=by
 refine Aj Tryz.func7 rfl rfl fun hw hu0=>?_
 refine G9 ?_
 refine Ca (f9 d 12 60 J (by decide) (by decide)) ?_
 refine G2 ?_;refine Qh 3 _ (decide ((10:Int)<Int.ofNat gd.length)) rfl rfl rfl rfl rfl (Eh rfl) (fun hg=>?_) (fun hg=>?_) ?_
 ·iterate 3 refine Gn hg ?_
  refine G ?_;refine⟨rfl,?_,?_⟩
  ·exact sb
  ·exact rfl
 ·iterate 3 refine Of hg ?_
  refine G ?_;exact⟨rfl,sb⟩
 refine G ?_;refine Qh 3 _ (decide ((40:Int)<Int.ofNat text.length)) rfl rfl rfl rfl rfl (Eh rfl) (fun hg=>?_) (fun hg=>?_) ?_
 ·iterate 3 refine Gn hg ?_
  refine G ?_;refine⟨rfl,?_,?_⟩
  ·exact sb
  ·exact rfl
 ·iterate 3 refine Of hg ?_
  refine G ?_;exact⟨rfl,sb⟩
 refine G ?_;refine Ab rfl ?_ ?_<;>intro h1
 ·refine G2 ?_;refine Ca (f23 _) ?_;refine G3 ?_;exact⟨_,rfl,_,_,a_ hw nl (fun _ _=>rfl),nl,.same rfl,rfl,rfl⟩
 ·simp only[bv_,df_,decide_eq_false_iff_not,bu_]at h1;obtain⟨⟨h2,h3⟩,h5⟩:=h1;obtain⟨hD,hvf,hsm⟩:=Ac1 (A4v (A7h h2))
  have hfr:∀f∈d.frames,f.hyps.length<=1000000/\f.text.length<1000000/\∀h∈f.hyps,h.text.length<1000000:=fun f hf=>⟨by have:=(hD.f f hf).h;omega,gr,gr⟩
  refine G8 ?_;refine O1 (A17 (p:=k) rfl hk) (Az rfl rfl rfl rfl (f38 d n gd text k J hD hvf hfr (fun f hf=>(hD.f f hf).h) Om Om hk) ?_)
  rintro _ σz ⟨m,e,rfl,hQ,hz⟩;rw[hz];refine G12 ?_;refine Ab rfl ?_ ?_<;>intro h6
  ·have h6:e≠0:=gr
   have ht:m.tabs=[]:=by
    rcases hQ with⟨_,h⟩|⟨h,_⟩
    ·exact h
    grind
   refine G3 ?_
   refine O1 (Ac (v:=slV eTb 2 []) ldC rfl rfl (by rw[ht];rfl)) ?_
   refine O1 (Jl (enc:=eTb) (l:=[]) slC rfl) (O1 (A7p (p:=0) okC rfl rfl) ?_);refine G ?_;refine Bh rfl rfl rfl rfl rfl rfl rfl rfl (f23 _) (O1 (A3 rfl rfl rfl) ?_);refine G3 ?_;exact⟨_,rfl,_,_,a_ hw nl (fun _ _=>rfl),nl,.same rfl,rfl,rfl⟩
  ·have h6:e=0:=gr
   obtain⟨hM,hO,hmn,hmd,R,hR,hR0⟩:MdB m/\Ayd (ofF d) m=0/\m.n=n/\m.des=gd/\∃R,A0s gd n (tmO d m) ((Ayg d d.frames.length).map (·.1)) (Ayr d (ofF d).1 text) 100000 R/\R.2=0:=by
    rcases hQ with⟨h,_⟩|⟨_,h⟩
    ·grind
    ·exact h
   obtain⟨n',gd',T⟩:=m
   dsimp only at hmn hmd
   subst hmn hmd;have hCm:∀f∈d.frames,Ayd (ofF d) ⟨n',gd',T⟩=0->A07 (ofF d).1 (Ayc d f):=fun f hf hO=>A3s hO hf (hD.f f hf).h
   have h39:=f39 J hD hvf hfr hM hCm hO (fuel:=100000) (by decide) (by decide) fun M h=>hR.mdl hR0 M h
   have h30:Cv 30 [dbV d,mdV ⟨n',gd',T⟩,Af text,iV 100000] J (.tup [slV eVl 2 R.1,iV 0]):=(f30 d ⟨n',gd',T⟩ J hD hvf hfr hM hCm (l:=text) Om (fun _=>Ay4 d text) (fuel:=100000) (by decide) (by decide)).mono fun v J' hq=>by
    obtain⟨R',e1,e2,e3⟩:=hq;unfold Ayt at e2;rw[if_pos hO]at e2;rw[←A0s.det hR e2,hR0]at e1
    grind
   have h41:Cv 41 [dbV d,mdV ⟨n',gd',T⟩] J (iV 0):=by have:=f41 d ⟨n',gd',T⟩ J hD hvf hM;grind
   have h40:Cv 40 [slV eI 1 gd',slV eI 1 gd'] J (.bool true):=by
    have:=f40i gd' gd' J Om
    grind
   refine G5 ?_;refine Ca h39 ?_
   iterate 13 refine G ?_
   refine Ca h30 ?_;refine G10 ?_;refine Bi rfl rfl rfl rfl rfl noR rfl rfl (Ag rfl) (Bi rfl rfl rfl rfl rfl noR rfl rfl (A7p (p:=0) okC rfl rfl) (O1 (A3 rfl rfl rfl) ?_));refine G ?_;refine Bi rfl rfl rfl rfl rfl noR rfl rfl (Ag rfl) (Bi rfl rfl rfl rfl rfl noR rfl rfl (A7p (p:=0) okC rfl rfl) (O1 (A3 rfl rfl rfl) ?_));refine G ?_;refine Bi rfl rfl rfl rfl rfl noR rfl rfl (Ae fdC rfl rfl) (Bi rfl rfl rfl rfl rfl noR rfl rfl (Ac (v:=iV n') ldC rfl rfl rfl) (Bi rfl rfl rfl rfl rfl noR rfl rfl (Ag rfl) (Bi rfl rfl rfl rfl rfl noR rfl rfl (A7p okC rfl rfl) (O1 (A3 rfl rfl rfl) ?_))));refine G ?_;refine Bi rfl rfl rfl rfl rfl noR rfl rfl (Ae fdC rfl rfl) (Bi rfl rfl rfl rfl rfl noR rfl rfl (Ac (v:=slV eI 1 gd') ldC rfl rfl rfl) (Bi rfl rfl rfl rfl rfl noR rfl rfl (Ag rfl) (Bh rfl rfl rfl rfl rfl rfl rfl rfl h40 (O1 (A3 rfl rfl rfl) ?_))));refine G ?_;refine Bi rfl rfl rfl rfl rfl noR rfl rfl (Ac ldC rfl rfl rfl) (Bi rfl rfl rfl rfl rfl noR rfl rfl (Ac ldC rfl rfl rfl) (Bh rfl rfl rfl rfl rfl rfl rfl rfl h41 (Bi rfl rfl rfl rfl rfl noR rfl rfl (A7p (p:=0) okC rfl rfl) (O1 (A3 rfl rfl rfl) ?_))));refine G ?_;refine Bh rfl rfl rfl rfl rfl rfl rfl rfl (f23 _) (O1 (A3 rfl rfl rfl) ?_);refine G3 ?_;exact⟨_,rfl,_,_,a_ hw nl (fun _ _=>rfl),nl,.same rfl,rfl,rfl⟩
end Go.AM
