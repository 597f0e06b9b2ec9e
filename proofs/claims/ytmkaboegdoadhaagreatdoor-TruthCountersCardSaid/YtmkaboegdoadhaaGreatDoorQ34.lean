/- A part of the proof; shortened by program. -/
import Derived.Test.YtmkaboegdoadhaaGreatDoorQ32
set_option maxRecDepth 100000
set_option maxHeartbeats 4000000
set_option linter.unusedSimpArgs false
set_option linter.unusedVariables false
namespace Go.AM
open Go Go.Proofs
theorem A2l(l):AV.beq (Af l) (Af l)=true:=Ahm (fun x=>beqs1 (Axr x)) l
theorem f80{d:Db}{g:Gr}{n:Int}{gd:List Int}{tm:SM (List Int)}{N a r:Nat}{J:Sto}(hS:Ayj d g n gd tm N a r J)(hD:DbB d)(hvf:d.vars.length+d.frames.length<1000000){i:Nat}{f:Fr}(hf:d.frames[i]? =some f)(hfh:f.hyps.length<=1000000)(hft:f.text.length<1000000)(hht:∀h∈f.hyps,h.text.length<1000000):
  Cv 80 [.pr a 0,nV i] J (.agg (eCm (Ayc d f))):=by
 obtain⟨bs,hbl,hbc,_⟩:=hS.cl;have hno:∀b:Bool,b=true->b=false->False:=gr;refine Aj Tryz.func80 rfl rfl fun hw hu0=>?_
 have hA:a<nx J:=(hw _ _ hbc).1;have hRr:r<nx J:=hS.rl hw;obtain⟨a4,ha4⟩:∃a4,nx J=a4:=⟨_,rfl⟩;obtain⟨J1,hσ1⟩:∃J1,J.new (.cells [.bool false,nS,nS,.str [],nS,.int .i64 0])=J1:=⟨_,rfl⟩;have n1:nx J1=a4+1:=gr;have g1:∀b,b<a4->J1.get b=J.get b:=gr;have r1:J1.get a4=some (.cells [.bool false,nS,nS,.str [],nS,.int .i64 0]):=gr;have b1:J1.get a=some (.cells (Aym d g n bs r)):=(g1 _ Om).trans hbc;have hff:f.text.length<1000000:=hft;refine G3 ?_;refine O1 (Bj (n:=a4) ziC ha4) ?_;refine G ?_;rw[hσ1];refine G6 ?_;refine O1 (E8 (v:=slV eF 8 d.frames) b1 ldC rfl rfl) ?_;refine G5 ?_;obtain⟨a6,ha6⟩:∃a6,nx J1=a6:=⟨_,rfl⟩;obtain⟨J2,hσ2⟩:∃J2,(J1.new (.cells [.bool false,nS,nS,.str [],nS,.int .i64 0])).set a6 (.cells [.bool (!Nv f.text),nS,nS,.str [],nS,iV 0])=J2:=⟨_,rfl⟩;have n2:nx J2=a4+2:=gr;have g2:∀b,b<a6->J2.get b=J1.get b:=gr;have c2:J2.get a6=some (.cells [.bool (!Nv f.text),nS,nS,.str [],nS,iV 0]):=gr;refine G4 ?_;refine Ca (f134 f.text J1) ?_;refine G2 ?_
 refine O1 (Bj (n:=a6) ziC ha6) (O1 (sO (cs:=[.bool false,nS,nS,.str [],nS,.int .i64 0]) (cs':=[.bool (!Nv f.text),nS,nS,.str [],nS,iV 0]) (by rw[ag_,if_pos ha6.symm])) ?_)
 refine G ?_;rw[hσ2];refine G4 ?_;refine O1 (lO c2) ?_;refine G ?_;refine Ab rfl ?_ ?_<;>intro h1
 ·have h1:Nv f.text=false:=gr;refine G2 ?_;refine O1 (lO c2) (O1 (G1 (cs:=[.bool false,nS,nS,.str [],nS,.int .i64 0]) (cs':=[.bool (!Nv f.text),nS,nS,.str [],nS,iV 0]) ((g2 _ Om).trans r1) ldC rfl rfl rfl rfl) ?_);refine G2 ?_
  refine⟨[.agg [.bool (!Nv f.text),nS,nS,.str [],nS,iV 0]],Am (vs:=[.bool (!Nv f.text),nS,nS,.str [],nS,iV 0]) (ldC (t:=170)) rfl (by simp only[Sto.cells];grind) rfl rfl,.agg [.bool (!Nv f.text),.sv [] 1 0 none,.sv [] 2 0 none,sV [],.sv [] 2 0 none,iV 0],J,am_ hw ⟨gr,gr⟩,by omega,.agg (.cons (.same rfl) (.cons (.nils gr) (.cons (.nils gr) (.cons (.same rfl) (.cons (.nils gr) (.cons (.same rfl) .nil)))))),?_,rfl⟩
  unfold Ayc;rw[if_neg gr,h1];rfl
 ·have h1:Nv f.text=true:=gr;rw[h1]at c2;have hc2:J2.get a6=some (.cells [.bool false,nS,nS,.str [],nS,iV 0]):=c2
  iterate 15 refine G ?_
  refine Ci (fun x:Nat×AV×AV=>[(4,.pr a4 0),(5,.pv (eF f)),(6,.pr a6 0),(7,.fn (.func 135) [] [.pr a6 0,.pv [.pr a 0]]),(28,slV eH 3 f.hyps),(29,nV f.hyps.length),(30,nV x.1)]) (fun x U=>x.1<=f.hyps.length/\Below a4 J U/\a6<nx U/\U.get a4=some (.cells [.bool false,nS,nS,.str [],nS,.int .i64 0])/\U.get a6=some (.cells [.bool false,x.2.1,x.2.2,.str [],nS,iV (Ayk d (f.hyps.take x.1)).code])/\Own U (a6+1) e1 1 (Ayk d (f.hyps.take x.1)).vars x.2.1/\Own U (a6+1) eT 2 (Ayk d (f.hyps.take x.1)).prem x.2.2/\∀b,adr x.2.1=some b->adr x.2.2≠some b) (fun x=>f.hyps.length-x.1) (0,nS,nS) SL ⟨aq_ _,⟨by omega,fun b hb=>(g2 b Om).trans (g1 b Om)⟩,by omega,(g2 _ Om).trans r1,hc2,.nil,.nil,fun b h=>by cases h⟩ ?_
  rintro⟨i0,v1,v2⟩ U ⟨hi0,⟨n0,g0⟩,hx6,hr4,hc6,hov,hop,hne⟩;have hi0:i0<=f.hyps.length:=hi0;obtain⟨s,hs⟩:∃s,Ayk d (f.hyps.take i0)=s:=⟨_,rfl⟩;have hsl:=A01 (d:=d) (f.hyps.take i0) ⟨[],[],0⟩
  have hsl:s.vars.length<=i0/\s.prem.length<=i0:=by
   rw[←hs];unfold Ayk
   grind
  have hc6:U.get a6=some (.cells [.bool false,v1,v2,.str [],nS,iV s.code]):=gr;have hov:Own U (a6+1) e1 1 s.vars v1:=gr;have hop:Own U (a6+1) eT 2 s.prem v2:=gr;have hne:∀b,adr v1=some b->adr v2≠some b:=hne;refine G5 ?_;refine Ab rfl ?_ ?_<;>intro h2
  ·have bc:i0<f.hyps.length:=Int.ofNat_lt.1 (of_decide_eq_true h2);obtain⟨h,hh⟩:=Ar bc;have htk:=A22 (d:=d) hh;rw[hs]at htk
   iterate 16 refine G ?_
   refine Ab rfl ?_ ?_<;>intro h3
   ·have hst:Ayk d (f.hyps.take (i0+1))=⟨s.vars++[h.label],s.prem,s.code⟩:=by rw[htk];unfold Ayz;rw[if_pos h3]
    obtain⟨U1,hap,n1',cn,g1'⟩:=dn_ (enc:=e1) (sz:=1) (by':=16) (fun _=>rfl) (show a6+1<=nx U by omega) hov h.label (by simp only[sizeLim];omega)
    have c61:U1.get a6=some (.cells [.bool false,v1,v2,.str [],nS,iV s.code]):=(g1' _ hx6 (fun e=>by have:=(hov.adr_lt e).1;omega)).trans hc6
    refine G2 ?_;refine O1 (lO hc6) ?_;refine G2 ?_;refine Cx (Ai elC byW rfl rfl rfl) (Dv (len:=1)) rfl rfl (O1 (Av elC rfl slC rfl rfl rfl (new:=e1 h.label) rfl hap) ?_);refine G ?_;refine O1 (sO (cs':=[.bool false,.sr (nx U) 0 1 (s.vars.length+1) none,v2,.str [],nS,iV s.code]) c61) ?_;refine G5 ?_
    refine⟨(i0+1,.sr (nx U) 0 1 (s.vars.length+1) none,v2),gr,SL,gr,⟨gr,fun b hb=>by rw[aa_,if_neg Om,g1' b Om (fun e=>by have:=(hov.adr_lt e).1;omega)];exact g0 b hb⟩,gr,?_,?_,?_,?_,?_⟩
    ·rw[aa_,if_neg Om,g1' _ Om (fun e=>by have:=(hov.adr_lt e).1;omega)];exact hr4
    ·grind
    ·show Own _ _ _ _ (Ayk d (f.hyps.take (i0+1))).vars _
     rw[hst];exact cn.of_get gr (fun b q=>by have:=(cn.adr_lt q).1;grind)
    ·show Own _ _ _ _ (Ayk d (f.hyps.take (i0+1))).prem _
     rw[hst];exact hop.of_get gr (fun b q=>by have hq:=hop.adr_lt q;grind)
    ·intro b hb;have hb:some (nx U)=some b:=hb;cases hb
     exact fun e=>by have:=(hop.adr_lt e).2;omega
   ·have h3:h.floating=false:=h3;refine G4 ?_;refine Ca (f134 h.text U) ?_;refine G2 ?_;refine Ab rfl ?_ ?_<;>intro h4
    ·have hst:Ayk d (f.hyps.take (i0+1))=⟨s.vars,s.prem++[(trC d s.code h.text).1],(trC d s.code h.text).2⟩:=by rw[htk];unfold Ayz;grind
     have hWt:Ayj d g n gd tm N a r U:=hS.of_get hw fun b hb=>g0 b Om
     obtain⟨T,e,hTe⟩:∃T e,trC d s.code h.text=(T,e):=⟨_,_,rfl⟩
     obtain⟨lk,kk,hT⟩:∃lk kk,T=.node lk kk:=by cases T;grind
     have h135:=f135 hWt hD hvf hc6 (hht h (ab_ hh));rw[hTe,hT,show En (.node lk kk)=.agg [sV lk,slV eT 2 kk]from Cg lk kk]at h135
     rw[hTe,hT]at hst;obtain⟨U1,hτ1⟩:∃U1,A0r U a6 (.bool false) v1 v2 (.str []) nS (.node lk kk) s.code e=U1:=⟨_,rfl⟩
     have hso:=A2j (T:=.node lk kk) (e:=e) hc6 hx6 (fun q=>by have:=congrArg Prod.snd hTe;unfold trC at this;grind)
     rw[hτ1]at h135 hso;obtain⟨m1,c61,k1⟩:=hso
     have hop1:Own U1 (a6+1) eT 2 s.prem v2:=hop.of_get Om (fun b q=>by have hq:=hop.adr_lt q;grind)
     have hov1:Own U1 (a6+1) e1 1 s.vars v1:=hov.of_get Om (fun b q=>by have hq:=hov.adr_lt q;grind)
     obtain⟨aN,haN⟩:∃aN,nx U1=aN:=⟨_,rfl⟩
     obtain⟨U2,hap,et2,m2,k2⟩:=Own.appZ (enc:=eT) (sz:=2) (by':=40) Dh (z:=[.str [],nS]) rfl (show a6+1<=nx U1 by omega) hop1 (by simp only[sizeLim];omega)
     rw[haN]at hap et2 m2 k2
     have c62:U2.get a6=some (.cells [.bool false,v1,v2,.str [],nS,iV e]):=(k2 _ Om (fun q=>by have:=(hop1.adr_lt q).1;omega)).trans c61
     have cd:Et (s.prem.flatMap eT++[.str [],nS]) (s.prem.length*2) [sV lk,slV eT 2 kk]=some (s.prem.flatMap eT++[sV lk,slV eT 2 kk]):=by
      have:=Ro (p:=s.prem.flatMap eT) (q:=[.str [],nS]) (u:=[sV lk,slV eT 2 kk]) (v:=[]) rfl
      rwa[bh_,bh_,Dl Dh]at this
     have hbt:AV.beq (.agg [sV lk,slV eT 2 kk]) (.agg [sV lk,slV eT 2 kk])=true:=by
      have:=Z8 T;rw[hT,Cl]at this;exact this
     obtain⟨U5,hτ5⟩:∃U5,(U2.set aN (.cells (s.prem.flatMap eT++[sV lk,slV eT 2 kk]))).set a6 (.cells [.bool false,v1,.sr aN 0 2 (s.prem.length+1) none,.str [],nS,iV e])=U5:=⟨_,rfl⟩;have m5:nx U5=aN+1:=gr;have k5:∀b,b<nx U->b≠a6->adr v2≠some b->U5.get b=U.get b:=gr;have c65:U5.get a6=some (.cells [.bool false,v1,.sr aN 0 2 (s.prem.length+1) none,.str [],nS,iV e]):=gr
     have e5:U5.get aN=some (.cells ((s.prem++[Ax.node lk kk]).flatMap eT++[])):=by rw[←hτ5,aa_,if_neg Om,aa_,if_pos rfl,da_,bh_];simp only[bs_,fk_,Cl,bh_]
     refine Avd (Rr:=Dk [(135,[Af h.text,.pr a6 0,.pv [.pr a 0]],U,.agg [sV lk,slV eT 2 kk],U1)]) (a:=aN) (b:=a6) (p:=s.prem.length*2) (q:=2) [.pr a6 2,v2,.fn (.func 135) [] [.pr a6 0,.pv [.pr a 0]],.pv [Af h.text],Af h.text,.agg [sV lk,slV eT 2 kk],nV s.prem.length,.sv [.str [],nS] 2 1 (some 1),.sr aN 0 2 (s.prem.length+1) none,.pr aN (s.prem.length*2),An,.pr a6 2,An] 5 8 10 12 Di (Bw ⟨h135,trivial⟩) rfl rfl Kr Kr rfl rfl rfl rfl Kr Kr Kr rfl rfl rfl rfl rfl rfl rfl Om (by decide) (by decide) (by decide) (by decide) (Bq rfl rfl Bv) (Av elC rfl slC rfl rfl rfl (new:=[.str [],nS]) rfl hap) (G1 (cs':=s.prem.flatMap eT++[sV lk,slV eT 2 kk]) et2 ldC rfl rfl rfl cd) (G1 (cs':=[.bool false,v1,.sr aN 0 2 (s.prem.length+1) none,.str [],nS,iV e]) c62 ldC rfl rfl rfl rfl) (G1 (cs:=[.bool false,v1,v2,.str [],nS,iV e]) (cs':=[.bool false,v1,.sr aN 0 2 (s.prem.length+1) none,.str [],nS,iV e]) gr ldC rfl rfl rfl rfl) rfl rfl rfl hbt rfl Asw rfl rfl ?_ (fun _ _ _ _ _ _=>by kernel_rfl) (fun _ _ _ _ _=>by kernel_rfl) ?_
     ·intro k hk hc υ hυ
      match k,hk,hc with
      |0,_,_=>exact⟨_,_,_,rfl,rfl,Ae (fdC (t:=170) (i:=2)) rfl rfl,rfl,Axv⟩
      |1,_,_=>
       rcases hυ with rfl|rfl|hb
       ·exact⟨_,_,_,rfl,rfl,E8 hc6 (ldC (t:=37)) rfl rfl,rfl,A3l hop⟩
       ·exact⟨_,_,_,rfl,rfl,E8 c61 (ldC (t:=37)) rfl rfl,rfl,A3l hop⟩
       ·exact(hno _ Kr hb).elim
      |2,_,_=>exact⟨_,_,_,rfl,rfl,Ag rfl,rfl,by simp[AV.beq,AV.beqs,Aql]⟩
      |3,_,_=>exact⟨_,_,_,rfl,rfl,Ae (fdC (t:=74) (i:=2)) rfl rfl,rfl,beqs1 (A2l _)⟩
      |4,_,_=>exact⟨_,_,_,rfl,rfl,Ac (ldC (t:=22)) rfl rfl rfl,rfl,A2l _⟩
      |5,_,h=>cases h
      |6,_,_=>exact⟨_,_,_,rfl,rfl,Bf (slC (t:=37)) rfl (A2k hop).1 (A2k hop).2,rfl,Acw _⟩
      |7,_,_=>exact⟨_,_,_,rfl,rfl,Ai (elC (t:=37)) byW rfl rfl rfl,rfl,rfl⟩
      |8,_,h=>cases h
      |9,_,_=>exact⟨_,_,_,rfl,rfl,Br (elC (t:=37)) rfl rfl Om,rfl,Axv⟩
      |10,_,h=>cases h
      |11,_,_=>exact⟨_,_,_,rfl,rfl,Ae (fdC (t:=170) (i:=2)) rfl rfl,rfl,Axv⟩
      |12,_,h=>cases h
      |k+13,hk,_=>exact absurd hk (by simp)
     rw[hτ5];refine G4 ?_
     refine⟨(i0+1,v1,.sr aN 0 2 (s.prem.length+1) none),gr,SL,gr,⟨by omega,fun b hb=>by rw[k5 b Om Om (fun q=>by have:=(hop.adr_lt q).1;omega)];exact g0 b hb⟩,by omega,?_,?_,?_,?_,?_⟩
     ·rw[k5 a4 Om Om (fun q=>by have:=(hop.adr_lt q).1;omega)];exact hr4
     ·grind
     ·show Own _ _ _ _ (Ayk d (f.hyps.take (i0+1))).vars _
      rw[hst];exact hov.of_get Om (fun b q=>by have hq:=hov.adr_lt q;grind)
     ·show Own _ _ _ _ (Ayk d (f.hyps.take (i0+1))).prem _
      rw[hst];exact .inr ⟨aN,[],by omega,by omega,gr,e5⟩
     ·intro b hb e;have e:some aN=some b:=e;cases e;have:=(hov.adr_lt hb).2;omega
    ·have hst:Ayk d (f.hyps.take (i0+1))=s:=by rw[htk];unfold Ayz;grind
     refine G5 ?_;exact⟨(i0+1,v1,v2),gr,SL,gr,⟨n0,g0⟩,hx6,hr4,gr,gr,gr,hne⟩
  ·have bj:f.hyps.length<=i0:=bm_.1 (Int.not_lt.1 (fun q=>of_decide_eq_false h2 q))
   rw[at_ bj]at hs;have hWt:Ayj d g n gd tm N a r U:=hS.of_get hw fun b hb=>g0 b Om
   obtain⟨T,e,hTe⟩:∃T e,trC d s.code f.text=(T,e):=⟨_,_,rfl⟩
   obtain⟨lk,kk,hT⟩:∃lk kk,T=.node lk kk:=by cases T;grind
   have h135:=f135 hWt hD hvf hc6 hft;rw[hTe,hT,show En (.node lk kk)=.agg [sV lk,slV eT 2 kk]from Cg lk kk]at h135
   obtain⟨U1,hτ1⟩:∃U1,A0r U a6 (.bool false) v1 v2 (.str []) nS (.node lk kk) s.code e=U1:=⟨_,rfl⟩
   have hso:=A2j (T:=.node lk kk) (e:=e) hc6 hx6 (fun q=>by have:=congrArg Prod.snd hTe;unfold trC at this;grind)
   rw[hτ1]at h135 hso;obtain⟨m1,c61,k1⟩:=hso;have r41:U1.get a4=some (.cells [.bool false,nS,nS,.str [],nS,.int .i64 0]):=(k1 _ Om Om).trans hr4;obtain⟨U3,hτ3⟩:∃U3,(U1.set a6 (.cells [.bool false,v1,v2,sV lk,slV eT 2 kk,iV e])).set a4 (.cells [.bool false,v1,v2,sV lk,slV eT 2 kk,iV e])=U3:=⟨_,rfl⟩;have m3:nx U3=nx U1:=gr;have k3:∀b,b≠a6->b≠a4->U3.get b=U1.get b:=gr;have c3:U3.get a4=some (.cells [.bool false,v1,v2,sV lk,slV eT 2 kk,iV e]):=gr
   have hov3:Own U3 (a6+1) e1 1 s.vars v1:=hov.of_get Om (fun b q=>by have hq:=hov.adr_lt q;grind)
   have hop3:Own U3 (a6+1) eT 2 s.prem v2:=hop.of_get Om (fun b q=>by have hq:=hop.adr_lt q;grind)
   refine G6 ?_;refine Ca h135 ?_;refine G ?_;refine O1 (sO (cs':=[.bool false,v1,v2,sV lk,slV eT 2 kk,iV e]) c61) ?_;refine G3 ?_;refine O1 (E8 (cs:=[.bool false,v1,v2,sV lk,slV eT 2 kk,iV e]) gr ldC rfl rfl) ?_;refine O1 (G1 (cs:=[.bool false,nS,nS,.str [],nS,.int .i64 0]) (cs':=[.bool false,v1,v2,sV lk,slV eT 2 kk,iV e]) gr ldC rfl rfl rfl rfl) ?_;refine G ?_;rw[hτ3];refine G ?_
   have hut:AV.unds (nx J) [sV lk,slV eT 2 kk]=true:=by rw[←Cl];exact Es _
   have huk:AV.und (nx J) (slV eT 2 kk)=true:=by
    simp only[AV.unds,ad_]at hut;exact hut.2.1
   refine⟨[.agg [.bool false,v1,v2,sV lk,slV eT 2 kk,iV e]],Am (vs:=[.bool false,v1,v2,sV lk,slV eT 2 kk,iV e]) (ldC (t:=170)) rfl (by simp only[Sto.cells];rw[c3]) rfl rfl,.agg [.bool false,Af s.vars,slV eT 2 s.prem,sV lk,slV eT 2 kk,iV e],J,am_ hw ⟨by omega,gr⟩,by omega,.agg (.cons (.same rfl) (.cons (hov3.fz (fun _=>rfl) (fun a ha=>hw.none Om) (A2 D9 _)) (.cons (hop3.fz Dh (fun a ha=>hw.none Om) (by rw[←No];exact Jq _)) (.cons (.same rfl) (.cons (.same huk) (.cons (.same rfl) .nil)))))),?_,rfl⟩
   unfold Ayc;rw[if_pos h1,hs,hTe];unfold eCm;rw[hT,Cl];rfl
def A13(d:Db)(i:Nat):Option (Ax7×Nat):=match d.frames[i]? with|some f=>if f.thm=true then none else some (Ayc d f,i)|none=>none
def Ayg(d:Db)(k:Nat):List (Ax7×Nat):=(List.range k).filterMap (A13 d)
theorem A14{d k f}(hf:d.frames[k]? =some f):Ayg d (k+1)=if(!f.thm)=true then Ayg d k++[(Ayc d f,k)]else Ayg d k:=by
 unfold Ayg;rw[List.range_succ,List.filterMap_append]
 have:A13 d k=if f.thm=true then none else some (Ayc d f,k):=by unfold A13;rw[hf]
 grind
theorem Azf(d k):(Ayg d k).length<=k:=by
 have:=List.length_filterMap_le (A13 d) (List.range k)
 rwa[List.length_range]at this
theorem f81{d g n gd tm N a r J}(hS:Ayj d g n gd tm N a r J)(hD:DbB d)(hvf:d.vars.length+d.frames.length<1000000)(hfr:∀f∈d.frames,f.hyps.length<=1000000/\f.text.length<1000000/\∀h∈f.hyps,h.text.length<1000000):
  Cv 81 [.pr a 0] J (.tup [slV eCm 6 ((Ayg d d.frames.length).map (·.1)),slV eNn 1 ((Ayg d d.frames.length).map (·.2))]):=by
 obtain⟨bs,hbl,hbc,_⟩:=hS.cl;refine Aj Tryz.func81 rfl rfl fun hw hu0=>?_
 have hA:a<nx J:=(hw _ _ hbc).1;have hRr:r<nx J:=hS.rl hw;refine G12 ?_;refine O1 (E8 (v:=slV eF 8 d.frames) hbc ldC rfl rfl) ?_;refine G4 ?_
 refine Ci (fun x:Nat×AV×AV=>[(0,.pr a 0),(2,x.2.1),(3,x.2.2),(10,slV eF 8 d.frames),(11,nV d.frames.length),(12,nV x.1)]) (fun x U=>x.1<=d.frames.length/\Below (nx J) J U/\Own U (nx J) eCm 6 ((Ayg d x.1).map (·.1)) x.2.1/\Own U (nx J) eNn 1 ((Ayg d x.1).map (·.2)) x.2.2/\∀b,adr x.2.1=some b->adr x.2.2≠some b) (fun x=>d.frames.length-x.1) (0,nS,nS) SL ⟨aq_ _,⟨nl,fun _ _=>rfl⟩,.nil,.nil,fun b h=>by cases h⟩ ?_
 rintro⟨i0,v1,v2⟩ U ⟨hi0,⟨n0,g0⟩,hov,hop,hne⟩;have hi0:i0<=d.frames.length:=hi0;have hov:Own U (nx J) eCm 6 ((Ayg d i0).map (·.1)) v1:=hov;have hop:Own U (nx J) eNn 1 ((Ayg d i0).map (·.2)) v2:=hop;have hne:∀b,adr v1=some b->adr v2≠some b:=hne;have hcl:=Azf d i0;have hl1:((Ayg d i0).map (·.1)).length<=1000000:=gr;have hl2:((Ayg d i0).map (·.2)).length<=1000000:=gr;refine G5 ?_;refine Ab rfl ?_ ?_<;>intro h1
 ·have bc:i0<d.frames.length:=Int.ofNat_lt.1 (of_decide_eq_true h1);obtain⟨f,hf⟩:=Ar bc;obtain⟨hfh,hft,hht⟩:=hfr f (ab_ hf);have hsu:=A14 hf;obtain⟨U1,hτ1⟩:∃U1,(U.new (.cells [.str [],.bool false,nS,nS,nS,nS,nS,nS])).set (nx U) (.cells (eF f))=U1:=⟨_,rfl⟩;have m1:nx U1=nx U+1:=gr;have k1:∀b,b<nx U->U1.get b=U.get b:=gr;have c1:U1.get (nx U)=some (.cells (eF f)):=gr;have hov1:Own U1 (nx J) eCm 6 ((Ayg d i0).map (·.1)) v1:=hov.of_get Om (fun b q=>k1 b (hov.adr_lt q).2)
  have hop1:Own U1 (nx J) eNn 1 ((Ayg d i0).map (·.2)) v2:=hop.of_get Om (fun b q=>k1 b (hop.adr_lt q).2)
  refine G8 ?_;refine O1 (Bj (n:=nx U) ziC rfl) ?_;refine G ?_
  refine O1 (sO (cs:=[.str [],.bool false,nS,nS,nS,nS,nS,nS]) (cs':=eF f) (by rw[ag_,if_pos rfl])) ?_
  refine G ?_;rw[hτ1];refine G3 ?_;refine O1 (E8 (v:=.bool f.thm) c1 ldC rfl rfl) ?_;refine G2 ?_;refine Ab rfl ?_ ?_<;>intro h2
  ·rw[if_pos h2]at hsu;have hSt:Ayj d g n gd tm N a r U1:=hS.of_get hw fun b hb=>(k1 b Om).trans (g0 b hb)
   have h80:=f80 hSt hD hvf hf hfh hft hht
   obtain⟨lf,kf,hform⟩:∃l k,(Ayc d f).form=.node l k:=by cases (Ayc d f).form;grind
   have hE:eCm (Ayc d f)=[.bool (Ayc d f).silent,Af (Ayc d f).vars,slV eT 2 (Ayc d f).prem,sV lf,slV eT 2 kf,iV (Ayc d f).code]:=by unfold eCm;rw[hform,Cl];rfl
   rw[hE]at h80
   obtain⟨U2,hap,m2,hov2,k2⟩:=dn_ (enc:=eCm) (sz:=6) (by':=104) A09 (show nx J<=nx U1 by omega) hov1 (Ayc d f) (by simp only[sizeLim];omega)
   rw[hE]at hap;have hop2:Own U2 (nx J) eNn 1 ((Ayg d i0).map (·.2)) v2:=hop1.of_get Om (fun b q=>k2 b (hop1.adr_lt q).2 (fun e=>hne b e q))
   obtain⟨U3,rj,m3,hop3,k3⟩:=dn_ (enc:=eNn) (sz:=1) (by':=8) (fun _=>rfl) (show nx J<=nx U2 by omega) hop2 i0 (by simp only[sizeLim];omega)
   refine G4 ?_;refine Ca h80 ?_;refine Cx (Ai elC byW rfl rfl rfl) (Dv (len:=1)) rfl rfl (O1 (Av elC rfl slC rfl rfl rfl (new:=[.bool (Ayc d f).silent,Af (Ayc d f).vars,slV eT 2 (Ayc d f).prem,sV lf,slV eT 2 kf,iV (Ayc d f).code]) rfl hap) ?_);refine G2 ?_;refine Cx (Ai elC byW rfl rfl rfl) (Dv (len:=1)) rfl rfl (O1 (Av elC rfl slC rfl rfl rfl (new:=eNn i0) rfl rj) ?_);refine G7 ?_
   refine⟨(i0+1,.sr (nx U1) 0 6 (((Ayg d i0).map (·.1)).length+1) none,.sr (nx U2) 0 1 (((Ayg d i0).map (·.2)).length+1) none),gr,SL,gr,⟨by omega,fun b hb=>?_⟩,?_,?_,?_⟩
   ·rw[k3 b Om (fun e=>by have:=(hop2.adr_lt e).1;omega),k2 b Om (fun e=>by have:=(hov1.adr_lt e).1;omega),k1 b Om];exact g0 b hb
   ·show Own _ _ _ _ ((Ayg d (i0+1)).map (·.1)) _
    rw[hsu,co_]
    exact hov2.of_get Om (fun b q=>k3 b (hov2.adr_lt q).2 (fun e=>by
     have q:some (nx U1)=some b:=q;cases q;have:=(hop1.adr_lt e).2;omega))
   ·grind
   ·intro b hb e;have hb:some (nx U1)=some b:=hb;have e:some (nx U2)=some b:=e
    grind
  ·rw[if_neg gr]at hsu;refine G5 ?_
   exact⟨(i0+1,v1,v2),gr,SL,gr,⟨by omega,fun b hb=>(k1 b Om).trans (g0 b hb)⟩,gr,gr,hne⟩
 ·have bj:i0=d.frames.length:=gr;subst bj;refine G9 ?_
  have hu:∀N c,AV.unds N (eCm c)=true:=fun N c=>by
   have h1:AV.unds N (eT c.form)=true:=Es _;have h2:AV.und N (Af c.vars)=true:=A2 D9 _
   have h3:AV.und N (slV eT 2 c.prem)=true:=by show AV.unds N (c.prem.flatMap eT)=true;rw[←No];exact Jq _
   unfold eCm
   obtain⟨lf,kf,hform⟩:∃l k,c.form=.node l k:=by cases c.form;grind
   rw[hform,Cl]at h1⊢;simp only[AV.unds,ad_,ay_,bd_,h2,h3]at h1⊢;exact⟨rfl,trivial,trivial,h1.1,h1.2.1,rfl,trivial⟩
  exact⟨_,rfl,_,J,am_ hw ⟨n0,g0⟩,nl,.tup (.cons (hov.fz A09 (fun a ha=>hw.none ha) (A2 (hu _) _)) (.cons (hop.fz (enc:=eNn) (fun _=>rfl) (fun a ha=>hw.none ha) (A2 (fun _=>rfl) _)) .nil)),rfl,rfl⟩
structure A23 (g:Gr)(x:Ax8):Prop where
 v:x.vars.length<1000000
 nd:x.code=0->x.vars.Nodup
 o:x.code=0->okT g.rules x.tree=true/\M6 x.tree<=100000
def A0s(gd:List Int)(n:Int)(tm:SM (List Int))(l:List Ax7)(x:Ax8)(fuel:Int)(R:List Ayb×Int):Prop:=
 ∃M:Bool×Int×Int,A0b gd n tm fuel l 0 M/\if M.2.2≠0 then R=([],M.2.2)else if M.1=false then R=([],13)else if x.code≠0 then R=([],x.code)else if fuel<Ayi n fuel x.vars.length 1 then R=([],10)
 else ∃o,Run n x.vars.reverse (fun m=>Ay9 gd n tm m x.tree) (Ayy x.vars) o/\R=match o with|none=>([],5)|some m=>(Aye x.vars m,0)
theorem f82{d g n gd tm N a r J}(hS:Ayj d g n gd tm N a r J)(ht:A0w g.rules tm n)(hn1:1<=n)(h5:n<=5){l}(hl:∀c∈l,A07 g c)(hll:l.length<1000000){x}(hx:A23 g x){fuel}(hf1:1<=fuel)(hf9:fuel<=100000):
  Al Ew 82 [.pr a 0,slV eCm 6 l,.agg (eGl x),iV fuel] J fun v J'=>∃R,v=.tup [slV eVl 2 R.1,iV R.2]/\A0s gd n tm l x fuel R/\J'=J:=by
 obtain⟨lf,kf,hform⟩:∃l k,x.tree=.node l k:=by cases x.tree;grind
 have hE:eGl x=[sV lf,slV eT 2 kf,Af x.vars,iV x.code]:=by unfold eGl;rw[hform,Cl];rfl
 have hcv:=hx.v;rw[hE];refine gm_ ?_;refine Mo Tryz.func82 (Ke _ _ Tryz.func82) rfl rfl fun hw hu0=>?_
 have hA:a<nx J:=by obtain⟨_,_,h,_⟩:=hS.cl;exact(hw _ _ h).1
 have hRr:r<nx J:=hS.rl hw
 have fin:∀{ρ:Ad} {U:Sto} {v2:AV} {k:List Ayb} {e:Int},Ad.at ρ 8=some (.pr (nx J+1) 0)->Ad.at ρ 9=some (.pr (nx J+2) 0)->U.get (nx J+1)=some (.cells [v2])->U.get (nx J+2)=some (.cells [iV e])->(v2=nS/\k=[]∨v2=slV eVl 2 k)->nx J<=nx U->(∀b,b<nx J->U.get b=J.get b)->A0s gd n tm l x fuel (k,e)->Agw Ew Tryz.f82 (nx J) (fun v J'=>∃R,v=.tup [slV eVl 2 R.1,iV R.2]/\A0s gd n tm l x fuel R/\J'=J) ρ U:=by
  intro ρ U v2 k e p7 p8 q7 q8 h2 hn hg hR
  refine⟨[v2,iV e],Am (vs:=[v2]) (ldC (t:=64)) p7 (by simp only[Sto.cells];rw[q7]) rfl (Am (vs:=[iV e]) (ldC (t:=32)) p8 (by simp only[Sto.cells];rw[q8]) rfl rfl),.tup [slV eVl 2 k,iV e],J,am_ hw ⟨hn,hg⟩,nl,?_,(k,e),rfl,hR,rfl⟩
  rcases h2 with⟨rfl,rfl⟩|rfl
  ·exact .tup (.cons (.nils gr) (.cons (.same rfl) .nil))
  ·exact .tup (.cons (.same (A2 (fun _=>rfl) _)) (.cons (.same rfl) .nil))
 obtain⟨J1,hσ1⟩:∃J1,(J.bump.new (.cells [nS])).new (.cells [.int .i64 0])=J1:=⟨_,rfl⟩;have n1:nx J1=nx J+3:=gr;have g1:∀b,b<nx J->J1.get b=J.get b:=gr;have c7:J1.get (nx J+1)=some (.cells [nS]):=gr;have c8:J1.get (nx J+2)=some (.cells [.int .i64 0]):=gr;have hS1:Ayj d g n gd tm N a r J1:=hS.of_get hw g1
 iterate  4 refine G ?_
 refine O1 (Bj (n:=nx J+1) ziC (Bm J)) (O1 (Bj (n:=nx J+2) ziC gr) ?_);refine G ?_;rw[hσ1];have st2:∀(U:Sto) (y z:AV),∃U',(U.set (nx J+1) (.cells [y])).set (nx J+2) (.cells [z])=U'/\nx U'=nx U/\U'.get (nx J+1)=some (.cells [y])/\U'.get (nx J+2)=some (.cells [z])/\∀b,(b<nx J+1∨nx J+3<=b)->U'.get b=U.get b:=fun U y z=>
  ⟨_,rfl,gr,gr,gr,gr⟩
 iterate  5 refine G ?_
 refine Az rfl rfl rfl rfl (f97 hS1 ht hn1 h5 hl hll hf1 hf9) ?_;rintro _ τz ⟨⟨ok,ci,ce⟩,rfl,hM,hz⟩;rw[hz]
 iterate  16 refine G ?_
 refine A0 rfl ?_ ?_<;>intro h1
 ·have h1:ce≠0:=gr;obtain⟨U,hτ,k0,k7,k8,kg⟩:=st2 J1 nS (iV ce)
  iterate  3 refine G ?_
  refine O1 (sO (cs':=[nS]) c7) (O1 (G1 (cs:=[.int .i64 0]) (cs':=[iV ce]) gr ldC rfl rfl rfl rfl) ?_);refine G ?_;rw[hτ];refine G ?_;exact fin rfl rfl k7 k8 (.inl ⟨rfl,rfl⟩) Om (fun b hb=>(kg b Om).trans (g1 b hb)) ⟨_,hM,gr⟩
 ·have h1:ce=0:=gr
  iterate  6 refine G ?_
  refine A0 rfl ?_ ?_<;>intro h2
  ·have h2:ok=false:=gr;obtain⟨U,hτ,k0,k7,k8,kg⟩:=st2 J1 nS (iV 13)
   iterate  2 refine G ?_
   refine O1 (sO (cs':=[nS]) c7) (O1 (G1 (cs:=[.int .i64 0]) (cs':=[iV 13]) gr ldC rfl rfl rfl rfl) ?_);refine G ?_;rw[hτ];refine G ?_;exact fin rfl rfl k7 k8 (.inl ⟨rfl,rfl⟩) Om (fun b hb=>(kg b Om).trans (g1 b hb)) ⟨_,hM,gr⟩
  ·have h2:ok=true:=gr
   iterate  7 refine G ?_
   refine A0 rfl ?_ ?_<;>intro h3
   ·have h3:x.code≠0:=gr;obtain⟨U,hτ,k0,k7,k8,kg⟩:=st2 J1 nS (iV x.code);refine G ?_;refine Dy fun df=>L4 (Rr:=Dk []) (anns:=[⟨.pure,0,1⟩,⟨.read,0,1⟩,⟨.eff,0,1⟩,⟨.eff,1,2⟩]) Di (Bw (l:=[]) trivial) Kr ?_
    iterate  2 refine G ?_
    refine DT (sO (cs':=[nS]) c7) (DT (G1 (cs:=[.int .i64 0]) (cs':=[iV x.code]) gr ldC rfl rfl rfl rfl) ?_);refine G ?_;refine⟨⟨trivial,(fun s hs=>⟨_,Ac (ldC (t:=32)) rfl rfl rfl⟩),trivial,trivial,trivial⟩,?_⟩
    rw[hτ];refine G ?_;exact fin rfl rfl k7 k8 (.inl ⟨rfl,rfl⟩) Om (fun b hb=>(kg b Om).trans (g1 b hb)) ⟨_,hM,gr⟩
   ·have h3:x.code=0:=gr;obtain⟨hof,hofb⟩:=hx.o h3;have hnd:=hx.nd h3;obtain⟨bs,hbl,hbc,_⟩:=hS1.cl;refine G ?_;refine Dy fun df=>XS (l:=[(94,[iV n,nV x.vars.length,iV fuel],J1,iV (Ayi n fuel x.vars.length 1),J1)]) ⟨f94g fuel n x.vars.length J1 hf1 hf9 hn1 h5 hcv,trivial⟩ ?_
    iterate  3 refine G ?_
    refine DF (E8 hbc ldC rfl Aze) ?_
    iterate  9 refine G ?_
    refine A0 rfl ?_ ?_<;>intro h4
    ·have h4:fuel<Ayi n fuel x.vars.length 1:=of_decide_eq_true h4;obtain⟨U,hτ,k0,k7,k8,kg⟩:=st2 J1 nS (iV 10)
     iterate  2 refine G ?_
     refine O1 (sO (cs':=[nS]) c7) (O1 (G1 (cs:=[.int .i64 0]) (cs':=[iV 10]) gr ldC rfl rfl rfl rfl) ?_);refine G ?_;rw[hτ];refine G ?_;exact fin rfl rfl k7 k8 (.inl ⟨rfl,rfl⟩) Om (fun b hb=>(kg b Om).trans (g1 b hb)) ⟨_,hM,gr⟩
    ·have h4:¬(fuel<Ayi n fuel x.vars.length 1):=of_decide_eq_false h4
     have hRn:∀R o,Run n x.vars.reverse (fun m=>Ay9 gd n tm m x.tree) (Ayy x.vars) o->(R=match o with|none=>([],5)|some m=>(Aye x.vars m,0))->A0s gd n tm l x fuel R:=fun R o h q=>
      ⟨_,hM,gr⟩
     obtain⟨aY,haY⟩:∃aY,nx J1+1=aY:=⟨_,rfl⟩;obtain⟨J7,hσ7⟩:∃J7,J1.bump.new (.loop .ready)=J7:=⟨_,rfl⟩;have n7:nx J7=nx J1+2:=gr;have g7:∀b,b<nx J1->J7.get b=J1.get b:=gr;have y7:J7.get aY=some (.loop .ready):=gr
     iterate  7 refine G ?_
     refine Ca (f131 (vars:=x.vars) (J:=J1) (show a<nx J1 by omega)) ?_
     iterate  2 refine G ?_
     refine L6 rfl (fun tm9 htm=>?_)
     rw[hσ7,haY]
     refine et_ (f165 (L:=⟨aY,tm9,Tryz.f82.ntmps,_,_,_⟩) (d:=d) (g:=g) (gd:=gd) (tm:=tm) (N0:=N) (r:=r) (I:=fun U=>U.get aY=some (.loop .ready)/\U.get (nx J+1)=some (.cells [nS])/\U.get (nx J+2)=some (.cells [.int .i64 0])/\aY<nx U/\∀b,b<nx J->U.get b=J.get b) (aA:=fun m z U=>z=.ret/\U.get aY=some (.loop (H2 .ret))/\U.get (nx J+1)=some (.cells [slV eVl 2 (Aye x.vars m)])/\U.get (nx J+2)=some (.cells [iV 0])/\nx J<=nx U/\∀b,b<nx J->U.get b=J.get b) (bad:=fun m=>Ay9 gd n tm m x.tree) (ap_ ..) hn1 h5 hnd hcv J7 ⟨?w,?ext,?y⟩ ⟨y7,gr,gr,by omega,fun b hb=>(g7 b Om).trans (g1 b hb)⟩) ?pos
     case w=>
      rintro U ⟨_,_,_,_,h⟩;exact hS.of_get hw h
     case ext=>
      rintro U U' q ⟨h1,h3,h4,h5,h6⟩ hq hn hg
      exact⟨gr,gr,gr,by omega,gr⟩
     case y=>
      rintro vm q U hq hmv hvr ⟨hyt,q7,q8,hyl,hgt⟩;obtain⟨U1,hτ1⟩:∃U1,U.set aY (.loop .busy)=U1:=⟨_,rfl⟩;have nt1:nx U1=nx U:=gr;have gt1:∀b,b≠aY->U1.get b=U.get b:=gr;have yt1:U1.get aY=some (.loop .busy):=gr;have hmv1:B8 iV U1 q vm:=hmv.of_get (gt1 _ Om);have hSt:Ayj d g n gd tm N a r U1:=hS.of_get hw fun b hb=>(gt1 b Om).trans (hgt b hb)
      obtain⟨bs,hbl,hbc,hbe⟩:=hSt.cl;obtain⟨k1,k2⟩:=Azb ht hvr x.tree hof;obtain⟨k,hk⟩:=Int.eq_ofNat_of_zero_le k1
      have hk5:k<5:=by omega
      have h76:=f76 d g n gd tm vm N a r q U1 hSt hmv1 ht h5 hvr x.tree hof hofb
      rw[hk,show En x.tree=.agg [sV lf,slV eT 2 kf] by rw[hform,Cg]]at h76
      have hbd:Ay9 gd n tm vm x.tree= !gdB gd (Int.ofNat k):=by unfold Ay9;rw[hk];rfl
      refine Tk htm rfl Kr Kr Kr hyt gr ?_
      iterate  3 refine G ?_
      refine⟨hyt,?_⟩;rw[show U.set aY (.loop .busy)=U1 from hτ1]
      iterate  2 refine G ?_
      refine Dy fun df=>XI (l:=[(76,[.pr a 0,.agg [sV lf,slV eT 2 kf],.mp q],U1,iV (.ofNat k),U1)]) ⟨h76,trivial⟩ ?_
      iterate  8 refine G ?_
      refine DF (Bp (v:=.pr a (6+k*1)) A3v rfl rfl hk5 rfl) (DF (E8 (v:=.bool (gdB gd (Int.ofNat k))) hbc ldC rfl (by rw[hbe];exact A2h hk5)) ?_)
      iterate  2 refine G ?_
      refine⟨rfl,by simp,?_⟩
      refine A0 rfl ?_ ?_<;>intro h9
      ·have hb:Ay9 gd n tm vm x.tree=true:=hbd.trans h9;obtain⟨U2,hτ2,k0,k7,k8,kg⟩:=st2 U1 (slV eVl 2 (Aye x.vars vm)) (iV 0)
       iterate  5 refine G ?_
       refine Ca (f133 hmv1 hcv) ?_;refine O1 (G1 (cs:=[nS]) (cs':=[slV eVl 2 (Aye x.vars vm)]) ((gt1 _ Om).trans q7) ldC rfl rfl rfl rfl) ?_;refine O1 (G1 (cs:=[.int .i64 0]) (cs':=[iV 0]) gr ldC rfl rfl rfl rfl) ?_;refine G ?_;rw[hτ2];refine G ?_;refine⟨show U2.get aY=_ from(kg _ Om).trans yt1,?_⟩
       grind
      ·have hb:Ay9 gd n tm vm x.tree=false:=hbd.trans h9;refine G ?_;refine⟨yt1,?_⟩
       show if Ay9 gd n tm vm x.tree=true then _ else _
       rw[if_neg gr]
       exact⟨rfl,⟨by rw[aa_,if_pos rfl];rfl,gr,gr,gr,gr⟩,hmv1.of_get gr⟩
     case pos=>
      rintro u J' ⟨o,bq,hn9,bh⟩;cases o with
      |some m=>
       obtain⟨z,_,rfl,hy9,q7,q8,hn8,hg8⟩:=bh;refine⟨.ret,hy9,?_⟩;exact fin rfl rfl gr gr (.inr rfl) gr gr (hRn _ _ bq rfl)
      |none=>
       obtain⟨hy9,q7,q8,hl9,hg9⟩:=bh;refine⟨.normal,hy9,?_⟩;obtain⟨U,hτ,k0,k7,k8,kg⟩:=st2 (J'.kill aY) nS (iV 5)
       iterate  2 refine G ?_
       refine O1 (G1 (cs:=[nS]) (cs':=[nS]) gr ldC rfl rfl rfl rfl) ?_;refine O1 (G1 (cs:=[.int .i64 0]) (cs':=[iV 5]) gr ldC rfl rfl rfl rfl) ?_;refine G ?_;rw[hτ];refine G ?_;exact fin rfl rfl k7 k8 (.inl ⟨rfl,rfl⟩) gr gr (hRn _ _ bq rfl)
theorem f78(d m J)(hD:DbB d)(hvf:d.vars.length+d.frames.length<1000000)(hM:MdB m){fuel}(hf1:0<=fuel)(hf9:fuel<=100000):Al Ew 78 [dbV d,mdV m,iV fuel] J fun v J'=>(∃p,v=.tup [p,iV (Ayd (ofF d) m)]/\AV.und (nx J') p=true/\Below (nx J) J J'/\(Ayd (ofF d) m=0->p=.pr (nx J+1) 0/\Ayq d (ofF d).1 m.n m.des (Ayx (ofF d).1.rules m.n m.tabs).2 (nx J) (nx J+1) (nx J) J')):=by
 refine Aj Tryz.func78 rfl rfl fun hw hu0=>?_
 refine G11 ?_;refine Az rfl rfl rfl rfl (f71 d m J hD hvf hM) ?_;rintro _ U ⟨p,rfl,hu9,hB,hp⟩;refine G6 ?_;have hl:decide (fuel<0)=false:=decide_eq_false Om;have hg:decide ((100000:Int)<fuel)=false:=decide_eq_false Om;refine G6 ?_;refine Hq 6 _ false rfl rfl rfl rfl rfl (Eh rfl) (fun hg=>?_) (fun hg=>?_) ?_
 ·iterate 2 refine Gn hg ?_
  rw[hl];refine Gn hg ?_
  refine Qh 2 _ false rfl rfl rfl rfl rfl (Ft rfl rfl rfl rfl (by rw[hg];rfl)) (fun hg=>?_) (fun hg=>?_) ?_
  ·iterate 2 refine Gn hg ?_
   refine G ?_;refine⟨rfl,?_,?_⟩
   ·exact sb
   ·rename_i hgg;exact congrArg (fun b=>some (AV.bool b)) (by assumption)
  ·iterate 2 refine Gn hg ?_
   refine G ?_;exact⟨rfl,sb⟩
  refine G ?_;refine⟨rfl,?_,?_⟩
  ·exact sb
  ·exact rfl
 ·iterate 6 refine Gn hg ?_
  refine G ?_;exact⟨rfl,sb⟩
 refine G ?_;refine Ab rfl ?_ ?_<;>intro h1
 ·grind
 ·refine G8 ?_;refine Bo fun hw1=>?_
  refine G ?_
  refine⟨_,rfl,_,_,a_ hw1 nl (fun _ _=>rfl),hB.1,.same (by show(AV.und _ p&&(true&&true))=true;rw[hu9];rfl),p,rfl,hu9,hB,hp⟩
def Azg(d:Db)(m:Ax9)(f:Fr)(fuel:Int)(R:Bool×List Ayb×Int):Prop:=if Ayd (ofF d) m=0 then Ayo m.des m.n (tmO d m) (Ayc d f) fuel R else R=(false,[],Ayd (ofF d) m)
def Ayt(d:Db)(m:Ax9)(l:List Str)(fuel:Int)(R:List Ayb×Int):Prop:=if Ayd (ofF d) m=0 then A0s m.des m.n (tmO d m) ((Ayg d d.frames.length).map (·.1)) (Ayr d (ofF d).1 l) fuel R else R=([],Ayd (ofF d) m)
theorem f29(d m J)(hD:DbB d)(hvf:d.vars.length+d.frames.length<1000000)(hfr:∀f∈d.frames,f.hyps.length<=1000000/\f.text.length<1000000/\∀h∈f.hyps,h.text.length<1000000)(hM:MdB m)(hC:∀f∈d.frames,Ayd (ofF d) m=0->A07 (ofF d).1 (Ayc d f)){fuel}(hf1:1<=fuel)(hf9:fuel<=100000){i f}(hf:d.frames[i]? =some f):
  Al Ew 29 [dbV d,mdV m,nV i,iV fuel] J fun v J'=>∃R,v=.tup [.bool R.1,slV eVl 2 R.2.1,iV R.2.2]/\Azg d m f fuel R/\J'=J:=by
 have hil:=(ae_.1 hf).1;have hfm:=ab_ hf;obtain⟨hfh,hft,hht⟩:=hfr f hfm;refine Aj Tryz.func29 rfl rfl fun hw hu0=>?_
 iterate 13 refine G ?_
 refine Az rfl rfl rfl rfl (f78 d m J hD hvf hM (show 0<=fuel by omega) hf9) ?_
 rintro _ U ⟨p,rfl,hu9,hB,hp⟩;refine G12 ?_;refine Ab rfl ?_ ?_<;>intro h1
 ·have h1:Ayd (ofF d) m≠0:=gr;refine G8 ?_
  exact⟨_,rfl,.tup [.bool false,slV eVl 2 [],iV (Ayd (ofF d) m)],J,am_ hw hB,nl,.tup (.cons (.same rfl) (.cons (.nils gr) (.cons (.same rfl) .nil))),(false,[],Ayd (ofF d) m),rfl,by unfold Azg;rw[if_neg h1],rfl⟩
 ·have h1:Ayd (ofF d) m=0:=gr;obtain⟨rfl,hS⟩:=hp h1;obtain⟨g1,g5,gT⟩:=Ayu h1;refine G6 ?_;rw[show decide (Int.ofNat i<0)=false from decide_eq_false gr]
  refine G ?_;refine Qh 5 _ false rfl rfl rfl rfl rfl (Eh rfl) (fun hg=>?_) (fun hg=>?_) ?_
  ·iterate 2 refine Gn hg ?_
   refine On hg (Ac (v:=slV eF 8 d.frames) ldC rfl rfl rfl) ?_
   iterate 2 refine Gn hg ?_
   refine G ?_;refine⟨rfl,?_,?_⟩
   ·exact sb
   ·exact congrArg (fun b=>some (AV.bool b)) (decide_eq_false gr)
  ·cases hg
  refine G ?_;refine Ab rfl ?_ ?_<;>intro h2
  ·cases h2
  ·refine G6 ?_;refine Ca (f80 hS.g hD hvf hf hfh hft hht) ?_;refine G ?_;refine Az rfl rfl rfl rfl (f79 hS.g gT g1 g5 (hC f hfm h1) hf1 hf9) ?_;rintro _ _ ⟨R,rfl,hR,rfl⟩;refine G8 ?_
   exact⟨_,rfl,_,J,am_ hw hB,nl,.same (by
    have h3:AV.und (nx J) (slV eVl 2 R.2.1)=true:=A2 (fun _=>rfl) _
    show(true&&(AV.und (nx J) (slV eVl 2 R.2.1)&&(true&&true)))=true;rw[h3];rfl),R,rfl,by unfold Azg;rw[if_pos h1];exact hR,rfl⟩
theorem f30(d m J)(hD:DbB d)(hvf:d.vars.length+d.frames.length<1000000)(hfr:∀f∈d.frames,f.hyps.length<=1000000/\f.text.length<1000000/\∀h∈f.hyps,h.text.length<1000000)(hM:MdB m)(hC:∀f∈d.frames,Ayd (ofF d) m=0->A07 (ofF d).1 (Ayc d f)){l}(hl:l.length<1000000)(hG:Ayd (ofF d) m=0->A23 (ofF d).1 (Ayr d (ofF d).1 l)){fuel}(hf1:1<=fuel)(hf9:fuel<=100000):
  Al Ew 30 [dbV d,mdV m,Af l,iV fuel] J fun v J'=>∃R,v=.tup [slV eVl 2 R.1,iV R.2]/\Ayt d m l fuel R/\J'=J:=by
 have hgl:=(Yc d).len;refine Aj Tryz.func30 rfl rfl fun hw hu0=>?_
 refine G12 ?_
 refine Az rfl rfl rfl rfl (f78 d m J hD hvf hM (show 0<=fuel by omega) hf9) ?_
 rintro _ U ⟨p,rfl,hu9,hB,hp⟩;refine G12 ?_;refine Ab rfl ?_ ?_<;>intro h1
 ·have h1:Ayd (ofF d) m≠0:=gr;refine G7 ?_
  exact⟨_,rfl,.tup [slV eVl 2 [],iV (Ayd (ofF d) m)],J,am_ hw hB,nl,.tup (.cons (.nils gr) (.cons (.same rfl) .nil)),([],Ayd (ofF d) m),rfl,by unfold Ayt;rw[if_neg h1],rfl⟩
 ·have h1:Ayd (ofF d) m=0:=gr;obtain⟨rfl,hS⟩:=hp h1;obtain⟨g1,g5,gT⟩:=Ayu h1;have hcl:=Azf d d.frames.length
  have hcm:∀c∈(Ayg d d.frames.length).map (·.1),A07 (ofF d).1 c:=fun c hc=>by
   obtain⟨x,hx,rfl⟩:=bt_.1 hc;obtain⟨i,_,hi⟩:=List.mem_filterMap.1 hx;unfold A13 at hi
   grind
  refine G4 ?_;refine Ca (f81 hS.g hD hvf hfr) ?_;refine G12 ?_;refine Ca (f83 hS.g hD hvf Om hl) ?_;refine G ?_;refine Az rfl rfl rfl rfl (f82 hS.g gT g1 g5 hcm gr (hG h1) hf1 hf9) ?_;rintro _ _ ⟨R,rfl,hR,rfl⟩;refine G6 ?_
  exact⟨_,rfl,_,J,am_ hw hB,nl,.same (by
   have h3:AV.und (nx J) (slV eVl 2 R.1)=true:=A2 (fun _=>rfl) _
   show(AV.und (nx J) (slV eVl 2 R.1)&&(true&&true))=true;rw[h3];rfl),R,rfl,by unfold Ayt;rw[if_pos h1];exact hR,rfl⟩
theorem A3m(t):(eTb t).length=2:=rfl
theorem A4k{N}(t):AV.unds N (eTb t)=true:=by
 show(AV.und N (sV t.label)&&(AV.und N (slV eI 1 t.vals)&&true))=true
 rw[show AV.und N (slV eI 1 t.vals)=true from Fv (fun _=>rfl) _];rfl
theorem f8o(m:Ax9)(J:Sto)(hb:m.tabs.length<1000000):Cv 24 [mdV m] J (mdV m):=by
 refine Aj Tryz.func24 rfl rfl fun hw hu0=>?_
 refine G3 ?_;refine O1 (Bu ziC) ?_;refine G8 ?_;refine O1 (Bj (n:=nx J+1) ziC (Ao _ _)) (O1 (sO (a:=nx J+1) (off:=0) (cs:=[.int .i64 0,nS,nS]) (cs':=[iV m.n,slV eI 1 m.des,nS]) gr) ?_);refine G10 ?_;refine Bz m.tabs.length (fun i0=>[(2,.pr (nx J) 0),(3,.pr (nx J+1) 0),(12,slV eTb 2 m.tabs),(13,iV (.ofNat m.tabs.length)),(14,iV (.ofNat i0))]) (fun i0 J0=>∃v,J0.get (nx J)=some (.cells [.int .i64 0,nS,nS])/\J0.get (nx J+1)=some (.cells [iV m.n,slV eI 1 m.des,v])/\Own J0 (nx J+2) eTb 2 (m.tabs.take i0) v/\nx J+2<=nx J0/\(∀b,b<nx J->J0.get b=J.get b)) SL ⟨nS,gr,gr,.nil,gr,gr⟩ ?_
 rintro i0 J0 hi0 ⟨v,hc0,hc1,bf,hn0,hg0⟩;refine G5 ?_;refine Ab rfl ?_ ?_<;>intro h1
 ·have bc:i0<m.tabs.length:=gr;obtain⟨a0,ha0⟩:=Ar bc;have hd0:=A4 ha0
  have bn:((m.tabs.take i0).length+[a0].length)*(40+1)<=sizeLim:=by rw[cb_];simp[sizeLim];omega
  obtain⟨v1,U1,hap,ho1,hb1,_⟩:=bf.app (by':=40) A3m hn0 [a0] bn
  have hn1:=hb1.1;have hc1t:U1.get (nx J+1)=some (.cells [iV m.n,slV eI 1 m.des,v]):=(hb1.2 _ Om).trans hc1;refine G11 ?_;refine O1 (lO hc1) ?_;refine G ?_;refine Cx (Ai elC byW rfl rfl rfl) (Dv (len:=1)) rfl rfl (O1 (Av elC rfl slC rfl rfl rfl (new:=[a0].flatMap eTb) rfl hap) ?_);refine G ?_;refine O1 (G1 (a:=nx J+1) (off:=2) (cs:=[iV m.n,slV eI 1 m.des,v]) (cs':=[iV m.n,slV eI 1 m.des,v1]) hc1t ldC rfl rfl (Acc ho1) rfl) ?_;refine G5 ?_
  refine⟨bc,SL,v1,(by rw[aa_,if_neg Om];exact(hb1.2 _ Om).trans hc0),gr,(by rw[Fw ha0];exact ho1.mono gr gr),gr,fun b hb=>by rw[aa_,if_neg Om];exact(hb1.2 _ Om).trans (hg0 b hb)⟩
 ·have bj:m.tabs.length<=i0:=gr;rw[at_ bj]at bf;refine G3 ?_;refine O1 (lO hc1) (O1 (sO (a:=nx J) (off:=0) (cs:=[.int .i64 0,nS,nS]) (cs':=[iV m.n,slV eI 1 m.des,v]) hc0) ?_);refine G2 ?_
  exact⟨[.agg [iV m.n,slV eI 1 m.des,v]],Am (ldC (t:=62)) rfl (by simp only[Sto.cells];rw[aa_,if_pos rfl]) rfl rfl,_,J,am_ hw ⟨gr,gr⟩,nl,.agg (.cons (.same rfl) (.cons (.same (Fv (fun _=>rfl) _)) (.cons ((bf.mono gr gr).fz A3m (fun a ha=>hw.none Om) (A2 A4k _)) .nil))),rfl,rfl⟩
theorem f77(l s J)(hb:l.length<4611686018427387904):Cv 77 [slV eI 1 l,iV s] J (iV (A5 (fun x=>decide (s=x)) l 0)):=by
 refine Aj Tryz.func77 rfl rfl fun hw hu0=>?_
 refine G12 ?_;refine Bz l.length (fun i=>[(0,slV eI 1 l),(1,iV s),(7,iV (.ofNat l.length)),(8,iV (.ofNat i))]) (fun i J'=>J'=J/\A5 (fun x=>decide (s=x)) l 0=A5 (fun x=>decide (s=x)) (l.drop i) i) SL ⟨rfl,rfl⟩ ?_
 rintro i J' hi ⟨rfl,hf⟩;refine G5 ?_;refine Ab rfl ?_ ?_<;>intro h
 ·have hlt:i<l.length:=gr;obtain⟨a,ha⟩:=Ar hlt;have hd:=A4 ha
  iterate 17 refine G ?_
  refine Ab rfl (fun h'=>?_) (fun h'=>?_)
  ·refine G6 ?_;refine B4 hw rfl ?_;rw[hf,hd];simp only[A5,h',cond_true];rfl
  ·refine G2 ?_;refine O1 (D3 (p:=i) (q:=1) okC rfl rfl Om) ?_;refine G2 ?_;refine⟨hlt,SL,rfl,?_⟩;rw[hf,hd];simp only[A5,h',cond_false]
 ·have hge:l.length<=i:=gr;refine G6 ?_;refine B4 hw rfl ?_;rw[hf,ah_ hge];rfl
theorem f28(l s J)(hb:l.length<4611686018427387904):Cv 28 [slV eI 1 l,iV s] J (.bool (gdB l s)):=by
 refine Aj Tryz.func28 rfl rfl fun hw hu0=>?_
 refine G8 ?_;refine Ca (f77 l s J hb) ?_;refine G4 ?_;refine B4 hw rfl ?_;refine congrArg AV.bool ((Gf l).trans ?_);unfold gdB
 grind
theorem A04(d l):M6 (B1 d l).1<=4000/\hT (B1 d l).1<=100:=by
 have z:M6 Ek<=4000/\hT Ek<=100:=by decide
 unfold B1
 split
 ·exact z
 ·split
  ·exact z
  ·split
   ·exact z
   ·split
    ·exact z
    ·unfold Mu
     split
     ·exact z
     ·split
      ·exact z
      ·split
       ·exact z
       ·rename_i h4
        split
        ·exact z
        ·rename_i h5
         refine⟨Nat.le_of_not_lt h4,?_⟩;have h6:=Nat.le_of_not_lt h5
         rw[show ∀t:Ax,dpT t 1=hT t from fun t=>by have:=A4b t 1;omega]at h6
         exact h6
def Azl(d:Db)(m:Ax9)(l:List Str)(v:List Ayb):Bool:=(decide ((B1 d l).2=0)&&decide (Ayp d m (B1 d l).1 v=0))&&gdB m.des (Ay3 d m (B1 d l).1 v)
theorem f25(d m l v J)(hD:DbB d)(hvf:d.vars.length+d.frames.length<1000000)(hM:MdB m)(hl:l.length<1000000)(hv:v.length<1000000):
  Al Ew 25 [Af l,slV eVl 2 v,.pv [Af d.consts,Af d.vars,slV eF 8 d.frames],.pv [iV m.n,slV eI 1 m.des,slV eTb 2 m.tabs],.pv [iV m.n,slV eI 1 m.des,slV eTb 2 m.tabs]] J fun r J'=>r=.bool (Azl d m l v)/\J'=J:=by
 obtain⟨T,e,hTe⟩:∃T e,B1 d l=(T,e):=⟨_,_,rfl⟩
 obtain⟨lk,kk,hT⟩:∃lk kk,T=.node lk kk:=by cases T;grind
 have hs:=A04 d l;have h26:=f26 d l J hD hvf hl;have h27:=f27 d m (B1 d l).1 v J hD hvf hM hs.1 hs.2 hv
 rw[show Azl d m l v=((decide (e=0)&&decide (Ayp d m (B1 d l).1 v=0))&&gdB m.des (Ay3 d m (B1 d l).1 v)) by unfold Azl;rw[hTe]]
 generalize Ayp d m (B1 d l).1 v=ee at h27⊢
 generalize Ay3 d m (B1 d l).1 v=ev at h27⊢
 rw[hTe,hT]at h26 h27;rw[show En (.node lk kk)=.agg [sV lk,slV eT 2 kk]from Cg lk kk]at h26 h27
 refine Aj Tryz.func25 rfl rfl fun hw hu0=>?_
 refine G8 ?_;refine Ca h26 ?_;refine G12 ?_;refine Ca h27 ?_;refine G11 ?_;refine Hq 2 _ (decide (ee=0)) rfl rfl rfl rfl rfl (Eh rfl) (fun hg=>?_) (fun hg=>?_) ?_
 ·iterate 2 refine Gn hg ?_
  refine G ?_;refine⟨rfl,?_,?_⟩
  ·exact sb
  ·exact rfl
 ·iterate 2 refine Gn hg ?_
  refine G ?_;exact⟨rfl,sb⟩
 refine G ?_;refine Hq 4 _ (gdB m.des ev) rfl rfl rfl rfl rfl (Eh rfl) (fun hg=>?_) (fun hg=>?_) ?_
 ·iterate 3 refine Gn hg ?_
  refine Bh rfl rfl rfl (by rw[hg];rfl) rfl rfl rfl rfl (f28 m.des ev J (by have:=hM.d;omega)) ?_
  refine G ?_;refine⟨rfl,?_,?_⟩
  ·exact sb
  ·exact rfl
 ·iterate 4 refine Gn hg ?_
  refine G ?_;exact⟨rfl,sb⟩
 refine G3 ?_;exact⟨_,rfl,_,_,a_ hw nl (fun _ _=>rfl),nl,.same rfl,rfl,rfl⟩
theorem A45{g r}(h:Hr g r=true):(D1 r).Nodup:=by
 unfold Hr at h
 split at h
 ·cases h
 ·split at h
  ·cases h
  ·rename_i hb
   rw[Bool.not_eq_true]at hb;have hs:=Aff hb;have hp:(Ei (D1 r)).Perm (D1 r):=List.mergeSort_perm _ _;refine hp.nodup_iff.1 (List.pairwise_iff_getElem.2 fun i j hi hj hij e=>?_)
   grind
theorem A24{g}(h:Eb g=0):∀r∈g.rules,Hr g r=true:=by
 unfold Eb at h
 split at h
 ·cases h
 ·split at h
  ·cases h
  ·split at h
   ·cases h
   ·rename_i h3;exact(Ace (by simpa using h3)).1
theorem A25{D text to}:∀(ps:List Pt) (a:Nat) (kids l:List Sp),l∈wyP D text to ps a kids->(∀j,(∀p∈ps,p.sort≠[]->p.arg.toNat≠j)->l[j]? =kids[j]?)/\
  (((Ij ps).map fun p=>p.arg.toNat).Nodup->(∀p∈ps,p.sort≠[]->p.arg.toNat<kids.length)->∀p∈ps,p.sort≠[]->∃e,l[p.arg.toNat]? =some e/\e.1=p.sort)/\∀p∈ps,p.sort=[]->∃b,p.symbol=text.getD b []
 |[],a,kids,l,h=>by
  unfold wyP at h
  grind
 |p::ps,a,kids,l,h=>by
  unfold wyP at h
  split at h
  ·cases h
  ·rename_i hl
   split at h
   ·rename_i hs
    obtain⟨h1,h2,h3⟩:=A25 ps _ _ l h;refine⟨fun j hj=>h1 j fun q hq=>hj q (aj_ _ hq),fun hd hb q hq hqs=>?_,fun q hq hqs=>?_⟩
    ·rcases an_.1 hq with rfl|hq
     ·grind
     ·refine h2 ?_ (fun q hq=>hb q (aj_ _ hq)) q hq hqs
      have e:Ij (p::ps)=Ij ps:=by unfold Ij Ajc;grind
      rwa[e]at hd
    ·rcases an_.1 hq with rfl|hq
     ·unfold ldP at hl
      grind
     grind
   ·rename_i hs
    obtain⟨e,_,h⟩:=List.mem_flatMap.1 h
    split at h
    ·obtain⟨h1,h2,h3⟩:=A25 ps _ _ l h;refine⟨fun j hj=>?_,fun hd hb q hq hqs=>?_,fun q hq hqs=>?_⟩
     ·grind
     ·have ea:Ij (p::ps)=p::Ij ps:=by unfold Ij Ajc;grind
      rw[ea,cn_,ed_]at hd
      rcases an_.1 hq with rfl|hq
      ·refine⟨(q.sort,a,e),?_,rfl⟩
       rw[h1 _ fun x hx hxs e=>hd.1 (bt_.2 ⟨x,cp_.2 ⟨hx,by simpa[Ajc]using hxs⟩,e⟩),f_ (hb q (ap_ ..) hqs)]
      grind
     grind
    ·cases h
theorem A4l{g}(hv:∀r∈g.rules,Hr g r=true){D text r a to}{rl:Rl}(hr:g.rules[r]? =some rl):∀l∈Qx g D text r a to,∀p∈rl.parts,(p.sort≠[]->∃e,l[p.arg.toNat]? =some e/\e.1=p.sort)/\(p.sort=[]->∃b,p.symbol=text.getD b []):=fun l h p hp=>by
 have kq:=hv rl (ab_ hr)
 have hP:rPt g r=rl.parts:=by unfold rPt;rw[hr]
 unfold Qx at h;rw[hP]at h;obtain⟨_,h2,h3⟩:=A25 _ _ _ l h;have ha:=(Tp kq).2.2;refine⟨fun hps=>h2 ?_ (fun q hq hqs=>?_) p hp hps,h3 p hp⟩
 ·have:=Afk (f:=Int.toNat) (A45 kq) fun x hx y hy e=>by
   unfold D1 Ij at hx hy;obtain⟨q,hq,rfl⟩:=bt_.1 hx;obtain⟨u,hu,rfl⟩:=bt_.1 hy;rw[cp_]at hq hu
   obtain⟨j,hj,_⟩:=ha q hq.1 (by simpa[Ajc]using hq.2)
   obtain⟨k,hk,_⟩:=ha u hu.1 (by simpa[Ajc]using hu.2)
   grind
  unfold D1 at this
  grind
 ·obtain⟨j,hj,hlt⟩:=ha q hq hqs;rw[fi_,hj];unfold Qw at hlt
  grind
def KAt(L:List Sp)(o:List Nat)(P:List Sp):Prop:=∀(j k:Nat),o[j]? =some k->∃e,P[j]? =some e/\L[k]? =some e
theorem A46{α:Type}{L X:List α}{k:Nat}{e}(h:L[k]? =some e):(L++X)[k]? =some e:=gr
theorem A4m{L s}:(D2 L s).2[(D2 L s).1]? =some s/\∃X,(D2 L s).2=L++X:=by
 unfold D2
 split
 ·rename_i h
  have hi:=List.idxOf_lt_length_of_mem h;exact⟨gr,[],(bh_ _).symm⟩
 grind
theorem A1s:∀(l P L:List Sp) (o:List Nat),o.length=P.length->KAt L o P->(∃X,(Ct L l o).2=L++X)/\KAt (Ct L l o).2 (Ct L l o).1 (P++l)
 |[],P,L,o,_,h=>⟨⟨[],(bh_ _).symm⟩,by rw[bh_];exact h⟩
 |s::r,P,L,o,hl,h=>by
  obtain⟨h1,X,hX⟩:=A4m (L:=L) (s:=s);unfold Ct
  obtain⟨⟨Y,hY⟩,h3⟩:=A1s r (P++[s]) (D2 L s).2 (o++[(D2 L s).1]) (by simp[hl]) fun j k hk=>by
   by_cases hj:j<o.length
   ·rw[cg_ hj]at hk;obtain⟨e,e1,e2⟩:=h j k hk
    grind
   grind
  grind
structure SWk (g:Gr)(text:List Str)(L:List Sp)(s:Sp)(w:Wy):Prop where
 so:rSo g w.rule=s.1
 kid:∀rl,g.rules[w.rule]? =some rl->∀p∈rl.parts,(p.sort≠[]->∃k e,w.kids[p.arg.toNat]? =some k/\L[k]? =some e/\e.1=p.sort)/\(p.sort=[]->∃b,p.symbol=text.getD b [])
theorem SWk.mono{g text L X s w}(h:SWk g text L s w):SWk g text (L++X) s w:=
 ⟨h.so,fun rl hr p hp=>⟨fun hs=>by
  obtain⟨k,e,h1,h2,h3⟩:=(h.kid rl hr p hp).1 hs
  grind,(h.kid rl hr p hp).2⟩⟩
theorem A30{g}(hv:∀r∈g.rules,Hr g r=true){D text s x P Q}(hx:x∈Ajj g D text s)(hw:∀w∈P.ways,SWk g text P.list s w)(h:F7 x P=some Q):
  (∀w∈Q.ways,SWk g text Q.list s w)/\∃X,Q.list=P.list++X:=by
 unfold F7 at h
 split at h
 ·cases h
 ·cases h
  obtain⟨⟨X,hX⟩,hK⟩:=A1s x.2 [] P.list [] rfl (fun j k hk=>by cases hk)
  obtain⟨bl,_,_⟩:=Xa x.2 P.list [] gr;refine⟨fun w hw'=>?_,X,hX⟩
  rcases bb_.1 hw' with hw'|hw'
  ·show SWk g text (Ct P.list x.2 []).2 s w
   rw[hX];exact(hw w hw').mono
  ·rw[ao_]at hw';subst hw';obtain⟨r,hr,hx⟩:=List.mem_flatMap.1 hx;obtain⟨l,hl,rfl⟩:=bt_.1 hx;refine⟨of_decide_eq_true (cp_.1 hr).2,fun rl hrl p hp=>?_⟩
   obtain⟨h1,h2⟩:=A4l hv hrl l hl p hp;refine⟨fun hs=>?_,h2⟩
   obtain⟨e,e1,e2⟩:=h1 hs;have hj:p.arg.toNat<(Ct P.list l []).1.length:=gr;have hk:=az_ hj;obtain⟨e',e3,e4⟩:=hK _ _ hk
   grind
theorem A3n{g}(hv:∀r∈g.rules,Hr g r=true){D text s}:∀(l:List (Nat×List Sp)) {P Q:Pk},(∀x∈l,x∈Ajj g D text s)->(∀w∈P.ways,SWk g text P.list s w)->Pj l P=some Q->
  (∀w∈Q.ways,SWk g text Q.list s w)/\∃X,Q.list=P.list++X
 |[],P,Q,_,hw,h=>by cases h;exact⟨hw,[],(bh_ _).symm⟩
 |x::r,P,Q,hl,hw,h=>by
  unfold Pj at h
  split at h
  ·cases h
  ·rename_i P' hP
   obtain⟨a1,X,a2⟩:=A30 hv (hl x (ap_ ..)) hw hP;obtain⟨b1,Y,b2⟩:=A3n hv r (fun y hy=>hl y (aj_ _ hy)) a1 h
   grind
def FAt(g:Gr)(text:List Str)(L:List Sp)(F:List Nde):Prop:=∀(n:Nat) (x:Nde),F[n]? =some x->L[n]? =some x.sp/\∀w∈x.ways,SWk g text L x.sp w
theorem A2n{g}(hv:∀r∈g.rules,Hr g r=true){D text}:∀(f i total:Nat) (L:List Sp) (nodes F:List Nde),nodes.length=i->FAt g text L nodes->Pf g D text f i total L nodes=some F->∃L',FAt g text L' F/\∃X,L'=L++X
 |0,_,_,_,_,_,_,_,h=>by cases h
 |f+1,i,total,L,nodes,F,hn,hF,h=>by
  unfold Pf at h
  split at h
  ·cases h;exact⟨L,hF,[],(bh_ _).symm⟩
  ·rename_i s hs
   split at h
   ·cases h
   ·rename_i P hP
    obtain⟨a1,X,a2⟩:=A3n hv _ (fun x hx=>hx) gr hP
    have a2:P.list=L++X:=a2
    obtain⟨L',b1,Y,b2⟩:=A2n hv f (i+1) P.total P.list (nodes++[⟨s,P.ways⟩]) F (by simp[hn]) (fun n x hx=>by
     by_cases hlt:n<nodes.length
     ·rw[cg_ hlt]at hx;obtain⟨c1,c2⟩:=hF n x hx;rw[a2];exact⟨A46 c1,fun w hw=>(c2 w hw).mono⟩
     grind) h
    grind
theorem A3o(s):∀l:List Ax,ocL s l=l.any (ocT s)
 |[]=>rfl
 |t::r=>by rw[ocL,A3o s r];rfl
def A3p(g:Gr)(text:List Str)(s:Str):Prop:=∃rl∈g.rules,rl.label=s/\∀p∈rl.parts,p.sort=[]->∃b,p.symbol=text.getD b []
theorem A47{g}(hG:GOk g)(hv:∀r∈g.rules,Hr g r=true){text L F c E}(hF:FOk g F.length F)(hA:FAt g text L F)(h:CI F c E):∀(i n:Nat),E[i]? =some n->c.2.getD n 0≠0->(∃x,F[n]? =some x/\Ayf g.rules (fT g F c n)=some x.sp.1)/\∀s,ocT s (fT g F c n)=true->A3p g text s:=by
 intro i
 induction i using Nat.strongRecOn with
 |_ i ih=>
  intro n hi hn;obtain⟨x,w,hx,hf,hw,hp,hk⟩:=h.first hi hn;rw[Ajn h hi hn hx hf];have ok:=hF x (au_.2 ⟨_,hx⟩) w hw;obtain⟨_,hA2⟩:=hA n x hx;have hS:=hA2 w hw;obtain⟨rl,hrl⟩:∃rl,g.rules[w.rule]? =some rl:=⟨_,az_ ok.rule⟩
  have iq:Md g w.rule=rl.label:=by unfold Md;rw[hrl]
  have hso:rl.sort=x.sp.1:=by rw[←hS.so];unfold rSo;rw[hrl]
  have hro:=Aft hG.nd hrl;have hkid:=hS.kid rl hrl
  have bl:Qw rl=w.kids.length:=by
   rw[ok.len];unfold Qw nPt rPt;rw[hrl];simp
  refine⟨⟨x,hx,?_⟩,fun s hs=>?_⟩
  ·rw[Ayf,iq,hro];simp only;rw[if_pos,hso];rw[ad_];refine⟨?_,decide_eq_true gr⟩;refine b_.2 fun p hp=>?_
   by_cases hs:p.sort=[]
   ·simp[hs]
   ·obtain⟨k,e,k1,k2,k3⟩:=(hkid p hp).1 hs;have hkm:=ab_ k1;obtain⟨⟨j,hj,hj'⟩,hn'⟩:=hk k hkm;obtain⟨⟨y,hy,hform⟩,_⟩:=ih j hj k hj' hn';have:=(hA k y hy).1;rw[k2]at this;cases this;rw[bk_];right;refine decide_eq_true ?_;rw[Azh,br_,br_,k1]
    grind
  ·rw[ocT,bk_]at hs
   rcases hs with hs|hs
   ·have hs:=of_decide_eq_true hs;exact⟨rl,ab_ hrl,gr,fun p hp=>(hkid p hp).2⟩
   ·rw[A3o,e_]at hs
    grind
theorem A26{g}(hG:GOk g)(hv:∀r∈g.rules,Hr g r=true){text D sp F t}(hpk:Im g D text sp=some F)(h:Mu g F=(t,0)):Ayf g.rules t=some sp.1/\∀s,ocT s t=true->A3p g text s:=by
 obtain⟨hF,h0,_⟩:=Acl hpk
 obtain⟨L,hA,X,hX⟩:=A2n hv 4002 0 0 [sp] [] F rfl (fun n x hx=>by cases hx) hpk
 unfold Mu at h
 split at h
 ·cases h
 ·rename_i c hc
  split at h
  ·cases h
  ·rename_i h1
   split at h
   ·cases h
   ·split at h
    ·cases h
    ·cases h;obtain⟨E,hg,hm⟩:=Z5 hF _ 0 _ [] c ci0 h0 hc;obtain⟨i,hi⟩:=au_.1 hm;obtain⟨⟨x,hx,h2⟩,h3⟩:=A47 hG hv hF hA hg.ci i 0 hi Om;refine⟨?_,h3⟩;have:=(hA 0 x hx).1;rw[hX]at this;cases this;exact h2
end Go.AM
