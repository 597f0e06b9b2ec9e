/- A part. -/
import Derived.ChangeArms
import Derived.SizedLaws
import Derived.OpenShut
import Derived.LaidMore
import Derived.Stop.Joined
import Derived.Test.YtmkaboegdoadhaaGreatDoorRows
import Derived.ProofKit
import Derived.Carry
import Derived.Test.YtmkaboegdoadhaaGreatDoorW24
set_option maxRecDepth 100000
set_option maxHeartbeats 4000000
set_option linter.unusedSimpArgs false
set_option linter.unusedVariables false
namespace Go.AM
open Go Go.Proofs
def F159(g:Gr)(F:List Nde)(c:Cs)(k:Nat):Prop:=∀(Ls:List RF) (L:RF) (B:Nat) (S:Sto->Prop) (aA:XE->Sto->Prop) (J:Sto),L∈Ls->TC Ls L B (fT g F c k) S aA->S J->B<=nx J->Hl Ew Ls 159 (.yl L.aY::[.pv [lV g F c],.pv [nV k]]) J fun _ J'=>PY B J aA J'
def As7(g:Gr)(F:List Nde)(c:Cs)(w:Wy)(q:Nat):Prop:=∀(Ls:List RF) (L:RF) (B:Nat) (S:Sto->Prop) (aA:XE->Sto->Prop) (J:Sto) (kv:AV),L∈Ls->TC Ls L B (.node (Md g w.rule) (w.kids.map (fT g F c))) S aA->S J->B<=nx J->KdV J B ((w.kids.map (fT g F c)).take q) kv->Hl Ew Ls 160 [lV g F c,.agg (eWy w),kv,.yl L.aY] J fun v J'=>v=.bool false/\PY B J aA J'
theorem Awh{g F c w}(hwl:w.kids.length<=200)(hwr:w.rule<g.rules.length)(ih:∀k∈w.kids,F159 g F c k){q}(hq:q<=w.kids.length)(ihq:q<w.kids.length->As7 g F c w (q+1)):As7 g F c w q:=by
 intro Ls L B S aA J kv hLs hC hS hB hK;obtain⟨rl,hrl⟩:=Ar hwr
 have iq:Md g w.rule=rl.label:=by unfold Md;rw[hrl]
 obtain⟨ks,hks⟩:∃ks,w.kids.map (fT g F c)=ks:=⟨_,rfl⟩;have hkl:ks.length=w.kids.length:=gr;unfold As7 at ihq;rw[hks]at hC hK ihq;have hql:(ks.take q).length=q:=gr;have hKl:=hK.lenA;rw[hql]at hKl;obtain⟨J0,hσ0⟩:∃J0,J.bump.new (.cells [.bool false])=J0:=⟨_,rfl⟩;have n0:nx J0=nx J+2:=gr;have g0:∀b,b<nx J->J0.get b=J.get b:=gr;have r0:J0.get (nx J+1)=some (.cells [.bool false]):=gr;refine Mo Tryz.func160 (Ke _ _ Tryz.func160) rfl rfl fun hw hu0=>?_
 iterate  4 refine G ?_
 refine Jv ldC rfl hK.cellsN rfl ?_;refine G ?_;refine O1 (Bj (n:=nx J+1) ziC (Bm J)) ?_;refine G ?_;rw[hσ0]
 iterate  3 refine G ?_
 refine O1 (Ac ldC rfl rfl hK.ld) (O1 (Bf slC rfl hKl.1 hKl.2) ?_)
 iterate  5 refine G ?_
 refine A0 rfl ?_ ?_<;>intro h1
 ·have hqe:q=w.kids.length:=ci_ (of_decide_eq_true h1);have hkq:ks.take q=ks:=at_ Om;rw[hkq]at hK;obtain⟨v',J1,hap,hK1,n1,n1',g1⟩:=Ava J0 ks Om;have hKq:lenA kv=some ks.length:=gr;have ef:F9 J0 2 kv ks.length=some (ks.flatMap eT):=(hK.of Om fun b _ h2=>g0 b h2).src
  obtain⟨U,hτ⟩:∃U,J1.kill (nx J0)=U:=⟨_,rfl⟩;have nτ:nx U=nx J1:=gr;have gτ:∀b,b<nx J0->U.get b=J0.get b:=gr;have hlt:=hC.lt;refine G ?_;refine Abx 14 (Rr:=Dk []) (anns:=[aR 0 1,aR 0 1,aP 0 1,aP 0 1,aP 0 1,aR 0 1,aP 0 1,aR 0 1,aP 0 1,aP 0 1,aR 0 1,aR 0 0,aE 0 1,aP 1 1]) (Ab1 Kr) Di (Bw (l:=[]) trivial) Kr ?_
  iterate  8 refine G ?_
  refine DF (A1 elC Qy rfl rfl hrl) ?_
  iterate  2 refine G ?_
  refine DF (Ac ldC rfl rfl hK.ld) (DT (Av elC rfl slC rfl rfl hKq (new:=ks.flatMap eT) ef hap) (DF (Ut bdC rfl hK1.fill) ?_));refine G ?_;refine⟨⟨(fun s hs=>⟨_,(Ac (ldC (t:=54)) rfl rfl rfl)⟩),(fun s hs=>⟨_,(Ac (ldC (t:=251)) rfl rfl rfl)⟩),trivial,trivial,trivial,(fun s hs=>⟨_,(Ac (ldC (t:=139)) rfl rfl rfl)⟩),trivial,(fun s hs=>⟨_,(Ac (ldC (t:=3)) rfl rfl rfl)⟩),trivial,trivial,(fun s hs=>⟨_,(Ac (ldC (t:=9)) rfl rfl rfl)⟩),(fun s hs=>⟨_,(Ac (ldC (t:=37)) rfl rfl hK.ld)⟩),trivial,trivial,trivial⟩,?_⟩
  refine TOp 0 ?_
  refine Avb U [(8,.pr (nx J+1) 0),(16,.yl L.aY),(29,En (.node (Md g w.rule) ks))] (fun hw9=>by rw[←hτ];exact .kill hw9 _) nτ (fun hw9=>⟨⟨_,rfl,.same (Jr Om)⟩,⟨_,rfl,.same (Ce Om)⟩,⟨_,rfl,?_⟩,trivial⟩) ?_
  ·rw[Cg,iq];refine .agg (.cons (.same rfl) (.cons (hK1.fz fun a ha=>?_) .nil))
   rw[←hτ,bf_]
   split
   ·rfl
   ·exact hw9.none Om
  refine G ?_;refine Lg hLs (fun _ _=>rfl) rfl rfl rfl rfl (hC.y U (hC.s J U hS gr) Om) fun x J2 hp2 hn2=>?_
  obtain⟨hx2,hJ2,n2,g2⟩:=hp2;have hr2:J2.get (nx J+1)=some (.cells [.bool false]):=gr
  have hgo:Iu x=false:=by cases x<;>first|exact absurd rfl hx2|rfl
  refine TOp 1 ?_;refine O1 (sO (cs':=[.bool (Iu x)]) hr2) ?_
  iterate  2 refine G ?_
  refine Gi fun hw9=>?_
  refine G ?_
  exact⟨[.bool (Iu x)],Am (vs:=[.bool (Iu x)]) (ldC (t:=4)) rfl (by simp only[Sto.cells];grind) rfl rfl,_,_,a_ hw9 nl (fun _ _=>rfl),gr,.same rfl,congrArg AV.bool hgo,⟨x,hx2,hC.j x _ _ hJ2 gr⟩,gr,gr⟩
 ·have hqe:q≠w.kids.length:=fun e=>of_decide_eq_false h1 (congrArg _ e)
  have bc:q<w.kids.length:=by omega
  obtain⟨k,hk⟩:=Ar bc;have hkm:=ab_ hk;have hkq:ks[q]? =some (fT g F c k):=gr;have htk:=List.take_add_one (l:=ks) (i:=q);rw[hkq]at htk;have htk:ks.take (q+1)=ks.take q++[fT g F c k]:=htk
  obtain⟨lk,kk,hT⟩:∃lk kk,fT g F c k=.node lk kk:=by cases fT g F c k;grind
  have hek:eT (fT g F c k)=[sV lk,slV eT 2 kk]:=by rw[hT];exact Cl lk kk
  have hlt:=hC.lt
  iterate  3 refine G ?_
  refine Dy fun df=>XS (l:=[(124,[lV g F c,nV k],J0,As6 g F c k,J0)]) ⟨f124 k J0,trivial⟩ ?_
  iterate  3 refine G ?_
  refine DF (Ac ldC rfl rfl hK.ld) (DF (Bf slC rfl hKl.1 hKl.2) (DF (A1 elC Ep rfl rfl hk) ?_))
  iterate  4 refine G ?_
  obtain⟨aY,haY⟩:∃aY,nx J0+1=aY:=⟨_,rfl⟩;obtain⟨J7,hσ7⟩:∃J7,J0.bump.new (.loop .ready)=J7:=⟨_,rfl⟩;have n7:nx J7=nx J+4:=gr;have g7:∀b,b<nx J0->J7.get b=J0.get b:=gr;have y7:J7.get aY=some (.loop .ready):=gr;refine Oo ?_;refine L6 rfl (fun tm htm=>?_)
  rw[hσ7,haY];refine et_ (ih k hkm _ ⟨aY,tm,Tryz.f160.ntmps,_,_,_⟩ (nx J+4) (fun U=>S U/\U.get aY=some (.loop .ready)/\U.get (nx J+1)=some (.cells [.bool false])/\∀b,B<=b->b<nx J->U.get b=J.get b) (fun x U=>x=.ret/\U.get aY=some (.loop (H2 .ret))/\U.get (nx J+1)=some (.cells [.bool false])/\(∃x0,x0≠.normal/\aA x0 U)/\∀b,B<=b->b<nx J->U.get b=J.get b) J7 (ap_ ..) ⟨gr,?s,?j,?y⟩ ⟨hC.s J J7 hS gr,y7,gr,gr⟩ Om) ?post
  case s=>
   rintro U U' ⟨h1,h2,h3,h4⟩ hg;exact⟨hC.s U U' h1 fun b hb=>hg b Om,gr,gr,gr⟩
  case j=>
   rintro x U U' ⟨h1,h2,h3,⟨x0,h4,h5⟩,h6⟩ hg;exact⟨h1,gr,gr,⟨x0,h4,hC.j x0 U U' h5 fun b hb=>hg b Om⟩,gr⟩
  case y=>
   rintro U ⟨hSt,hyt,hrt,hgt⟩ hBt;rw[hT,Cg];obtain⟨U1,hτ1⟩:∃U1,U.set aY (.loop .busy)=U1:=⟨_,rfl⟩;have nt1:nx U1=nx U:=gr;have gt1:∀b,b≠aY->U1.get b=U.get b:=gr;have hKτ:KdV U1 B (ks.take q) kv:=hK.of Om gr;obtain⟨U2,hτ2⟩:∃U2,U1.new (.cells ((ks.take q++[fT g F c k]).flatMap eT))=U2:=⟨_,rfl⟩;have nt2:nx U2=nx U1+1:=gr;have gt2:∀b,b<nx U1->U2.get b=U1.get b:=gr;have hap:=hKτ.app1 (fT g F c k) Om;rw[hτ2,hek,hql]at hap
   have hKτ2:KdV U2 B (ks.take (q+1)) (.sr (nx U1) 0 2 (q+1) none):=by
    have:=KdV.snoc (J:=U1) (B:=B) (K:=ks.take (q+1)) Om
    grind
   refine Tk htm rfl Kr Kr Kr hyt gr ?_
   iterate  3 refine G ?_
   refine⟨hyt,?_⟩;rw[show U.set aY (.loop .busy)=U1 from hτ1]
   iterate  2 refine G ?_
   refine Abx 12 (Rr:=Dk []) (anns:=[aR 0 1,aR 0 1,aR 0 0,aR 0 0,aR 0 0,aR 0 0,aR 0 0,aP 0 0,aR 0 0,aP 0 0,aE 0 1,aR 0 1]) (Ab1 Kr) Di (Bw (l:=[]) trivial) Kr ?_
   iterate  2 refine G ?_
   refine DF (Ac ldC rfl rfl hK.ld) (DF (Ac ldC rfl rfl hK.ld) (DF (Bf slC rfl hKl.1 hKl.2) (DF (Ac ldC rfl rfl hK.ld) (DF (Bf slC rfl hKl.1 hKl.2) (DF (As5 hKτ hql rfl rfl rfl) ?_)))));refine G ?_;refine DF (Ai elC byW rfl rfl rfl) (DT (Av elC rfl slC rfl rfl rfl (new:=[sV lk,slV eT 2 kk]) rfl hap) ?_)
   iterate  2 refine G ?_
   refine⟨⟨(fun s hs=>⟨_,(Ac (ldC (t:=251)) rfl rfl rfl)⟩),(fun s hs=>⟨_,(Ac (ldC (t:=318)) rfl rfl rfl)⟩),(fun s hs=>⟨_,(Ac (ldC (t:=37)) rfl rfl hK.ld)⟩),(fun s hs=>⟨_,(Ac (ldC (t:=37)) rfl rfl hK.ld)⟩),(fun s hs=>⟨_,(Bf (slC (t:=37)) rfl hKl.1 hKl.2)⟩),(fun s hs=>⟨_,(Ac (ldC (t:=37)) rfl rfl hK.ld)⟩),(fun s hs=>⟨_,(Bf (slC (t:=37)) rfl hKl.1 hKl.2)⟩),trivial,(fun s hs=>⟨_,(Ac (ldC (t:=39)) rfl rfl rfl)⟩),trivial,trivial,(fun s hs=>⟨_,(Ac (ldC (t:=54)) rfl rfl rfl)⟩),trivial⟩,?_⟩
   refine L5 (fun _ _=>rfl) rfl rfl rfl rfl rfl (ihq bc _ L B S aA U2 _ (aj_ _ hLs) hC.up (hC.s U U2 hSt gr) Om hKτ2) fun u3 U3 hp3 hn3=>?_
   obtain⟨rfl,⟨x0,hx0,hJ0⟩,n3,g3⟩:=hp3;have hr3:U3.get (nx J+1)=some (.cells [.bool false]):=gr;have hy3:U3.get aY=some (.loop .busy):=gr;refine TOp 1 ?_
   iterate  3 refine G ?_
   refine A0 rfl (fun h3=>?_) gr
   iterate  2 refine G ?_
   refine O1 (sO (cs':=[.bool false]) hr3) ?_
   iterate  2 refine G ?_
   refine⟨gr,by simp,⟨rfl,gr,gr,⟨x0,hx0,hC.j x0 _ _ hJ0 gr⟩,gr⟩,gr,gr⟩
  case post=>
   rintro u J' ⟨⟨x,_,rfl,hy9,hr9,⟨x0,hx0,hJ0⟩,hg9⟩,n9,g9⟩;refine⟨.ret,hy9,fun hw9=>?_⟩
   exact⟨[.bool false],Am (vs:=[.bool false]) (ldC (t:=4)) rfl (by simp only[Sto.cells];grind) rfl rfl,_,_,a_ hw9 nl (fun _ _=>rfl),gr,.same rfl,rfl,⟨x0,hx0,hC.j x0 _ _ hJ0 gr⟩,gr,gr⟩
theorem f159n{g F c E}(hL:Lst g F c E){i n:Nat}(hi:E[i]? =some n)(hn:c.2.getD n 0≠0)(h160:∀x w,F[n]? =some x->w∈x.ways->Gp c.2 w≠0->As7 g F c w 0):F159 g F c n:=by
 intro Ls L B S aA J hLs hC hS hB;obtain⟨x,w,hx,hf,hw',hp,hks⟩:=hL.ci.first hi hn;have hfT:=Ajn (g:=g) hL.ci hi hn hx hf;rw[hfT]at hC;have h160:=h160 x w hx hw' hp;refine Mo Tryz.func159 (Ke _ _ Tryz.func159) rfl rfl fun hw hu0=>?_
 refine G ?_;refine Dy fun df=>X0 ?_
 iterate  9 refine G ?_
 refine DF (A1 elC Mw rfl rfl hx) ?_
 iterate  5 refine G ?_
 refine⟨rfl,rfl,?_⟩;refine G ?_
 refine Hz (fun i0:Nat=>[(0,.yl L.aY),(1,.pv [lV g F c]),(17,slV eWy 2 x.ways),(18,nV x.ways.length),(19,nV i0)]) (fun i0 J0=>i0<=x.ways.length/\(∀b,b<nx J->J0.get b=J.get b)/\nx J<=nx J0/\∀v∈x.ways.take i0,Gp c.2 v=0) (fun i0=>x.ways.length-i0) 0 SL ⟨aq_ _,fun _ _=>Fe,by rw[Bm];omega,fun v hv=>by simp at hv⟩ ?_
 rintro i0 J0 ⟨hi0,g0,n0,hz0⟩
 iterate  5 refine G ?_
 refine A0 rfl ?_ ?_<;>intro h1
 ·have bc:i0<x.ways.length:=Int.ofNat_lt.1 (of_decide_eq_true h1);obtain⟨v,hv⟩:=Ar bc;have hvm:=ab_ hv;obtain⟨hvl,hvr,hvk⟩:=hL.way hi hx hvm;have hwl:=(hL.fb.2 x (ab_ hx)).1;have htk:=List.take_add_one (l:=x.ways) (i:=i0);rw[hv]at htk
  iterate  5 refine G ?_
  refine O1 (A1 elC Gq rfl rfl hv) (O1 (Ac ldC rfl rfl (A6 (Gq v) _)) (Mp ziC ldC rfl (fun _=>rfl) rfl (A7 (Gq v)) rfl ?_))
  iterate  6 refine G ?_
  refine Ca (f158 Om (fun k hk=>(hvk k hk).2.2) J0) ?_
  iterate  2 refine G ?_
  refine A0 rfl ?_ ?_<;>intro h2
  ·have hz:Gp c.2 v=0:=ci_ (of_decide_eq_true h2)
   iterate  5 refine G ?_
   refine⟨i0+1,by show x.ways.length-(i0+1)<x.ways.length-i0;omega,SL,by omega,g0,n0,fun u hu=>?_⟩
   rw[htk]at hu
   rcases bb_.1 hu with hu|hu
   ·exact hz0 u hu
   ·simp at hu;subst hu;exact hz
  ·have hpv:Gp c.2 v≠0:=fun q=>of_decide_eq_false h2 (congrArg _ q)
   have hvw:v=w:=by
    rw[←cc_ i0 x.ways,List.find?_append,List.find?_eq_none.2 (fun u hu=>by simp[hz0 u hu]),A4 hv,List.find?_cons_of_pos (by simp[hpv])]at hf
    exact by_ hf
   subst hvw;have hlt:=hC.lt;refine Jw ?_;refine Cf ?_;refine Er ?_;refine Gm 3 fun df=>?_
   iterate  4 refine G ?_
   refine L5 (fun _ _=>rfl) rfl rfl rfl rfl rfl (h160 Ls L B S aA J0 _ hLs hC (hC.s J J0 hS fun b hb=>g0 b Om) Om (.inl ⟨rfl,rfl⟩)) fun u3 U3 hp3 hn3=>?_
   obtain⟨rfl,hx3,n3,g3⟩:=hp3;refine TOp 1 ?_
   iterate  3 refine G ?_
   refine A0 rfl (fun h3=>?_) (fun h3=>by cases h3)
   refine Gi fun hw9=>?_
   refine G ?_
   exact⟨[],rfl,_,_,a_ hw9 nl (fun _ _=>rfl),by omega,.same rfl,hx3,by omega,fun b h1 h2=>by rw[g3 b h1 Om];exact g0 b h2⟩
 ·have bj:x.ways.length<=i0:=bm_.1 (Int.not_lt.1 (fun q=>of_decide_eq_false h1 q))
  exfalso
  rw[at_ bj]at hz0;exact hp (hz0 w hw')
theorem Awi{g F c w}(hwl:w.kids.length<=200)(hwr:w.rule<g.rules.length)(ih:∀k∈w.kids,F159 g F c k):∀(r q:Nat),q+r=w.kids.length->As7 g F c w q
 |0,q,h=>Awh hwl hwr ih Om fun h'=>by omega
 |r+1,q,h=>Awh hwl hwr ih Om fun _=>Awi hwl hwr ih r (q+1) Om
theorem f159{g F c E}(hL:Lst g F c E):∀(i n:Nat),E[i]? =some n->c.2.getD n 0≠0->F159 g F c n:=by
 intro i
 induction i using Nat.strongRecOn with
 |_ i ih=>
  intro n hi hn;refine f159n hL hi hn fun x w hx hw hp=>?_
  obtain⟨h1,h2,h3⟩:=hL.way hi hx hw;refine Awi h1 h2 (fun k hk=>?_) w.kids.length 0 (bn_ _)
  obtain⟨⟨j,hj,hj'⟩,_⟩:=h3 k hk;exact ih j hj k hj' (Xc _ _ hp k hk)
theorem Ap4{E ops R T V b es x}(h:Vs ops.length b es x=true)(hc:∀k,k<ops.length->es.contains k=false->Sz b es x.1.D k=true->Lp E ops R T V x.1.J k=true):Hm E ops R T V b es x=true:=by
 unfold Vs at h;unfold Hm;rw[ad_]at h⊢;refine⟨h.1,?_⟩;rw[b_];intro k hk;have h2:=(b_.1 h.2) k hk;have hk':k<ops.length:=cw_.1 hk;cases he:es.contains k with
 |true=>simpa using h2
 |false=>
  cases ho:Sz b es x.1.D k with
  |false=>simp
  |true=>
   rw[hc k hk' he ho];rw[ho]at h2
   simpa using h2
theorem Avc{E nt B df Q ρ J J' Rr id ops}(vl)(hm:E.P.follows .mixedOrders=true)(hR:Bk E Rr)(hl:ops.toList.length=vl.length)(hd:ops.toList.all (fun o=>B0 nt o.dst)=true)(hcl:(Eu ops (Region.before ops).toList&&Fo ops)=true)
  (hc:∀(tl:List (Tr AV)),(∀k,k<=ops.toList.length->Has (tl.getD k .e) (Lb ops.toList vl ρ k))->∃nl nf,Ne E ops.toList Rr (fun k=>tl.getD k .e) (fun k=>vl.getD k .any) (Region.before ops).toList (A8 E ops.toList 0) [] J=some (nl,nf)/\nf.J=J'/\(∀x∈nl++[(nf,[])],∀k,k<ops.toList.length->(A8 E ops.toList 0).contains k=false->Sz (Region.before ops).toList (A8 E ops.toList 0) x.1.D k=true->Lp E ops.toList Rr (fun k=>tl.getD k .e) (fun k=>vl.getD k .any) x.1.J k=true)/\(nl++[(nf,[])]).all (Vs ops.toList.length (Region.before ops).toList (A8 E ops.toList 0))=true/\(nl.all fun x=>(A8 E ops.toList 0).any fun e=> !x.1.D.contains e)=true)
  (k:Q .normal (Lb ops.toList vl ρ ops.toList.length) J'):T E nt df B (.region id ops true) Q ρ J:=by
 intro ro n hro C w tm a ht st hB;obtain⟨tl,h1,h2⟩:=Vr (nt:=nt) ht hl hd;obtain⟨nl,nf,h3,h4,h5,h6,h7⟩:=hc tl h2
 have hp:Rd E ops Rr ⟨tm,nt,df,J⟩ vl=some ⟨tl.getD ops.size .e,nt,df,nf.J⟩:=by
  unfold Rd;simp only[h1,hcl,h3];rw[h7]
  have:(nl++[(nf,[])]).all (Hm E ops.toList Rr (fun k=>tl.getD k .e) (fun k=>vl.getD k .any) (Region.before ops).toList (A8 E ops.toList 0))=true:=by
   rw[b_]at h6⊢;exact fun x hx=>Ap4 (h6 x hx) (h5 x hx)
  rw[this];rfl
 refine wpIn_mono (Ss hm hR st hp) fun e a' w' he=>?_
 obtain⟨y,hy,C',g1,g2,g3⟩:=he;rw[ao_]at hy;subst hy
 have hsz:ops.size=ops.toList.length:=by simp
 refine⟨.normal,_,_,nf.J,C',g1,h2 _ (ef_ hsz),?_,g2,ai_ hB g3.next,g3.base hB⟩;rw[hsz,h4];exact k
theorem Rz{E ops R T V e o ρ J U v}(ho:ops[e]? =some o)(hg:o.guard=none)(ht:Has (T e) ρ)(hv:V e=v)(hb:AV.beq v v=true)(h:As E R o.op ρ J v U):Ps E ops R T V e J=some U:=by
 unfold Ps;simp only[ho,O5 hg ht h,hv,hb,cond_true]
theorem Avd{E nt B df Q ρ J J1 J2 J3 J4 J5 Rr id ops}(vl c e i j){oc oe oi oj}{t x y t' x' y'}{a b p q vc ve}(hm:E.P.follows .mixedOrders=true)(hR:Bk E Rr)(hl:ops.toList.length=vl.length)(hd:ops.toList.all (fun o=>B0 nt o.dst)=true)(hcl:(Eu ops (Region.before ops).toList&&Fo ops)=true)
  (hes:A8 E ops.toList 0=[c,e,i,j])(hoc:ops.toList[c]? =some oc)(hoe:ops.toList[e]? =some oe)(hoi:ops.toList[i]? =some oi)(hoj:ops.toList[j]? =some oj)(hbe:((Region.before ops).toList.getD e 0).testBit c=true)(hbi:((Region.before ops).toList.getD i 0).testBit e=true)(hbj:((Region.before ops).toList.getD j 0).testBit i=false)
  (hmi:oi.op=.store t x y)(hmj:oj.op=.store t' x' y')(hgc:oc.guard=none)(hge:oe.guard=none)(hgi:oi.guard=none)(hgj:oj.guard=none)(hij:Nat.beq i j=false)(hab:a≠b)(re:c<=ops.toList.length)(hel:e<=ops.toList.length)(hil:i<=ops.toList.length)(hjl:j<=ops.toList.length)
  (h1:As E Rr oc.op (Lb ops.toList vl ρ c) J vc J1)(h2:As E Rr oe.op (Lb ops.toList vl ρ e) J1 ve J2)(h3:As E Rr oi.op (Lb ops.toList vl ρ i) J2 An J3)(h4:As E Rr oj.op (Lb ops.toList vl ρ j) J2 An J4)(h5:As E Rr oj.op (Lb ops.toList vl ρ j) J3 An J5)
  (hx:Ah E (Lb ops.toList vl ρ i) x=some (.pr a p))(hx':Ah E (Lb ops.toList vl ρ j) x'=some (.pr b q))(hvc:vl.getD c .any=vc)(hbc:AV.beq vc vc=true)(hve:vl.getD e .any=ve)(hbv:AV.beq ve ve=true)(hvi:vl.getD i .any=An)(hvj:vl.getD j .any=An)
  (cy:∀k,k<ops.toList.length->([c,e,i,j]:List Nat).contains k=false->∀U:Sto,(U=J∨U=J1∨((Region.before ops).toList.getD e 0).testBit k=false)->∃o v U',ops.toList[k]? =some o/\o.guard=none/\As E Rr o.op (Lb ops.toList vl ρ k) U v U'/\vl.getD k .any=v/\AV.beq v v=true)
  (dc:∀(s1 s2 s3 s4 s5 s6:Sto),([((⟨[],s1,[]⟩:Nd),[c]),(⟨[c],s2,[]⟩,[e]),(⟨[e,c],s3,[]⟩,[i,j]),(⟨[i,e,c],s4,[]⟩,[j]),(⟨[j,e,c],s5,[]⟩,[i]),(⟨[j,i,e,c],s6,[]⟩,[])]:NL).all (Vs ops.toList.length (Region.before ops).toList [c,e,i,j])=true)
  (cw:∀(s1 s2 s3 s4 s5:Sto),(([((⟨[],s1,[]⟩:Nd),[c]),(⟨[c],s2,[]⟩,[e]),(⟨[e,c],s3,[]⟩,[i,j]),(⟨[i,e,c],s4,[]⟩,[j]),(⟨[j,e,c],s5,[]⟩,[i])]:NL).all fun x=>([c,e,i,j]:List Nat).any fun e=> !x.1.D.contains e)=true)
  (k:Q .normal (Lb ops.toList vl ρ ops.toList.length) J5):T E nt df B (.region id ops true) Q ρ J:=by
 refine Avc vl hm hR hl hd hcl (fun tl hT=>?_) k
 rw[hes];have e1:=Rz (T:=fun k=>tl.getD k .e) (V:=fun k=>vl.getD k .any) hoc hgc (hT c re) hvc hbc h1
 have e2:=Rz (T:=fun k=>tl.getD k .e) (V:=fun k=>vl.getD k .any) hoe hge (hT e hel) hve hbv h2
 have e3:=O5 (ops:=ops.toList) hgi (hT i hil) h3;have e4:=O5 (ops:=ops.toList) hgj (hT j hjl) h4;have e5:=O5 (ops:=ops.toList) hgj (hT j hjl) h5
 have hpr:Nat.beq a b=false:=by cases hh:Nat.beq a b with|true=>exact absurd (ac_ hh) hab|false=>rfl
 have hu:AV.beq An An=true:=by rfl
 have ip:N2 E ops.toList Rr (fun k=>tl.getD k .e) (fun k=>vl.getD k .any) i j [e,c] J2=some ([(⟨[e,c],J2,[]⟩,[i,j]),(⟨[i,e,c],J3,[]⟩,[j]),(⟨[j,e,c],J4,[]⟩,[i])],J5):=by
  unfold N2;simp only[hoi,hoj,e3,e4,e5,hmi,hmj,(hT i hil).opd hx,(hT j hjl).opd hx',hvi,hvj,hij,hpr,hu,fc_,be_,cond_true]
 refine⟨[(⟨[],J,[]⟩,[c]),(⟨[c],J1,[]⟩,[e]),(⟨[e,c],J2,[]⟩,[i,j]),(⟨[i,e,c],J3,[]⟩,[j]),(⟨[j,e,c],J4,[]⟩,[i])],⟨[j,i,e,c],J5,[]⟩,?_,rfl,fun x hx k hk hc hok=>?_,dc _ _ _ _ _ _,cw _ _ _ _ _⟩
 ·simp only[Ne,hbe,hbi,hbj,e1,e2,ip]
  rfl
 ·have key:x.1.J=J∨x.1.J=J1∨((Region.before ops).toList.getD e 0).testBit k=false:=by
   have he:e∈x.1.D->((Region.before ops).toList.getD e 0).testBit k=false:=fun hm=>by
    unfold Sz at hok
    have:=b_.1 hok e (by simp)
    rw[List.contains_iff_mem.2 hm]at this
    simpa using this
   simp only[ay_,bd_,an_,cl_,or_false]at hx
   rcases hx with rfl|rfl|rfl|rfl|rfl|rfl
   ·exact .inl rfl
   ·exact .inr (.inl rfl)
   ·exact .inr (.inr (he (by simp)))
   ·exact .inr (.inr (he (by simp)))
   ·exact .inr (.inr (he (by simp)))
   ·exact .inr (.inr (he (by simp)))
  obtain⟨o,v,U',q1,q2,q3,q4,q5⟩:=cy k hk hc _ key;exact Ahn q1 q2 (hT k (gb_ hk)) q4 q5 q3
mutual
theorem Z8:∀t:Ax,AV.beqs (eT t) (eT t)=true
 |.node l ks=>by
  have:=Aj0 ks;simp only[eT,AV.beqs,AV.beq,sV,Tv,aw_,Af8,this,be_]
theorem Aj0:∀l:List Ax,AV.beqs (eTs l) (eTs l)=true
 |[]=>rfl
 |t::r=>by rw[eTs];exact Vq (Z8 t) (Aj0 r)
end
theorem Ds.cell{J}(hw:WFS J){a b vs vs'}(hb:J.get b=some (.cells vs))(hab:a≠b)(hf:∀U:Sto,nx U=nx J->U.get a=none->FzL J U vs vs'):Ds J ((J.kill a).set b (.cells vs')):=by
 have hk:((J.kill a).set b (.cells vs')).get a=none:=by rw[aa_,if_neg hab,bf_,if_pos rfl]
 have hn:nx ((J.kill a).set b (.cells vs'))=nx J:=by rw[Aq,B3]
 have h0:=Ds.kill hw a
 refine⟨by rw[hn];exact nl,fun x O hx=>?_⟩
 rw[aa_]at hx
 split at hx
 ·rename_i e
  subst e;cases hx
  exact⟨by rw[hn];exact(hw _ _ hb).1,_,hb,.cells (hf _ hn hk)⟩
 ·rename_i hne
  obtain⟨h1,O₀,h2,h3⟩:=h0.2 x O hx;rw[B3]at h1
  refine⟨by rw[hn];exact h1,O₀,h2,?_⟩
  have hO:J.get x=some O:=by
   rw[bf_]at hx
   split at hx
   ·cases hx
   ·exact hx
  rw[hO]at h2;cases h2;obtain⟨_,q2,q3⟩:=hw x O hO;cases O with
  |cells vs=>exact .cells (dj_ (by rw[hn];exact q2))
  |map kt es ver=>exact .map (Oi .same (by rw[hn];exact q2))
  |stamp m ver k=>exact .stamp (by rw[hn];exact q2)
  |loop st=>exact .loop
  |iter m ver left cur=>
   refine .iter (by rw[hn];exact q2) ?_
   cases m with
   |none=>trivial
   |some r=>
    intro kt es hr;rw[hn];refine q3 kt es ?_;rw[aa_]at hr
    split at hr
    ·cases hr
    ·rw[bf_]at hr
     split at hr
     ·cases hr
     ·exact hr
def Awj(b:Bool):Nat->Bool
 |0=>false
 |_=>b
theorem Axv{a o}:AV.beq (.pr a o) (.pr a o)=true:=by
 show(Nat.beq a a&&Nat.beq o o)=true
 rw[aw_,aw_];rfl
def Xg(T:Ax):AV:=if 4000<M6 T then .tup [nS,iV 4]else if 100<dpT T 1 then .tup [nS,iV 9]else .tup [slV eT 2 [T],iV 0]
theorem f70{g F c}(hB:GrB g)(dw:Eb g=0)(hF:FOk g F.length F)(hFB:FB F)(h0:0<F.length)(hc:Yx F=some c)(dv:c.2.getD 0 0=1)(hgr:g.rules.length<=1000000)(J):Cv 70 [grV g,fV F,nV 1] J (Xg (fT g F c 0)):=by
 obtain⟨E,hci,h0E⟩:=Aho hF h0 hc;obtain⟨i0,hi0⟩:=au_.1 h0E;have hL:Lst g F c E:=⟨hF,hFB,hci,hgr⟩;have hkb:=hL.kb i0 0 hi0 Om
 have h117:∀J,Cv 117 [grV g] J (iV 0):=fun J=>by
  have:=f117 g J hB
  grind
 have h122:∀J,Cv 122 [fV F] J (.tup [ctV F c,iV 0]):=fun J=>by
  have:=f122 hF hFB h0 J;unfold cntV at this
  grind
 have hat:=O4 (l:=c.2) (i:=0) gr;rw[dv]at hat;obtain⟨T,hTT⟩:∃T,fT g F c 0=T:=⟨_,rfl⟩;rw[hTT]at hkb⊢;have hno:∀b:Bool,b=true->b=false->False:=gr;refine gm_ ?_;refine Mo Tryz.func70 (Ke _ _ Tryz.func70) rfl rfl fun hw hu0=>?_
 iterate  12 refine G ?_
 refine Ca (h117 _) ?_
 iterate  7 refine G ?_
 refine A0 rfl gr (fun h1=>?_)
 iterate  4 refine G ?_
 refine Ca (h122 _) ?_
 iterate  14 refine G ?_
 refine A0 rfl gr (fun h2=>?_)
 iterate  5 refine G ?_
 refine TOr 2 ?_ (fun hg=>?_) ?_
 rotate_left
 ·iterate  2 refine Gn hg ?_
  exact Ez
 iterate  2 refine G ?_
 refine A0 rfl gr (fun h3=>?_)
 iterate  16 refine G ?_
 refine O1 (Gx Am2) ?_
 iterate  2 refine G ?_
 obtain⟨aM,haM⟩:∃aM,nx J.bump=aM:=⟨_,rfl⟩;obtain⟨J1,hσ1⟩:∃J1,J.bump.new (.map 289 [] 0)=J1:=⟨_,rfl⟩;rw[haM,hσ1];rw[Bm]at haM;have n1:nx J1=nx J+2:=gr;have g1:∀b,b<nx J->J1.get b=J.get b:=gr
 have hM1:MsS g F c J1 aM:=⟨[],⟨0,by rw[←hσ1,ag_,if_pos gr];rfl⟩,fun n t h=>by cases h⟩
 iterate  2 refine G ?_
 refine Dy fun df=>X0 ?_
 iterate  5 refine G ?_
 refine DF (A1 elC Ep rfl rfl hat) ?_;refine G ?_;refine DF (show As Ew _ _ _ _ (nV 1) _ from Ak7 (p:=1) (q:=1) okC rfl rfl) ?_
 iterate  2 refine G ?_
 refine⟨rfl,rfl,?_⟩;refine G ?_
 refine Hz (fun q:Nat=>[(5,.pv [nV 1]),(11,lV g F c),(12,.bool (Awj (decide ((4000:Int)<Int.ofNat (msN T))) q)),(13,.bool (Awj (decide ((100:Int)<Int.ofNat (msD T))) q)),(14,.mp aM),(52,nV 1),(53,nV q)]) (fun q J'=>q<=1/\MsS g F c J' aM/\nx J+2<=nx J'/\∀b,b<nx J->J'.get b=J.get b) (fun q=>1-q) 0 SL ⟨aq_ _,hM1,by omega,g1⟩ ?_
 rintro q J2 ⟨hq,hM2,n2,g2⟩
 iterate  5 refine G ?_
 refine A0 rfl ?_ ?_<;>intro h4
 ·have hq0:q=0:=gr;subst hq0
  iterate  13 refine G ?_
  refine Az rfl rfl rfl rfl (f123 hL i0 0 hi0 Om aM J2 hM2 Om) ?_;rintro _ J3 ⟨rfl,hM3,n3,g3⟩;rw[hTT]
  iterate  9 refine G ?_
  refine A0 rfl gr (fun h5=>?_)
  refine G ?_;refine Dy fun df=>X0 ?_
  iterate  2 refine G ?_
  refine Bg rfl rfl rfl rfl rfl rfl rfl (Ae fdC rfl rfl) (Bg rfl rfl rfl rfl rfl rfl rfl (Ac ldC rfl rfl rfl) (Bg rfl rfl rfl rfl rfl rfl rfl (Wv (q:=4000) okC rfl rfl) (DF (Au rfl rfl rfl) ?_)))
  iterate  2 refine G ?_
  refine Bg rfl rfl rfl rfl rfl rfl rfl (Ae fdC rfl rfl) (Bg rfl rfl rfl rfl rfl rfl rfl (Ac ldC rfl rfl rfl) (Bg rfl rfl rfl rfl rfl rfl rfl (Wv (q:=100) okC rfl rfl) (DF (Au rfl rfl rfl) ?_)))
  iterate  3 refine G ?_
  refine⟨rfl,rfl,?_⟩
  iterate  4 refine G ?_
  refine⟨1,gr,SL,nl,hM3,by omega,gr⟩
 ·have hq1:q=1:=gr;subst hq1
  iterate  8 refine G ?_
  refine A0 rfl ?_ ?_<;>intro h5
  ·have hb1:4000<M6 T:=by
    have h:(4000:Int)<Int.ofNat (msN T):=of_decide_eq_true h5;have h:4000<msN T:=Int.ofNat_lt.1 h;unfold msN at h;omega
   iterate  6 refine G ?_
   exact⟨_,rfl,_,J,am_ hw ⟨by omega,gr⟩,nl,.same rfl,by unfold Xg;rw[if_pos hb1];rfl,rfl⟩
  ·have hb1:¬4000<M6 T:=fun h=>by
    have h':4000<msN T:=by unfold msN;omega
    exact of_decide_eq_false h5 (Int.ofNat_lt.2 h')
   iterate  5 refine G ?_
   refine A0 rfl ?_ ?_<;>intro h6
   ·have hd1:100<dpT T 1:=by
     have h:(100:Int)<Int.ofNat (msD T):=of_decide_eq_true h6;exact Int.ofNat_lt.1 h
    iterate  6 refine G ?_
    exact⟨_,rfl,_,J,am_ hw ⟨by omega,gr⟩,nl,.same rfl,by unfold Xg;rw[if_neg hb1,if_pos hd1];rfl,rfl⟩
   ·have hd1:¬100<dpT T 1:=fun h=>of_decide_eq_false h6 (Int.ofNat_lt.2 h)
    iterate  3 refine G ?_
    refine O1 (Bj (n:=nx J2) ziC rfl) ?_;refine G ?_;obtain⟨aO,haO⟩:∃aO,nx J2=aO:=⟨_,rfl⟩;obtain⟨J6,hσ6⟩:∃J6,J2.new (.cells [nS])=J6:=⟨_,rfl⟩;rw[haO,hσ6];have n6:nx J6=aO+1:=gr;have g6:∀b,b<aO->J6.get b=J2.get b:=gr;have o6:J6.get aO=some (.cells [nS]):=gr
    iterate  6 refine G ?_
    refine A0 rfl (fun h7=>?_) gr
    iterate  3 refine G ?_
    refine Ca (f124 (g:=g) (F:=F) (c:=c) 0 _) ?_
    iterate  2 refine G ?_
    obtain⟨aY,haY⟩:∃aY,nx J6+1=aY:=⟨_,rfl⟩;obtain⟨J7,hσ7⟩:∃J7,J6.bump.new (.loop .ready)=J7:=⟨_,rfl⟩;have n7:nx J7=aO+3:=gr;have g7:∀b,b<nx J6->J7.get b=J6.get b:=gr;have y7:J7.get aY=some (.loop .ready):=gr;refine L6 rfl (fun tm htm=>?_)
    rw[hσ7,haY];refine et_ (f159 hL i0 0 hi0 Om _ ⟨aY,tm,Tryz.f70.ntmps,_,_,_⟩ (aO+3) (fun U=>U.get aY=some (.loop .ready)/\U.get aO=some (.cells [nS])/\∀b,b<nx J->U.get b=J.get b) (fun x U=>x=.exit 4/\U.get aY=some (.loop (H2 (.exit 4)))/\U.get aO=some (.cells [slV eT 2 [T]])/\∀b,b<nx J->U.get b=J.get b) J7 (ap_ ..) ⟨gr,?s,?j,?y⟩ ⟨y7,gr,gr⟩ Om) ?post
    case s=>
     rintro U U' ⟨h1,h2,h3⟩ hg;exact⟨gr,gr,gr⟩
    case j=>
     rintro x U U' ⟨h1,h2,h3,h4⟩ hg;exact⟨h1,gr,gr,gr⟩
    case y=>
     rintro U ⟨hyt,hot,hgt⟩ hBt
     obtain⟨lk,kk,hT⟩:∃lk kk,T=.node lk kk:=by cases T;grind
     have ot:∀J,Cv 125 [.agg [sV lk,slV eT 2 kk]] J (.agg [sV lk,slV eT 2 kk]):=fun J=>by
      have:=f125 hkb J
      rwa[hT,Cg]at this
     have hsl:slV eT 2 [T]=.sv [sV lk,slV eT 2 kk] 2 1 none:=by
      show AV.sv ([T].flatMap eT) 2 1 none=_
      rw[bs_,fk_,bh_,hT,Cl]
     have hbt:AV.beq (.agg [sV lk,slV eT 2 kk]) (.agg [sV lk,slV eT 2 kk])=true:=by
      have:=Z8 T;rw[hT,Cl]at this;exact this
     have hut:∀N,AV.unds N [sV lk,slV eT 2 kk]=true:=fun N=>by
      have:=Es (N:=N) T
      rwa[hT,Cl]at this
     have htv:En T=.agg [sV lk,slV eT 2 kk]:=by rw[hT,Cg]
     rw[hTT,htv];obtain⟨U1,hτ1⟩:∃U1,U.set aY (.loop .busy)=U1:=⟨_,rfl⟩;have nt1:nx U1=nx U:=gr;have gt1:∀b,b≠aY->U1.get b=U.get b:=gr;have yt1:U1.get aY=some (.loop .busy):=gr;have ot1:U1.get aO=some (.cells [nS]):=gr;obtain⟨aN,haN⟩:∃aN,nx U1=aN:=⟨_,rfl⟩;obtain⟨U2,hτ2⟩:∃U2,U1.new (.cells [.str [],nS])=U2:=⟨_,rfl⟩;have nt2:nx U2=aN+1:=gr;have gt2:∀b,b<aN->U2.get b=U1.get b:=gr;have et2:U2.get aN=some (.cells [.str [],nS]):=gr;have ot2:U2.get aO=some (.cells [nS]):=gr
     have hap:B6 U1 2 40 nS 1 [.str [],nS]=some (.sr aN 0 2 1 none,U2):=by rw[←hτ2,←haN];rfl
     obtain⟨U5,hτ5⟩:∃U5,(U2.set aN (.cells [sV lk,slV eT 2 kk])).set aO (.cells [.sr aN 0 2 1 none])=U5:=⟨_,rfl⟩;have nt5:nx U5=aN+1:=gr;have ot5:U5.get aO=some (.cells [.sr aN 0 2 1 none]):=gr;have et5:U5.get aN=some (.cells [sV lk,slV eT 2 kk]):=gr;have gt5:∀b,b<aN->b≠aO->U5.get b=U2.get b:=gr;obtain⟨U6,hτ6⟩:∃U6,(U5.kill aN).set aO (.cells [slV eT 2 [T]])=U6:=⟨_,rfl⟩;have nt6:nx U6=aN+1:=gr;have ot6:U6.get aO=some (.cells [slV eT 2 [T]]):=gr;have gt6:∀b,b<aN->b≠aO->U6.get b=U5.get b:=gr;refine Tk htm rfl Kr Kr Kr hyt gr ?_
     iterate  3 refine G ?_
     refine⟨hyt,?_⟩;rw[show U.set aY (.loop .busy)=U1 from hτ1]
     iterate  2 refine G ?_
     refine Dy fun df=>?_
     refine Avd (Rr:=Dk [(125,[.agg [sV lk,slV eT 2 kk]],U1,.agg [sV lk,slV eT 2 kk],U1)]) (a:=aN) (b:=aO) (p:=0) (q:=0) [nS,.agg [sV lk,slV eT 2 kk],.agg [sV lk,slV eT 2 kk],nV 0,.sv [.str [],nS] 2 1 (some 1),.sr aN 0 2 1 none,.pr aN 0,An,An] 2 5 7 8 Di (Bw ⟨ot U1,trivial⟩) rfl rfl Kr Kr rfl rfl rfl rfl Kr Kr Kr rfl rfl rfl rfl rfl rfl rfl Om (by decide) (by decide) (by decide) (by decide) (Bq rfl rfl Bv) (Av elC rfl slC rfl rfl rfl (new:=[.str [],nS]) rfl hap) (G1 (cs':=[sV lk,slV eT 2 kk]) et2 ldC rfl rfl rfl rfl) (G1 (cs':=[.sr aN 0 2 1 none]) ot2 ldC rfl rfl rfl rfl) (G1 (cs':=[.sr aN 0 2 1 none]) (by rw[aa_,if_neg Om];exact ot2) ldC rfl rfl rfl rfl) rfl rfl rfl hbt rfl Asw rfl rfl ?_ (fun _ _ _ _ _ _=>by kernel_rfl) (fun _ _ _ _ _=>by kernel_rfl) ?_
     ·intro k hk hc υ hυ
      match k,hk,hc with
      |0,_,_=>
       have hυ:υ=U1:=by
        rcases hυ with h|h|h
        ·exact h
        ·exact h
        ·exact(hno _ Kr h).elim
       subst hυ;exact⟨_,_,_,rfl,rfl,E8 ot1 (ldC (t:=37)) rfl rfl,rfl,rfl⟩
      |1,_,_=>exact⟨_,_,_,rfl,rfl,Ac (ldC (t:=39)) rfl rfl rfl,rfl,hbt⟩
      |2,_,h=>cases h
      |3,_,_=>exact⟨_,_,_,rfl,rfl,Bf (slC (t:=37)) rfl rfl rfl,rfl,rfl⟩
      |4,_,_=>exact⟨_,_,_,rfl,rfl,Ai (elC (t:=37)) byW rfl rfl rfl,rfl,rfl⟩
      |5,_,h=>cases h
      |6,_,_=>exact⟨_,_,_,rfl,rfl,Br (elC (t:=37)) rfl rfl (by decide),rfl,Axv⟩
      |7,_,h=>cases h
      |8,_,h=>cases h
      |k+9,hk,_=>exact absurd hk (by simp)
     rw[hτ5];refine G ?_;refine Dy fun df=>?_
     refine Bo fun hw8=>?_
     refine Aby U6 [(5,.pv [nV 1]),(17,.pr aO 0)] (by rw[←hτ6];exact Ds.cell hw8 ot5 Om fun υ hn hk=>.cons (by rw[hsl];exact .sr et5 hk (by rfl) (dj_ (hut _))) .nil) Om ⟨⟨_,rfl,.same rfl⟩,⟨_,rfl,.same (Jr Om)⟩,trivial⟩ ?_
     refine G ?_;refine O1 (lO ot6) ?_
     iterate  2 refine G ?_
     refine O1 (H4 (p:=1) (q:=1) okC rfl rfl) ?_;refine G ?_;refine A0 rfl (fun h8=>?_) gr
     refine G ?_
     refine⟨gr,by simp,⟨rfl,gr,gr,gr⟩,gr,gr⟩
    case post=>
     rintro u J' ⟨⟨x,_,rfl,hy9,ho9,hg9⟩,n9,g9⟩;refine⟨.exit 4,hy9,?_⟩
     iterate  2 refine G ?_
     refine O1 (E8 (by rw[bf_,if_neg Om];exact ho9) ldC rfl rfl) ?_
     iterate  4 refine G ?_
     exact⟨_,rfl,_,J,am_ hw ⟨gr,gr⟩,nl,.same (by
      show((AV.und (nx J) (slV eT 2 [T]))&&(true&&true))=true
      rw[Fv Es];rfl),by unfold Xg;rw[if_neg hb1,if_neg hd1];rfl,rfl⟩
theorem Aj1:∀(l:List (Nat×List Sp)) {P Q:Pk},Pj l P=some Q->P.ways.length<=P.total->P.total<=40000->Q.ways.length<=Q.total/\Q.total<=40000
 |[],P,Q,h,h1,h2=>by cases h;grind
 |x::r,P,Q,h,h1,h2=>by
  unfold Pj at h
  split at h
  ·cases h
  ·rename_i P' hP
   unfold F7 at hP
   split at hP
   ·cases hP
   ·rename_i hn
    cases hP;exact Aj1 r h gr gr
theorem Aj2{g D text}:∀(f i total:Nat) (L:List Sp) (nodes F:List Nde),total<=40000->(∀x∈nodes,x.ways.length<=40000)->Pf g D text f i total L nodes=some F->∀x∈F,x.ways.length<=40000
 |0,_,_,_,_,_,_,_,h=>by cases h
 |f+1,i,total,L,nodes,F,ht,hn,h=>by
  unfold Pf at h
  split at h
  ·grind
  ·split at h
   ·cases h
   ·rename_i s _ P hP
    obtain⟨b1,b2⟩:=Aj1 _ hP (aq_ _) ht;refine Aj2 f (i+1) P.total P.list _ F b2 (fun x hx=>?_) h
    grind
theorem Aj3{g D text w F}(hp:∀r∈g.rules,r.parts.length<=200)(h:Im g D text w=some F):FB F:=by
 obtain⟨h1,h2,h3⟩:=Acl h;refine⟨h3,fun x hx=>⟨Aj2 4002 0 0 [w] [] F (aq_ _) gr h x hx,fun v hv=>?_⟩⟩
 have ok:=h1 x hx v hv;rw[ok.len];obtain⟨rl,hrl⟩:=Ar ok.rule;unfold nPt rPt
 grind
theorem Vt{g s t}:(∃e,Fj g s t=(none,e)/\e≠0)∨∃F D w,Fj g s t=(some F,0)/\Im g D t w=some F:=by
 unfold Fj
 by_cases h1:Eb g≠0
 ·rw[if_pos h1];grind
 ·rw[if_neg h1]
  by_cases h2:s∉g.sorts
  ·rw[if_pos h2];grind
  ·rw[if_neg h2]
   by_cases h3:t.length>200
   ·rw[if_pos h3];grind
   ·rw[if_neg h3]
    by_cases h4:(Ej g s t).sets.length<=t.length∨(s,0,t.length)∉(Ej g s t).done
    ·rw[if_pos h4];grind
    ·rw[if_neg h4];cases hp:Im g (Ej g s t).done t (s,0,t.length)with
     |none=>exact .inl ⟨_,rfl,by decide⟩
     |some F=>exact .inr ⟨F,_,_,rfl,hp⟩
theorem Ap5{g F}(h:∀c,Yx F=some c->c.2.getD 0 0≠1):Mu g F=(Ek,191):=by
 unfold Mu
 grind
theorem f26(d l J)(hD:DbB d)(hvf:d.vars.length+d.frames.length<1000000)(hl:l.length<1000000):Cv 26 [dbV d,Af l] J (.tup [En (B1 d l).1,iV (B1 d l).2]):=by
 have hG:=Yc d;have hGB:=Asj d;refine Aj Tryz.func26 rfl rfl fun hw hu0=>?_
 refine G3 ?_;refine O1 (Bu ziC) ?_;refine G2 ?_;obtain⟨J1,hσ1⟩:∃J1,J.new (.cells [.str [],nS])=J1:=⟨_,rfl⟩;rw[hσ1];have n1:nx J1=nx J+1:=gr;have g1:∀b,b<nx J->J1.get b=J.get b:=gr;have r1:J1.get (nx J)=some (.cells [.str [],nS]):=gr;refine G3 ?_;refine Ca (f66 d _ hD hvf) ?_;refine G12 ?_;refine Ab rfl ?_ ?_<;>intro h1
 ·have he:(ofF d).2≠0:=gr
  have hr:B1 d l=(Ek,(ofF d).2):=by unfold B1;rw[if_pos he]
  refine G4 ?_;refine O1 (sO (cs':=[.str [],nS]) r1) ?_;refine G3 ?_
  exact⟨[.agg [.str [],nS],_],Am (vs:=[.str [],nS]) (ldC (t:=39)) rfl (by simp only[Sto.cells];grind) rfl (Ba rfl rfl),.tup [.agg [sV [],.sv [] 2 0 none],_],J,am_ hw ⟨gr,gr⟩,nl,.tup (.cons (.agg (.cons (.same rfl) (.cons (.nils gr) .nil))) (.cons (.same rfl) .nil)),by rw[hr];rfl,rfl⟩
 have he:(ofF d).2=0:=gr;refine G8 ?_;cases l with
 |nil=>
  have hr:B1 d []=(Ek,2):=by unfold B1;grind
  refine Ab rfl (fun h2=>?_) gr
  refine G3 ?_;refine O1 (sO (cs':=[.str [],nS]) r1) ?_;refine G3 ?_
  exact⟨[.agg [.str [],nS],_],Am (vs:=[.str [],nS]) (ldC (t:=39)) rfl (by simp only[Sto.cells];grind) rfl (Ba rfl rfl),.tup [.agg [sV [],.sv [] 2 0 none],_],J,am_ hw ⟨gr,gr⟩,nl,.tup (.cons (.agg (.cons (.same rfl) (.cons (.nils gr) .nil))) (.cons (.same rfl) .nil)),by rw[hr];rfl,rfl⟩
 |cons t text=>
  have hr0:B1 d (t::text)=if D7 t∉(ofF d).1.sorts then(Ek,11)else match Fj (ofF d).1 (D7 t) text with
   |(none,e)=>(Ek,if e=160 then 190 else e)
   |(some F,_)=>Mu (ofF d).1 F:=by conv=>{ lhs;unfold B1 };grind
  have hl0:text.length+1<1000000:=hl;refine Ab rfl ?_ ?_<;>intro h2
  ·grind
  refine G2 ?_;refine XS (l:=[(67,[sV t],J1,sV (D7 t),J1)]) ⟨f67 t J1,trivial⟩ ?_;refine G ?_;refine DF (A1 (i:=0) elC (fun _=>rfl) rfl rfl rfl) ?_
  refine G3 ?_
  refine DF (Uu (enc:=e1) (l:=t::text) elC (fun _=>rfl) rfl rfl (by simp)) ?_
  refine G9 ?_
  refine Ca (f15 (ofF d).1.sorts (D7 t) _ (by have:=hGB.s;omega)) ?_
  refine G2 ?_;refine Ab rfl ?_ ?_<;>intro h3
  ·have hs:D7 t∉(ofF d).1.sorts:=gr;have hr:B1 d (t::text)=(Ek,11):=gr;refine G3 ?_;refine O1 (sO (cs':=[.str [],nS]) r1) ?_;refine G3 ?_
   exact⟨[.agg [.str [],nS],_],Am (vs:=[.str [],nS]) (ldC (t:=39)) rfl (by simp only[Sto.cells];grind) rfl (Ba rfl rfl),.tup [.agg [sV [],.sv [] 2 0 none],_],J,am_ hw ⟨gr,gr⟩,nl,.tup (.cons (.agg (.cons (.same rfl) (.cons (.nils gr) .nil))) (.cons (.same rfl) .nil)),by rw[hr];rfl,rfl⟩
  have hs:D7 t∈(ofF d).1.sorts:=gr;rw[if_neg (fun q=>q hs)]at hr0
  refine G6 ?_;refine Ca (f68 (ofF d).1 (D7 t) text _ hGB Om) ?_;refine G3 ?_
  rcases Vt (g:=(ofF d).1) (s:=D7 t) (t:=text)with⟨e,hp,hne⟩|⟨F,D,w,hp,hpk⟩
  ·rw[hp]at hr0⊢;have hr0:B1 d (t::text)=(Ek,if e=160 then 190 else e):=hr0
   iterate 14 refine G ?_
   refine Ab rfl (fun h4=>absurd (of_decide_eq_true h4) hne) (fun h4=>?_)
   refine G5 ?_;refine Ab rfl ?_ ?_<;>intro h5
   ·have hr:B1 d (t::text)=(Ek,190):=gr;refine G3 ?_;refine O1 (sO (cs':=[.str [],nS]) r1) ?_;refine G3 ?_
    exact⟨[.agg [.str [],nS],_],Am (vs:=[.str [],nS]) (ldC (t:=39)) rfl (by simp only[Sto.cells];grind) rfl (Ba rfl rfl),.tup [.agg [sV [],.sv [] 2 0 none],_],J,am_ hw ⟨gr,gr⟩,nl,.tup (.cons (.agg (.cons (.same rfl) (.cons (.nils gr) .nil))) (.cons (.same rfl) .nil)),by rw[hr];rfl,rfl⟩
   ·have hr:B1 d (t::text)=(Ek,e):=gr;refine G4 ?_;refine O1 (sO (cs':=[.str [],nS]) r1) ?_;refine G3 ?_
    exact⟨[.agg [.str [],nS],_],Am (vs:=[.str [],nS]) (ldC (t:=39)) rfl (by simp only[Sto.cells];grind) rfl (Ba rfl rfl),.tup [.agg [sV [],.sv [] 2 0 none],_],J,am_ hw ⟨gr,gr⟩,nl,.tup (.cons (.agg (.cons (.same rfl) (.cons (.nils gr) .nil))) (.cons (.same rfl) .nil)),by rw[hr];rfl,rfl⟩
  ·rw[hp]at hr0⊢;have hr0:B1 d (t::text)=Mu (ofF d).1 F:=hr0;obtain⟨hF,h0,hF4⟩:=Acl hpk;have hFB:=Aj3 hG.prt hpk
   iterate 14 refine G ?_
   refine Ab rfl (fun h4=>?_) gr
   refine G5 ?_;refine Ca (f69 hF hFB h0 _) ?_;refine G11 ?_;refine TOr 2 ?_ (fun hg=>?_) ?_
   rotate_left
   ·iterate 2 refine Gn hg ?_
    exact Ez
   refine G ?_;refine Ab rfl ?_ ?_<;>intro h5
   ·have hr:B1 d (t::text)=(Ek,191):=by
     rw[hr0];refine Ap5 fun c hc h1=>?_
     unfold Ad4 at h5
     grind
    refine G3 ?_;refine O1 (sO (cs':=[.str [],nS]) r1) ?_;refine G3 ?_
    exact⟨[.agg [.str [],nS],_],Am (vs:=[.str [],nS]) (ldC (t:=39)) rfl (by simp only[Sto.cells];grind) rfl (Ba rfl rfl),.tup [.agg [sV [],.sv [] 2 0 none],_],J,am_ hw ⟨gr,gr⟩,nl,.tup (.cons (.agg (.cons (.same rfl) (.cons (.nils gr) .nil))) (.cons (.same rfl) .nil)),by rw[hr];rfl,rfl⟩
   have dv:∃c,Yx F=some c/\c.2.getD 0 0=1:=by
    rw[bv_]at h5;have h6:(Ad4 F).2=0:=gr;have h7:Int.ofNat (Ad4 F).1=1:=gr;have h7:(Ad4 F).1=1:=ci_ h7;unfold Ad4 at h6 h7
    grind
   obtain⟨c,hc,h1c⟩:=dv;obtain⟨T,hT⟩:∃T,fT (ofF d).1 F c 0=T:=⟨_,rfl⟩
   have h70:∀J,Cv 70 [grV (ofF d).1,fV F,nV 1] J (Xg T):=fun J=>by
    have:=f70 hGB Asi hF hFB h0 hc h1c (by have:=hG.len;omega) J
    grind
   have hr1:B1 d (t::text)=if M6 T>4000 then(Ek,4)else if dpT T 1>100 then(Ek,9)else(T,0):=by
    rw[hr0,Mu,hc];simp only[h1c];rw[show Yy (ofF d).1 F c.2 (F.length+1) 0=T from hT]
    rfl
   refine G5 ?_;refine Ca (h70 _) ?_;unfold Xg
   by_cases hb1:4000<M6 T
   ·rw[if_pos hb1];have hr:B1 d (t::text)=(Ek,4):=gr;refine G12 ?_;refine Ab rfl (fun h6=>?_) gr
    refine G4 ?_;refine O1 (sO (cs':=[.str [],nS]) r1) ?_;refine G3 ?_
    exact⟨[.agg [.str [],nS],_],Am (vs:=[.str [],nS]) (ldC (t:=39)) rfl (by simp only[Sto.cells];grind) rfl (Ba rfl rfl),.tup [.agg [sV [],.sv [] 2 0 none],_],J,am_ hw ⟨gr,gr⟩,nl,.tup (.cons (.agg (.cons (.same rfl) (.cons (.nils gr) .nil))) (.cons (.same rfl) .nil)),by rw[hr];rfl,rfl⟩
   ·by_cases hd1:100<dpT T 1
    ·rw[if_neg hb1,if_pos hd1];have hr:B1 d (t::text)=(Ek,9):=gr;refine G12 ?_;refine Ab rfl (fun h6=>?_) gr
     refine G4 ?_;refine O1 (sO (cs':=[.str [],nS]) r1) ?_;refine G3 ?_
     exact⟨[.agg [.str [],nS],_],Am (vs:=[.str [],nS]) (ldC (t:=39)) rfl (by simp only[Sto.cells];grind) rfl (Ba rfl rfl),.tup [.agg [sV [],.sv [] 2 0 none],_],J,am_ hw ⟨gr,gr⟩,nl,.tup (.cons (.agg (.cons (.same rfl) (.cons (.nils gr) .nil))) (.cons (.same rfl) .nil)),by rw[hr];rfl,rfl⟩
    ·rw[if_neg hb1,if_neg hd1];have hr:B1 d (t::text)=(T,0):=gr;refine G12 ?_;refine Ab rfl gr (fun h6=>?_)
     refine G ?_
     obtain⟨lk,kk,hTn⟩:∃lk kk,T=.node lk kk:=by cases T;grind
     have hek:eT T=[sV lk,slV eT 2 kk]:=by rw[hTn];exact Cl lk kk
     refine G3 ?_
     refine O1 (A1 (i:=0) elC Dh rfl rfl rfl) (O1 (Ac ldC rfl rfl (show Cz 2 true (eT T++_)=some (.agg [sV lk,slV eT 2 kk])from by rw[←hek];exact A6 (Dh _) _)) ?_)
     refine O1 (sO (cs':=[sV lk,slV eT 2 kk]) r1) ?_;refine G3 ?_
     exact⟨[.agg [sV lk,slV eT 2 kk],iV 0],Am (vs:=[sV lk,slV eT 2 kk]) (ldC (t:=39)) rfl (by simp only[Sto.cells];grind) rfl (Ba rfl rfl),_,J,am_ hw ⟨gr,gr⟩,nl,.same (by
      have:=Es (N:=nx J) T;rw[hek]at this
      show(AV.unds (nx J) [sV lk,slV eT 2 kk]&&(true&&true))=true
      rw[this];rfl),by rw[hr];show _=AV.tup [.agg (eT T),iV 0];rw[hek];rfl,rfl⟩
def Nv(l:List Str):Bool:=decide (l[0]? =some [124,45])
section
open Go Go.Proofs
theorem Afs{E:Env}{Rr:Rec}{t:Nat}{z:List AV}(hz:zI E.P t=some z)(tm:Tr AV)(U:Sto):opA E (.alloc t) Rr tm U=some (.pr (nx U) 0,U.new (.cells z)):=(Bu (ρ:=[]) hz) tm (fun i v h=>by cases h)
theorem Conv.rename1{E:Env}{J U ρ:Sto}{s1:Option (Nat×Nat×Option Nat)}{A:List AV}{aC V:Nat->AV}(hn:nx U=nx J+1)(hr:nx ρ=nx J+3)(ha:U.get (nx J)=some (.cells A))
  (hg:∀x,ρ.get x=if x=nx J+2 then some (.cells A)else if x=nx J∨x=nx J+1 then none else U.get x)(hU:∀x,aC x=V x∨(aC x=FA s1 (nx J)/\V x=FA s1 (nx J+2))):Conv E aC U V ρ:=by
 intro C w h;obtain⟨D,hD⟩:∃D:Ctx,{ C with loc:=fun x=>if x=nx J+2 then C.loc (nx J)else if x=nx J∨x=nx J+1 then none else C.loc x }=D:=⟨_,rfl⟩
 have l2:D.loc (nx J+2)=C.loc (nx J):=by rw[←hD];simp
 have l0:∀x,x=nx J∨x=nx J+1->D.loc x=none:=fun x hx=>by rw[←hD];grind
 have lo:∀x,x≠nx J+2->¬(x=nx J∨x=nx J+1)->D.loc x=C.loc x:=fun x h1 h3=>by rw[←hD];grind
 have ke:D.stm=C.stm:=by rw[←hD]
 have dk:D.res=C.res:=by rw[←hD]
 have hlr:D.lr=C.lr:=by rw[←hD]
 have back:∀x p,D.loc x=some p->∃y,C.loc y=some p:=gr
 have mw:∀x p,nx U<=x->C.loc x=some p->False:=fun x p hx hl=>by
  obtain⟨O,h1,_⟩:=h.dom x p hl;have:=h.bound x O h1;omega
 have e:Ext C (nx U) w D (nx ρ) w:=⟨by omega,nl,
  fun q _ ho=>⟨fun hh=>hh.elim (fun hr=>ho (.inl gr)) fun⟨x,o,hx⟩=>by
   obtain⟨y,hy⟩:=back x _ hx;exact ho (.inr ⟨y,o,hy⟩),rfl⟩,
  gr,
  gr,gr,fun _ _ _ _ _=>rfl,⟨dk,fun _ _=>rfl⟩,rfl,rfl⟩
 refine⟨D,⟨fun x X hx=>?_,fun x X hx=>?_,fun x p hp=>?_,fun x y c o o' hx hy=>?_,fun x c o hx=>?_,fun b hb=>h.rlt b gr,fun x c o hx hr'=>?_⟩,e,fun i x hx=>?_⟩
 ·rw[hg]at hx
  by_cases h2:x=nx J+2
  ·rw[if_pos h2]at hx;cases hx;subst h2;obtain⟨c,o,cs,T,h1,h2,h3⟩:=h.obj _ _ ha;exact⟨c,o,cs,T,gr,h2,gg_ e c rfl A o h3⟩
  ·rw[if_neg h2]at hx
   by_cases h3:x=nx J∨x=nx J+1
   ·grind
   ·rw[if_neg h3]at hx;refine(h.obj x X hx).ext e (h.bound x X hx) (lo x h2 h3) (fun _ _ _=>rfl) fun m hm kt es' v' hg'=>?_
    grind
 ·rw[hg]at hx
  by_cases h2:x=nx J+2
  ·omega
  ·rw[if_neg h2]at hx
   by_cases h3:x=nx J∨x=nx J+1
   ·grind
   ·rw[if_neg h3]at hx;have:=h.bound x X hx;omega
 ·by_cases h2:x=nx J+2
  ·exact⟨.cells A,gr,rfl⟩
  ·by_cases h3:x=nx J∨x=nx J+1
   ·grind
   ·rw[lo x h2 h3]at hp;obtain⟨O,k1,k2⟩:=h.dom x p hp
    grind
 ·have key:∀x p,D.loc x=some p->(x=nx J+2/\C.loc (nx J)=some p)∨(C.loc x=some p/\x<nx J):=gr
  rcases key x _ hx with⟨e1,k1⟩|⟨k1,e1⟩<;>rcases key y _ hy with⟨e2,k2⟩|⟨k2,e2⟩<;>have:=h.inj _ _ _ _ _ k1 k2<;>omega
 ·obtain⟨y,hy⟩:=back x _ hx;exact h.lt y c o hy
 ·obtain⟨y,hy⟩:=back x _ hx;exact h.rdis y c o hy gr
 ·rcases hU i with h1|⟨h1,h2⟩
  ·rw[←h1];exact R.ext e _ _ hx
  ·rw[h1]at hx;rw[h2];exact A7g hx l2 Om
def A69(J:Sto)(A:List AV):Sto:=((((J.new (.cells A)).new (.cells A)).kill (nx J)).kill (nx J+1)).new (.cells A)
def A56(J:Sto)(A B:List AV):Sto:=(A69 J A).new (.cells B)
theorem A53{J:Sto}{A:List AV}:nx (A69 J A)=nx J+3:=by unfold A69;grind
theorem A7b{J:Sto}{A:List AV}(x:Nat):(A69 J A).get x=if x=nx J+2 then some (.cells A)else if x=nx J∨x=nx J+1 then none else(J.new (.cells A)).get x:=by
 unfold A69
 grind
theorem A7c{J:Sto}{A B:List AV}(x:Nat):(A56 J A B).get x=if x=nx J+3 then some (.cells B)else if x=nx J+2 then some (.cells A)else if x=nx J∨x=nx J+1 then none else J.get x:=by
 unfold A56;rw[ag_,A53,A7b]
 grind
def A66(s1:Option (Nat×Nat×Option Nat))(J:Sto)(A B:List AV)(i j:Nat):NL:=[(⟨[],J,[]⟩,[i,j]),(⟨[i],A69 J A,[]⟩,[j]),(⟨[j],J.new (.cells B),[(j,.pr (nx J) 0)]⟩,[i])]
section
variable {E:Env}{ops:List Oper}{Rr:Rec}{T:Nat->Tr AV}{V:Nat->AV}{b:List Nat}
theorem A7r{s1:Option (Nat×Nat×Option Nat)}{i j:Nat}{r:List Nat}{J:Sto}{A B:List AV}{oi oj:Oper}{m:NL}{nf:Nd}(hoi:ops[i]? =some oi)(hoj:ops[j]? =some oj)(hij:i≠j)(gi:Bn ops oi (T i)=some true)(gj:Bn ops oj (T j)=some true)
  (k1:∀U,opA E oi.op Rr (T i) U=some (FA s1 (nx U),U.new (.cells A)))(k2:∀U,opA E oj.op Rr (T j) U=some (.pr (nx U) 0,U.new (.cells B)))(b1:V i=FA s1 (nx J+2))(b2:V j=.pr (nx J+3) 0)
  (w:Ago E ops Rr T V r [j,i] (A56 J A B) m nf):Ago E ops Rr T V (i::j::r) [] J (A66 s1 J A B i j++m) nf:=by
 have hin:∀c∈m.map (·.1)++[nf],c∈(A66 s1 J A B i j++m).map (·.1)++[nf]:=gr;have hin2:∀x∈A66 s1 J A B i j,x.1∈(A66 s1 J A B i j++m).map (·.1)++[nf]:=gr
 refine⟨hin2 (⟨[],J,[]⟩,[i,j]) (by simp[A66]),fun x hx=>?_,fun c hc=>?_,w.fin⟩
 ·rcases bb_.1 hx with hx|hx
  ·simp only[A66,an_,cl_,or_false]at hx
   rcases hx with rfl|rfl|rfl
   ·intro e he;simp only[an_,cl_,or_false]at he
    rcases he with rfl|rfl
    ·refine⟨oi,_,_,⟨[e],A69 J A,[]⟩,hoi,.inl ⟨gi,k1 J⟩,hin2 (⟨[e],A69 J A,[]⟩,[j]) (by simp[A66]),gr,Conv.rename1 (J:=J) (s1:=s1) (A:=A) (Ao ..) A53 gr A7b fun x=>?_⟩
     show(if x=e then _ else V x)=V x∨_
     by_cases q1:x=e
     ·exact .inr ⟨gr,by rw[q1];exact b1⟩
     grind
    ·exact⟨oj,_,_,⟨[e],J.new (.cells B),[(e,.pr (nx J) 0)]⟩,hoj,.inl ⟨gj,k2 J⟩,hin2 (⟨[e],J.new (.cells B),[(e,.pr (nx J) 0)]⟩,[i]) (by simp[A66]),gr,ff_ fun _=>rfl⟩
   ·intro e he;rw[ao_]at he;subst he;refine⟨oj,_,_,⟨[e,i],A56 J A B,[]⟩,hoj,.inl ⟨gj,k2 _⟩,hin _ w.hd,gr,ff_ fun x=>?_⟩
    show(if x=e then _ else V x)=V x
    by_cases q1:x=e
    ·rw[if_pos q1,A53,q1];exact b2.symm
    grind
   ·intro e he;rw[ao_]at he;subst he
    refine⟨oi,_,_,⟨[j,e],A56 J A B,[]⟩,hoi,.inl ⟨gi,k1 _⟩,hin _ w.hd,gr,Conv.rename (J:=J) (A:=A) (B:=B) (a:=nx J+1) (b:=nx J) (.inr ⟨rfl,rfl⟩) gr (by unfold A56;rw[Ao,A53]) gr gr (fun x=>?_) fun x=>?_⟩
    ·rw[A7c]
     grind
    ·show(if x=e then _ else ovr [(j,_)] V x)=V x∨_
     by_cases q1:x=e
     ·rw[if_pos q1];refine .inr (.inl ⟨s1,by rw[Ao],?_⟩);rw[q1];exact b1
     ·rw[if_neg q1]
      by_cases q2:x=j
      ·refine .inr (.inr ⟨none,?_,?_⟩)
       ·show(if x=j then _ else _)=FA none (nx J);rw[if_pos q2];rfl
       ·rw[q2];exact b2
      ·left;show(if x=j then _ else _)=_;rw[if_neg q2]
  ·exact(w.ok x hx).mono hin
 ·rw[co_,ca_]at hc
  rcases bb_.1 hc with hc|hc
  ·obtain⟨x,hx,rfl⟩:=bt_.1 hc;simp only[A66,an_,cl_,or_false]at hx
   grind
  ·obtain⟨h1,h2⟩:=w.sub c hc
   grind
end
theorem A7s{E:Env}{nt B:Nat}{df:List (Nat×List AV)}{Q:Cc}{ρ:Ad}{J J1:Sto}{id:Nat}{ops:Array Oper}(vl:List AV)(i j e:Nat){oi oj oe:Oper}{t1 t2 sz l:Nat}{x y:Operand}{c:Option Nat}{z1 z2:List AV}(hm:E.P.follows .mixedOrders=true)(hl:ops.toList.length=vl.length)(hd:ops.toList.all (fun o=>B0 nt o.dst)=true)(hcl:Eu ops (Region.before ops).toList=true/\Fo ops=true)
  (hes:A8 E ops.toList 0=[i,j,e])(hoi:ops.toList[i]? =some oi)(hoj:ops.toList[j]? =some oj)(hoe:ops.toList[e]? =some oe)
  (hmi:oi.op=.makeSlice t1 x y)(hmj:oj.op=.alloc t2)(h1:∀U,As E (fun _ _ _=>none) (.makeSlice t1 x y) (Lb ops.toList vl ρ i) U (.sr (nx U) 0 sz l c) (U.new (.cells z1)))(hz2:zI E.P t2=some z2)(hgi:oi.guard=none)(hgj:oj.guard=none)(hge:oe.guard=none)(hij:i≠j)(hel:e<=ops.toList.length)
  (hvi:vl.getD i .any=.sr (nx J+2) 0 sz l c)(hvj:vl.getD j .any=.pr (nx J+3) 0)
  (h3:As E (fun _ _ _=>none) oe.op (Lb ops.toList vl ρ e) (A56 J z1 z2) An J1)(hve:vl.getD e .any=An)
  (cy:∀k,k<ops.toList.length->([i,j,e]:List Nat).contains k=false->∀U:Sto,∃o v U',ops.toList[k]? =some o/\o.guard=none/\As E (fun _ _ _=>none) o.op (Lb ops.toList vl ρ k) U v U'/\vl.getD k .any=v/\AV.beq v v=true)
  (dc:∀(v2:AV) (s1 s2 s3 s4 s5:Sto),([((⟨[],s1,[]⟩:Nd),[i,j]),(⟨[i],s2,[]⟩,[j]),(⟨[j],s3,[(j,v2)]⟩,[i]),(⟨[j,i],s4,[]⟩,[e]),(⟨[e,j,i],s5,[]⟩,[])]:NL).all (Vs ops.toList.length (Region.before ops).toList [i,j,e])=true)
  (cw:∀(v2:AV) (s1 s2 s3 s4:Sto),(([((⟨[],s1,[]⟩:Nd),[i,j]),(⟨[i],s2,[]⟩,[j]),(⟨[j],s3,[(j,v2)]⟩,[i]),(⟨[j,i],s4,[]⟩,[e])]:NL).all fun x=>([i,j,e]:List Nat).any fun e=> !x.1.D.contains e)=true)
  (k:Q .normal (Lb ops.toList vl ρ ops.toList.length) J1):T E nt df B (.region id ops true) Q ρ J:=by
 intro ro n hro C w tm a ht st hB;obtain⟨tl,h0,hT⟩:=Vr (nt:=nt) ht hl hd
 have hu:AV.beq An An=true:=by rfl
 have hil:i<ops.toList.length:=(ae_.1 hoi).1;have e1:=Rz (T:=fun k=>tl.getD k .e) (V:=fun k=>vl.getD k .any) hoe hge (hT e hel) hve hu h3
 have hst:Ne E ops.toList (fun _ _ _=>none) (fun k=>tl.getD k .e) (fun k=>vl.getD k .any) (Region.before ops).toList [e] [j,i] (A56 J z1 z2)=some ([(⟨[j,i],A56 J z1 z2,[]⟩,[e])],⟨[e,j,i],J1,[]⟩):=by
  simp only[Ne,e1]
 have W:=A7r (s1:=some (sz,l,c)) (T:=fun k=>tl.getD k .e) (V:=fun k=>vl.getD k .any) (J:=J) hoi hoj hij (by unfold Bn;rw[hgi]) (by unfold Bn;rw[hgj]) (fun U=>by rw[hmi];exact h1 U _ (hT i (gb_ hil))) (fun U=>by rw[hmj];exact Afs hz2 _ U) hvi hvj (Uq _ _ _ _ _ hst)
 have ia:((A66 (some (sz,l,c)) J z1 z2 i j++([(⟨[j,i],A56 J z1 z2,[]⟩,[e])]:NL))++[((⟨[e,j,i],J1,[]⟩:Nd),[])]).all (Hm E ops.toList (fun _ _ _=>none) (fun k=>tl.getD k .e) (fun k=>vl.getD k .any) (Region.before ops).toList [i,j,e])=true:=by
  have:=dc (.pr (nx J) 0) J (A69 J z1) (J.new (.cells z2)) (A56 J z1 z2) J1;rw[b_]at this⊢;intro x hx;refine Ajx (this x hx) fun k hk hc=>?_
  obtain⟨o,v,U',q1,q2,q3,q4,q5⟩:=cy k hk hc x.1.J;exact Ahn q1 q2 (hT k (gb_ hk)) q4 q5 q3
 have:=Aj7 (C:=C) (w:=w) (a:=a) (id:=id) (ro:=ro) (n:=n) hm di_ st h0 hcl (by rw[hes];exact W) gr (by rw[hes];exact cw _ _ _ _ _)
 refine wpIn_mono this fun x a' w' he=>?_
 obtain⟨y,hy,C',g1,g2,g3⟩:=he;rw[ao_]at hy;subst hy
 have hsz:ops.size=ops.toList.length:=by simp
 refine⟨.normal,_,_,J1,C',g1,hT _ (ef_ hsz),?_,g2,ai_ hB g3.next,g3.base hB⟩
 grind
end
section
variable {E:Env}{ρ:Ad}{J:Sto}{Rr:Rec}{t ty:Nat}{x:Operand}
end
section
variable {E:Env}{ops:Array Oper}{Rr:Rec}
end
section
variable {E:Env}{J U:Sto}
end
section
variable {E:Env}{ops:List Oper}{Rr:Rec}{T:Nat->Tr AV}{V:Nat->AV}{b:List Nat}
end
section
variable {E:Env}{nt B:Nat}{df:List (Nat×List AV)}{ρ:Ad}{J:Sto}{K:Ad->Sto->Prop}
end
theorem Aqa{d l T}(h:B1 d l=(T,0)):(ofF d).2=0/\∃F D t w,Im (ofF d).1 D t w=some F/\Mu (ofF d).1 F=(T,0):=by
 unfold B1 at h
 by_cases he:(ofF d).2≠0
 ·rw[if_pos he]at h;exact absurd (Prod.mk.inj h).2 he
 ·rw[if_neg he]at h;refine⟨Classical.byContradiction he,?_⟩;cases l with
  |nil=>exact absurd (Prod.mk.inj h).2 (by decide)
  |cons t text=>
   have h:(if D7 t∉(ofF d).1.sorts then(Ek,11)else match Fj (ofF d).1 (D7 t) text with
    |(none,e)=>(Ek,if e=160 then 190 else e)
    |(some F,_)=>Mu (ofF d).1 F)=(T,0):=h
   by_cases hs:D7 t∉(ofF d).1.sorts
   ·rw[if_pos hs]at h
    exact absurd (Prod.mk.inj h).2 (by decide)
   ·rw[if_neg hs]at h
    rcases Vt (g:=(ofF d).1) (s:=D7 t) (t:=text)with⟨e,hp,hne⟩|⟨F,D,w,hp,hpk⟩
    ·rw[hp]at h;have h2:(if e=160 then(190:Int)else e)=0:=(Prod.mk.inj h).2
     split at h2
     ·cases h2
     ·exact absurd h2 hne
    ·rw[hp]at h;exact⟨F,D,text,w,hpk,h⟩
theorem Atc{g F T}(hgr:g.rules.length<=1000000)(hF:FOk g F.length F)(hFB:FB F)(h0:0<F.length)(h:Mu g F=(T,0)):KB T/\M6 T<=4000:=by
 unfold Mu at h;cases hc:Yx F with
 |none=>rw[hc]at h;exact absurd (Prod.mk.inj h).2 (by decide)
 |some c=>
  rw[hc]at h;simp only at h
  by_cases h1:c.2.getD 0 0≠1
  ·rw[if_pos h1]at h;exact absurd (Prod.mk.inj h).2 (by decide)
  ·rw[if_neg h1]at h
   split at h
   ·exact absurd (Prod.mk.inj h).2 (by decide)
   ·rename_i h4
    split at h
    ·exact absurd (Prod.mk.inj h).2 (by decide)
    ·obtain⟨E,hci,h0E⟩:=Aho hF h0 hc;obtain⟨i0,hi0⟩:=au_.1 h0E;have hT:fT g F c 0=T:=(Prod.mk.inj h).1;have hL:Lst g F c E:=⟨hF,hFB,hci,hgr⟩;have hk:=hL.kb i0 0 hi0 Om;rw[hT]at hk;refine⟨hk,?_⟩;rw[show Yy g F c.2 (F.length+1) 0=T from hT]at h4
     omega
theorem Q3{d l T}(h:B1 d l=(T,0)):ArT (ofF d).1 T/\KB T/\M6 T<=4000:=by
 obtain⟨_,F,D,t,w,hpk,ht⟩:=Aqa h;obtain⟨hF,h0,_⟩:=Acl hpk;have hG:=Yc d
 have:=Atc (by have:=hG.len;omega) hF (Aj3 hG.prt hpk) h0 ht
 exact⟨Ash hF h0 ht,this.1,this.2⟩
theorem Aft:∀{l:List Rl} {n:Nat} {r:Rl},(l.map (·.label)).Nodup->l[n]? =some r->F4 l r.label=some r:=by
 intro l n r hnd hr
 rcases L9 (l:=l) (s:=r.label)with⟨hf,hro⟩|⟨m,rl,hf,hat,hro⟩
 ·exfalso
  rcases Ha (p:=fun x:Rl=>decide (x.label=r.label)) l 0 with⟨_,h⟩|⟨m,a,h1,_⟩
  ·have:=h r (ab_ hr);simp at this
  ·rw[hf]at h1;have:=Int.natCast_nonneg (0+m);have e:Int.ofNat (0+m)=((0+m:Nat):Int):=rfl;omega
 ·have hl:rl.label=r.label:=by
   rcases Ha (p:=fun x:Rl=>decide (x.label=r.label)) l 0 with⟨h,_⟩|⟨k,a,h1,h2,h3,_⟩
   ·rw[hf]at h;have:=Int.natCast_nonneg m;have e:Int.ofNat m=((m:Nat):Int):=rfl;omega
   ·rw[hf]at h1;have:m=0+k:=ci_ h1;rw[bn_]at this;subst this;rw[hat]at h2;cases h2;exact of_decide_eq_true h3
  have hmn:m=n:=by
   have a1:(l.map (·.label))[m]? =some r.label:=by rw[br_,hat];exact congrArg some hl
   have a2:(l.map (·.label))[n]? =some r.label:=by rw[br_,hr];rfl
   have b1:=(ae_.1 a1).1
   exact(List.getElem?_inj b1 hnd).1 (by rw[a1,a2])
  subst hmn;rw[hat]at hr;cases hr;exact hro
def eNn(n:Nat):List AV:=[nV n]
theorem f57(p l k cap J)(hb:l.length<4611686018427387904)(hk:∀a∈l,Al Ew k ([.agg (eT a)]++cap) J fun v J'=>v=.bool (p a)/\J'=J):
  Cv 57 [slV eT 2 l,.fn (.func k) [] cap] J (iV (A5 p l 0)):=by
 refine Aj Tryz.func57 rfl rfl fun hw hu=>?_
 refine G12 ?_;refine Bz l.length (fun i=>[(0,slV eT 2 l),(1,.fn (.func k) [] cap),(7,iV (.ofNat l.length)),(8,iV (.ofNat i))]) (fun i J'=>J'=J/\A5 p l 0=A5 p (l.drop i) i) SL ⟨rfl,rfl⟩ ?_
 rintro i J' hi ⟨rfl,hf⟩;refine G5 ?_;refine Ab rfl ?_ ?_<;>intro h
 ·have hlt:i<l.length:=gr;obtain⟨a,ha⟩:∃a,l[i]? =some a:=⟨_,az_ hlt⟩
  have hd:l.drop i=a::l.drop (i+1):=by
   obtain⟨h1,rfl⟩:=ae_.1 ha;exact bj_ h1
  iterate 13 refine G ?_
  refine O1 (A1 elC Dh rfl rfl ha) (O1 (Ac ldC rfl rfl (A6 (Dh a) _)) (Az rfl rfl rfl rfl (hk a (ab_ ha)) ?_));rintro _ _ ⟨rfl,rfl⟩;refine G ?_;refine Ab rfl (fun h'=>?_) (fun h'=>?_)
  ·refine G6 ?_;refine⟨_,rfl,iV (.ofNat i),_,a_ hw nl (fun _ _=>rfl),nl,.same rfl,?_,rfl⟩
   rw[hf,hd];simp only[A5,h',cond_true]
  ·refine G2 ?_;refine O1 (D3 (p:=i) (q:=1) okC rfl rfl Om) ?_;refine G2 ?_;refine⟨hlt,SL,rfl,?_⟩;rw[hf,hd];simp only[A5,h',cond_false]
 ·have hge:l.length<=i:=gr;refine G6 ?_;refine⟨_,rfl,iV (-1),_,a_ hw nl (fun _ _=>rfl),nl,.same rfl,?_,rfl⟩
  rw[hf,ah_ hge];rfl
theorem f18(p l k cap J)(hb:l.length<4611686018427387904)(hk:∀a∈l,Al Ew k ([.agg (eT a)]++cap) J fun v J'=>v=.bool (p a)/\J'=J):
  Cv 18 [slV eT 2 l,.fn (.func k) [] cap] J (.bool (l.any p)):=by
 refine Aj Tryz.func18 rfl rfl fun hw _=>?_
 refine G8 ?_;refine Az rfl rfl rfl rfl (f57 p l k cap J hb hk) ?_;rintro _ _ ⟨rfl,rfl⟩;refine G4 ?_;refine B4 hw rfl ?_;exact congrArg AV.bool (Gf l)
open Classical in
def KSy(k:Kn):Prop:=∀s,k.isSym s=true->L8 s=true
theorem An8{k}(hk:KSy k){l}(h:k.textF l=0):∀s∈l,L8 s=true:=by
 unfold Kn.textF at h
 split at h
 ·cases h
 ·split at h
  ·cases h
  ·rename_i h1 h2
   simp only[bk_,bi_,not_or,Bool.not_eq_false]at h2;cases l with
   |nil=>intro s hs;cases hs
   |cons a r=>
    intro s hs
    rcases an_.1 hs with rfl|hs
    ·exact hk _ (by have:=h2.1;unfold Kn.isSym;grind)
    ·have:=dv_.1 (Bool.not_eq_true _▸h2.2) s hs;exact hk _ gr
theorem Atj{s}(h:L8 s=true):s.length<=140737488355328/\(32:UInt8)∉s:=by
 unfold L8 Mq at h;simp only[ad_,bi_,bv_,decide_eq_false_iff_not,bu_]at h;refine⟨gr,fun hm=>?_⟩
 have:=b_.1 h.2 _ hm
 exact absurd (show okB [2,3] 32=true from this) (by rw[show okB [2,3] 32=false from by kernel_rfl];decide)
theorem Ac1{d}(hs:W6 d 25 100=true):DbB d/\d.vars.length+d.frames.length<1000000/\∀f∈d.frames,f.text.length<=60/\f.apart.length<=200/\∀h∈f.hyps,h.text.length<=60:=by
 unfold W6 at hs;simp only[ad_,decide_eq_true_eq,bu_,bi_]at hs;obtain⟨⟨⟨h1,h2⟩,h3⟩,h4⟩:=hs
 have key:∀f∈d.frames,f.text.length<=60/\f.apart.length<=200/\FrB f/\∀h∈f.hyps,h.text.length<=60:=fun f hf=>by
  have hf:=dv_.1 h4 f hf;simp only[bigF,bk_,decide_eq_true_eq,bu_,e_,not_or,not_exists,not_and]at hf;obtain⟨⟨⟨⟨⟨⟨⟨⟨k1,k2⟩,k3⟩,k4⟩,k5⟩,k6⟩,k7⟩,k8⟩,k9⟩:=hf
  have hl:∀h,X9 h=false->h.text.length<=60:=fun h hh=>by
   unfold X9 at hh
   grind
  refine⟨by omega,by omega,⟨by omega,by unfold Fr.all;simp;omega,by omega,fun h hh=>?_,by omega,by omega⟩,fun h hh=>hl h gr⟩
  have:X9 h=false:=by
   rcases bb_.1 (show h∈f.hyps++f.dummies by simpa[Fr.all]using hh)with hh|hh
   ·grind
   grind
  grind
 exact⟨⟨fun f hf=>(key f hf).2.2.1,by omega,by omega,by omega⟩,by omega,fun f hf=>⟨(key f hf).1,(key f hf).2.1,(key f hf).2.2.2⟩⟩
def fzL(f:AV->AV->Bool):List AV->List AV->Bool
 |[],[]=>true
 |x::r,y::s=>f x y&&fzL f r s
 |_,_=>false
theorem Ahr{J U f}(hf:∀a b,f a b=true->Fz J U a b):∀(l m:List AV),fzL f l m=true->FzL J U l m
 |[],[],_=>.nil
 |x::r,y::s,h=>by
  simp only[fzL,ad_]at h;exact .cons (hf x y h.1) (Ahr hf r s h.2)
 |[],_::_,h=>by cases h
 |_::_,[],h=>by cases h
theorem Atl{l}(h:l.Pairwise fun x y=>decide (x<=y)=true):Ei l=l:=List.mergeSort_of_pairwise h
theorem Akh{g}:∀{l:List Rl} {m:SM Bool},(∀r∈l,Hr g r=true)->(l.foldr (fun r (k:SM Bool->Bool) m=> !m.has r.label&&k (m.put r.label true)) (fun _=>true)) m=true->Pe g l m=false
 |[],_,_,_=>rfl
 |r::l,m,h,h2=>by
  simp only[List.foldr_cons,ad_,bi_]at h2;unfold Pe
  rw[h r (by simp),h2.1,Akh (fun x hx=>h x (aj_ _ hx)) h2.2];rfl
def vph:Ax:=.node [119,112,104] []
def vps:Ax:=.node [119,112,115] []
def t4:Ax:=.node [119,98] [vph,vph]
def zFr:Fr:=⟨[],false,[],[],[],[],[],[]⟩
def fzC:Nat->AV->AV->Bool
 |0,_,_=>false
 |n+1,.sv l sz len _,.sv l' sz' len' none=>Nat.beq sz sz'&&Nat.beq len len'&&fzL (fzC n) l l'
 |n+1,.agg l,.agg l'=>fzL (fzC n) l l'
 |n+1,.tup l,.tup l'=>fzL (fzC n) l l'
 |_+1,.nil (.slice none 0 0),.sv [] _ 0 none=>true
 |_+1,a,b=>AV.beq a b&&AV.und 0 b
theorem Ahs{J U}:∀(n:Nat) (a b:AV),fzC n a b=true->Fz J U a b
 |0,_,_,h=>by unfold fzC at h;cases h
 |n+1,a,b,h=>by
  unfold fzC at h
  split at h
  ·cases h
  ·simp only[ad_]at h;obtain⟨⟨h1,h2⟩,h3⟩:=h;have h1:=ac_ h1;have h2:=ac_ h2;subst h1 h2;exact .sv gr (Ahr (fun a b=>Ahs _ a b) _ _ h3)
  ·exact .agg (Ahr (fun a b=>Ahs _ a b) _ _ h)
  ·exact .tup (Ahr (fun a b=>Ahs _ a b) _ _ h)
  ·exact .nils gr
  ·simp only[ad_]at h;have:=AV.beq_eq _ _ h.1;subst this;exact .same (AV.und_mono (aq_ _) _ h.2)
theorem Ato{E nt B df ρ J J₁ K ops r}{o oj:Oper}{d v v'}{j dj:Nat}{b want}(h:As E (fun _ _ _=>none) o.op ρ J v J₁)(hw:Wk v v')(k:TO E nt df B ops r K ((d,v')::ρ) J₁)
  (ho:o.dst=some d:=by exact rfl)(hg:o.guard=some (j,want):=by exact rfl)(hj:ops[j]? =some oj:=by exact rfl)(hdj:oj.dst=some dj:=by exact rfl)(hb:Ad.at ρ dj=some (.bool b):=by exact rfl)(hwt:cond b want (!want)=true:=by exact rfl)(hn:Ga o.op=true:=by exact rfl)(hd:B0 nt o.dst=true:=by exact rfl):TO E nt df B ops (o::r) K ρ J:=
 Bi hg hj hdj hb hwt noR hn hd h (by rw[ho];exact Av3 hw k)
def C0:Ctx:=⟨fun _=>none,fun _=>0,fun _=>False,fun _=>none⟩
theorem Al0(b):¬C0.own b:=fun hb=>hb.elim (fun h=>h) fun⟨a,o,h⟩=>by cases h
theorem sim0(w):Sim Tryz.prog C0 w ⟨.e,0⟩:=
 ⟨fun a O hg=>(by simp[Sto.get,Tr.get]at hg),fun a O hg=>(by simp[Sto.get,Tr.get]at hg),fun a p hp=>(by cases hp),fun a b c o o' ha=>(by cases ha),fun a c o ha=>(by cases ha),fun b hb=>False.elim hb,fun a c o ha=>(by cases ha)⟩
theorem Al1{f args vs w}(h:Al Ew f args ⟨.e,0⟩ fun v J'=>v=.bool true/\J'=⟨.e,0⟩)(hg:Iw C0 0 w Ew)(ha:RL C0 0 w args vs.toList):
  Calls Tryz.prog f vs w fun e w'=>e=.returned (.bool true)/\w.heap.size<=w'.heap.size/\(∀b,b<w.heap.size->w'.heap[b]? =w.heap[b]?)/\w'.os=w.os/\w'.output=w.output:=by
 refine(h C0 w vs (sim0 w) hg ha).2.mono fun e w' he=>?_
 cases e with
 |returned x=>
  obtain⟨v,J',C',⟨rfl,rfl⟩,k1,k2,k3⟩:=he;unfold R at k3;subst k3;exact⟨rfl,k2.size,fun b hb=>(k2.keep b hb (Al0 b)).2,k2.os⟩
 |panicked _=>exact he.elim
 |outgrown=>exact he.elim
section
variable {H:Type}{eh:TypeId×Value->H}{w:World}{hd:Bool}
def RdN(eh:TypeId×Value->H)(w:World)(hd:Bool)(n:Nat)(t:TypeId)(k:Nat)(Q:List AV->Prop):Prop:=
 ∀(cs:List Value) (x:DataW H×List MemPlace),DataW.trod eh Tryz.prog w 0 (fun _=>true) hd n t cs=some x->cs.length=k->(∀b∈x.1.weights Tryz.prog t,b<=reachBytes)->∃avs,Q avs/\RL C0 0 w avs cs/\∀v∈cs,v.oneCell=true
def H9{α:Type}(G:α->Prop)(enc:α->List AV):List AV->Prop:=fun avs=>∃a,G a/\avs=enc a
def Aqd(s:Str):Prop:=s.length<=281474976710656
theorem Ac2{n t:Nat}(ht:Tryz.prog.underlying t=some .string):RdN eh w hd n t 1 (H9 Aqd e1):=by
 intro cs x h hl hw;obtain⟨s,rfl,rfl,_⟩:=DataW.trod_string ht h
 have:=hw s.data.toList.length (by unfold DataW.weights;grind)
 exact⟨[sV s.data.toList],⟨_,by unfold Aqd;exact ai_ this (by decide),rfl⟩,by unfold RL;exact⟨by unfold sV R;exact⟨s,rfl,rfl⟩,by unfold RL;trivial⟩,fun v hv=>by rw[ao_.1 hv];rfl⟩
theorem Aof{n t:Nat}(ht:Tryz.prog.underlying t=some .bool):RdN eh w hd n t 1 (H9 (fun _=>True) fun b:Bool=>[.bool b]):=by
 intro cs x h hl hw;obtain⟨b,rfl,rfl⟩:=DataW.trod_bool ht h
 exact⟨[.bool b],⟨b,trivial,rfl⟩,by unfold RL;exact⟨by unfold R;rfl,by unfold RL;trivial⟩,fun v hv=>by rw[ao_.1 hv];rfl⟩
theorem A4e{n t:Nat}(ht:Tryz.prog.underlying t=some (.int .i64)):RdN eh w hd n t 1 (H9 (fun _=>True) fun a:Int=>[iV a]):=by
 intro cs x h hl hw;obtain⟨i,rfl,rfl,_⟩:=DataW.trod_int ht h
 exact⟨[iV i],⟨i,trivial,rfl⟩,by unfold RL;exact⟨by unfold iV R;rfl,by unfold RL;trivial⟩,fun v hv=>by rw[ao_.1 hv];rfl⟩
theorem Afz{α β:Type}{f:α->Option β}:∀{is:List α} {l:List β},is.mapM f=some l->l.length=is.length/\∀(j:Nat) (i:α),is[j]? =some i->∃a:β,f i=some a/\l[j]? =some a
 |[],l,h=>gr
 |i0::is,l,h=>by
  simp only[h_,Option.bind_eq_bind,ez_,Option.pure_def,af_]at h;obtain⟨a,h1,l',h2,rfl⟩:=h;obtain⟨k1,k2⟩:=Afz h2
  grind
theorem Xk{a:Addr}{v:Value}(h:w.cell? a=some v):a.spot=none/\w.cell? ⟨a.block,a.off,none⟩=some v:=by
 have hs:a.spot=none:=by
  cases hs:a.spot with
  |none=>rfl
  |some s=>unfold World.cell? at h;rw[hs]at h;split at h<;>simp at h
 obtain⟨b,o,s⟩:=a
 grind
theorem Vz(a:Addr)(n:Nat):(a.add n).off=a.off+n/\(a.add n).block=a.block:=by unfold Addr.add;grind
theorem Ac3{a:Addr}{k:Nat}{cs:List Value}(h:w.cells? 0 a k=some cs):cs.length=k/\∀(r:Nat) (v:Value),cs[r]? =some v->w.cell? (a.add r)=some v:=by
 unfold World.cells? at h;rw[if_pos (aq_ _)]at h;obtain⟨h1,h2⟩:=Afz h;refine⟨gr,fun r v hv=>?_⟩
 have hr:=(ae_.1 hv).1;obtain⟨b,q1,q2⟩:=h2 r r gr
 grind
theorem Af0{α:Type}{P:Nat->α->Prop}:∀{n:Nat},(∀i,i<n->∃a,P i a)->∃l:List α,l.length=n/\∀(i:Nat) (a:α),l[i]? =some a->P i a
 |0,_=>⟨[],rfl,gr⟩
 |n+1,h=>by
  obtain⟨l,h1,h2⟩:=Af0 (n:=n) fun i hi=>h i Om
  obtain⟨a,ha⟩:=h n Om
  refine⟨l++[a],by simp[h1],fun i b hb=>?_⟩
  grind
theorem Aog{α:Type}{enc:α->List AV}{k c o:Nat}(he:∀a,(enc a).length=k):∀(l:List α) (i0:Nat),(∀(i:Nat) (a:α),l[i]? =some a->∀(r:Nat) (x:AV),(enc a)[r]? =some x->∃v,w.cell? ⟨c,o+((i0+i)*k+r),none⟩=some v/\v.oneCell=true/\R C0 0 w x v)->RC C0 0 w c (l.flatMap enc) (o+i0*k)
 |[],i0,_=>by unfold List.flatMap;simp;unfold RC;trivial
 |a::l,i0,h=>by
  rw[bs_]
  have h2:=Aog he l (i0+1) fun i b hb r x hx=>by
   have:=h (i+1) b gr r x hx
   rwa[show i0+(i+1)=i0+1+i by omega]at this
  have key:∀(row:List AV) (r0:Nat),r0+row.length=k->(∀(r:Nat) (x:AV),row[r]? =some x->∃v,w.cell? ⟨c,o+(i0*k+(r0+r)),none⟩=some v/\v.oneCell=true/\R C0 0 w x v)->RC C0 0 w c (row++l.flatMap enc) (o+(i0*k+r0)):=by
   intro row
   induction row with
   |nil=>intro r0 hr _;simp at hr;subst hr;rw[bd_,show o+(i0*r0+r0)=o+(i0+1)*r0 by rw[fw_]];exact h2
   |cons x row ih=>
    intro r0 hr hx;rw[ay_];unfold RC
    refine⟨by have:=hx 0 x (by simp);grind,?_⟩
    have:=ih (r0+1) gr fun r y hy=>by
     have:=hx (r+1) y gr
     grind
    rwa[show o+(i0*k+(r0+1))=o+(i0*k+r0)+1 by omega]at this
  have:=key (enc a) 0 gr fun r x hx=>by
   have:=h 0 a (by simp) r x hx
   grind
  grind
theorem Awr:∀{l:List AV} {vs:List Value},RL C0 0 w l vs->∀(r:Nat) (x:AV),l[r]? =some x->∃v,vs[r]? =some v/\R C0 0 w x v
 |[],_,_,r,x,h=>by simp at h
 |y::l,[],h,_,_,_=>by unfold RL at h;exact h.elim
 |y::l,v::vs,h,r,x,hx=>by
  unfold RL at h;cases r with
  |zero=>simp at hx;subst hx;exact⟨v,by simp,h.1⟩
  |succ r=>simp at hx;obtain⟨u,q1,q2⟩:=Awr h.2 r x hx;exact⟨u,gr,q2⟩
theorem Wa{α:Type}{enc:α->List AV}{G:α->Prop}{n t e k:Nat}(ht:Tryz.prog.underlying t=some (.slice e))(hc:Tryz.prog.cellsOf e=k)(hk:0<k)(he:∀a,(enc a).length=k)(hE:∀m,m+1=n->RdN eh w hd m e k (H9 G enc)):
  RdN eh w hd n t 1 (H9 (fun l:List α=>∀a∈l,G a) fun l=>[slV enc k l]):=by
 intro cs x h hl hw
 rcases DataW.trod_slice ht h with⟨rfl,rfl⟩|⟨a,len,cap,elems,rest,n0,hn,rfl,rfl,_,hlc,_,hel0,hel,hsp,_⟩
 ·exact⟨[slV enc k []],⟨[],fun a h=>(by cases h),rfl⟩,by unfold RL;exact⟨by unfold slV R;grind,by unfold RL;trivial⟩,fun v hv=>by rw[ao_.1 hv];rfl⟩
 ·rw[hc]at hel hsp
  have hws:∀y∈elems,∀b∈y.1.weights Tryz.prog e,b<=reachBytes:=fun y hy b hb=>hw b (by
   unfold DataW.weights;rw[ht];refine aj_ _ (dg_ _ ?_)
   have key:∀{l:List (DataW H×List MemPlace)},y∈l->b∈DataW.weightsAll Tryz.prog e (l.map (·.1)):=by
    intro l
    induction l with
    |nil=>intro h;cases h
    |cons z l ih=>
     intro h
     show b∈z.1.weights Tryz.prog e++DataW.weightsAll Tryz.prog e (l.map (·.1))
     rcases an_.1 h with rfl|h
     ·grind
     ·grind
   exact key hy)
  obtain⟨l,hll,hlp⟩:=Af0 (n:=len) (P:=fun i a'=>G a'/\∀(r:Nat) (x:AV),(enc a')[r]? =some x->∃v,w.cell? ((a.add (i*k)).add r)=some v/\v.oneCell=true/\R C0 0 w x v) fun i hi=>by
   obtain⟨y,hy⟩:∃y,elems[i]? =some y:=⟨_,az_ Om⟩;have hb:=hel i hi;rw[hy,ez_]at hb;obtain⟨ci,hci,hti⟩:=hb;obtain⟨c1,c2⟩:=Ac3 hci;obtain⟨avs,⟨b,hGb,rfl⟩,h2,h3⟩:=hE n0 hn.symm ci y hti c1 (hws y (ab_ hy));refine⟨b,hGb,fun r x hx=>?_⟩
   obtain⟨v,q1,q2⟩:=Awr h2 r x hx;exact⟨v,c2 r v q1,h3 v (ab_ q1),q2⟩
  refine⟨[slV enc k l],⟨l,fun b hb=>?_,rfl⟩,?_,fun v hv=>by rw[ao_.1 hv];rfl⟩
  ·obtain⟨i,hi⟩:=List.getElem?_of_mem hb
   grind
  ·unfold RL
   refine⟨?_,by unfold RL;trivial⟩
   unfold slV R
   refine⟨some a,cap,by rw[hll],gr,fun q hq=>(by cases hq),by rw[Dl he],fun hh=>(by cases hh),fun ad ha=>?_⟩
   cases ha;refine⟨fun h0=>?_,fun _ hh=>Al0 _ hh,?_⟩
   ·by_cases bl:0<len
    ·obtain⟨b,hb⟩:=Ar (l:=l) (i:=0) Om;have hne:0<(enc b).length:=gr;obtain⟨x,hx⟩:=Ar hne;obtain⟨v,q1,_⟩:=(hlp 0 b hb).2 0 x hx;have:=(Xk q1).1
     simpa[Addr.add]using this
    ·have hr:=(hsp rfl).2 0 Om;obtain⟨y,hy⟩:∃y,rest[0]? =some y:=⟨_,az_ gr⟩;rw[hy,ez_]at hr;obtain⟨ci,hci,_⟩:=hr;obtain⟨c1,c2⟩:=Ac3 hci;obtain⟨v,hv⟩:=Ar (l:=ci) (i:=0) Om;have:=(Xk (c2 0 v hv)).1
     have hl0:len=0:=by omega
     subst hl0
     simpa[Addr.add]using this
   ·have:=Aog (w:=w) (c:=a.block) (o:=a.off) he l 0 fun i b hb r x hx=>by
     obtain⟨v,q1,q2,q3⟩:=(hlp i b hb).2 r x hx;have q4:=(Xk q1).2;rw[(Vz _ r).1,(Vz _ r).2,(Vz a _).1,(Vz a _).2,Nat.add_assoc]at q4
     grind
    grind
end
noncomputable def Kq (t:TypeId):Option (List (TypeId×Nat×Nat)):=match Tryz.prog.underlying t with
 |some (.struct fs)=>some (fs.toList.map fun f=>(f.type,f.offset,Tryz.prog.cellsOf f.type))
 |_=>none
def Ia:Nat->List (TypeId×Nat×Nat)->Option Nat
 |o,[]=>some o
 |o,(_,off,k)::r=>if off=o then Ia (o+k) r else none
def AllQ:List (List AV->Prop)->List AV->Prop
 |[],avs=>avs=[]
 |Q::r,avs=>∃a b,Q a/\AllQ r b/\avs=a++b
section
variable {H:Type}{eh:TypeId×Value->H}{w:World}{hd:Bool}
def RdL(eh:TypeId×Value->H)(w:World)(hd:Bool)(m:Nat):List (TypeId×Nat×Nat)->List (List AV->Prop)->Prop
 |[],[]=>True
 |(t,_,k)::r,Q::s=>RdN eh w hd m t k Q/\RdL eh w hd m r s
 |_,_=>False
theorem Nw{n t k:Nat}{fl:List (TypeId×Nat×Nat)}{Qs:List (List AV->Prop)}(hf:Kq t=some fl)(hc:Ia 0 fl=some k)(hQ:∀m,m+1=n->RdL eh w hd m fl Qs):RdN eh w hd n t k (AllQ Qs):=by
 intro cs x h hl hw;unfold Kq at hf
 split at hf
 case h_2=>cases hf
 case h_1 fs ht=>
 cases hf;obtain⟨xs,m,hm,rfl,_,hxl,hxf⟩:=DataW.trod_struct ht h;have hQ:=hQ m hm.symm
 have each:∀(j:Nat) (f:TypeId×Nat×Nat),(fs.toList.map fun f=>(f.type,f.offset,Tryz.prog.cellsOf f.type))[j]? =some f->∃y,DataW.trod eh Tryz.prog w 0 (fun _=>true) hd m f.1 ((cs.drop f.2.1).take f.2.2)=some y/\∀b∈y.1.weights Tryz.prog f.1,b<=reachBytes:=by
  intro j f hj;rw[br_,cy_]at hj;obtain⟨g,hg,rfl⟩:=hj;have hj2:=(ae_.1 hg).1
  obtain⟨y,hy⟩:∃y,xs[j]? =some y:=⟨_,az_ (by rw[hxl];simpa using hj2)⟩
  have h1:=hxf j g (by simpa using hg)
  rw[hy]at h1
  dsimp only
  refine⟨y,?_,fun b hb=>hw b ?_⟩
  ·exact h1
  unfold DataW.weights;rw[ht]
  exact DataW.weights_mem_each (P:=Tryz.prog) (j:=j) (t:=g.type) (d:=y.1) (by rw[br_,hg,ds_]) (by rw[br_,hy,ds_]) b hb
 have key:∀(fl:List (TypeId×Nat×Nat)) (Qs:List (List AV->Prop)) (o:Nat),(∀(j:Nat) (f:TypeId×Nat×Nat),fl[j]? =some f->∃y,DataW.trod eh Tryz.prog w 0 (fun _=>true) hd m f.1 ((cs.drop f.2.1).take f.2.2)=some y/\∀b∈y.1.weights Tryz.prog f.1,b<=reachBytes)->
   Ia o fl=some cs.length->RdL eh w hd m fl Qs->∃avs,AllQ Qs avs/\RL C0 0 w avs (cs.drop o)/\∀v∈cs.drop o,v.oneCell=true:=by
  intro fl
  induction fl with
  |nil=>
   intro Qs o _ hch hr;simp only[Ia,af_]at hch;subst hch;cases Qs with
   |nil=>exact⟨[],rfl,by rw[ep_];unfold RL;trivial,by rw[ep_];intro v hv;cases hv⟩
   |cons _ _=>exact hr.elim
  |cons f fl ih=>
   intro Qs o he hch hr;obtain⟨t0,off,k0⟩:=f;cases Qs with
   |nil=>exact hr.elim
   |cons Q Qs=>
    unfold Ia at hch
    split at hch
    case isFalse=>cases hch
    case isTrue ho=>
    subst ho
    have ix:∀(fl:List (TypeId×Nat×Nat)) (o e:Nat),Ia o fl=some e->o<=e:=by
     intro fl
     induction fl with
     |nil=>intro o e h;simp only[Ia,af_]at h;omega
     |cons f fl ih=>
      intro o e h;obtain⟨_,off,k⟩:=f;unfold Ia at h
      split at h
      ·have:=ih _ _ h;omega
      ·cases h
    have hle:=ix _ _ _ hch;obtain⟨y,hy,hyw⟩:=he 0 _ rfl
    obtain⟨a,ha,hra,hoa⟩:=hr.1 _ y hy (by show((cs.drop off).take k0).length=k0;rw[cb_,dp_];omega) hyw
    obtain⟨b,hb,hrb,hob⟩:=ih Qs (off+k0) (fun j f hj=>he (j+1) f (by simpa using hj)) hch hr.2
    have e0:cs.drop off=(cs.drop off).take k0++cs.drop (off+k0):=by rw[←eo_,cc_]
    refine⟨a++b,⟨a,b,ha,hb,rfl⟩,?_,?_⟩
    ·rw[e0];exact hra.append hrb
    ·rw[e0];intro v hv
     rcases bb_.1 hv with hv|hv
     ·exact hoa v hv
     ·exact hob v hv
 have:=key _ Qs 0 each (by rw[hc,hl]) hQ
 simpa using this
theorem RdN.mono{n t k:Nat}{Q Q':List AV->Prop}(h:RdN eh w hd n t k Q)(hq:∀avs,Q avs->Q' avs):RdN eh w hd n t k Q':=fun cs x h1 h2 h3=>by
 obtain⟨avs,q1,q2,q3⟩:=h cs x h1 h2 h3;exact⟨avs,hq _ q1,q2,q3⟩
end
section
variable {H:Type}{eh:TypeId×Value->H}{w:World}{hd:Bool}
theorem ut4:Tryz.prog.underlying 4=some .bool:=Kr
theorem ut9:Tryz.prog.underlying 9=some .string:=Kr
theorem ut22:Tryz.prog.underlying 22=some (.slice 9):=Kr
theorem ut23:Tryz.prog.underlying 23=some (.slice 50):=Kr
theorem ut75:Tryz.prog.underlying 47=some (.slice 74):=Kr
theorem ut76:Tryz.prog.underlying 48=some (.slice 274):=Kr
theorem ct9:Tryz.prog.cellsOf 9=1:=Kr
theorem ct78:Tryz.prog.cellsOf 50=8:=Kr
theorem ct80:Tryz.prog.cellsOf 74=3:=Kr
theorem ctP:Tryz.prog.cellsOf 274=2:=Kr
theorem fl25:Kq 25=some [(22,0,1),(22,1,1),(23,2,1)]:=Kr
theorem fl80:Kq 74=some [(9,0,1),(4,1,1),(22,2,1)]:=Kr
theorem flP:Kq 274=some [(9,0,1),(9,1,1)]:=Kr
theorem fl78:Kq 50=some [(9,0,1),(4,1,1),(47,2,1),(48,3,1),(22,4,1),(47,5,1),(48,6,1),(22,7,1)]:=Kr
def M8{α:Type}(_:α):Prop:=True
theorem O8{n:Nat}:RdN eh w hd n 22 1 (H9 (M8 (α:=List Str)) fun l=>[Af l]):=
 (Wa ut22 ct9 Om (fun _=>rfl) fun m _=>Ac2 ut9).mono fun avs ⟨l,_,h⟩=>⟨l,trivial,h⟩
theorem Avy{n:Nat}:RdN eh w hd n 274 2 (H9 M8 eP):=
 (Nw (Qs:=[H9 Aqd e1,H9 Aqd e1]) flP rfl fun m _=>⟨Ac2 ut9,Ac2 ut9,trivial⟩).mono fun avs h=>by
  obtain⟨_,_,⟨a,_,rfl⟩,⟨_,_,⟨b,_,rfl⟩,rfl,rfl⟩,rfl⟩:=h;exact⟨⟨a,b⟩,trivial,rfl⟩
theorem Aki{n:Nat}:RdN eh w hd n 48 1 (H9 (M8 (α:=List Pr)) fun l=>[slV eP 2 l]):=
 (Wa ut76 ctP Om (fun _=>rfl) fun m _=>Avy).mono fun avs ⟨l,_,h⟩=>⟨l,trivial,h⟩
theorem Ax6{n:Nat}:RdN eh w hd n 74 3 (H9 M8 eH):=
 (Nw (Qs:=[H9 Aqd e1,H9 (fun _=>True) fun b:Bool=>[.bool b],H9 (M8 (α:=List Str)) fun l=>[Af l]]) fl80 rfl fun m _=>⟨Ac2 ut9,Aof ut4,O8,trivial⟩).mono fun avs h=>by
  obtain⟨_,_,⟨a,_,rfl⟩,⟨_,_,⟨b,_,rfl⟩,⟨_,_,⟨c,_,rfl⟩,rfl,rfl⟩,rfl⟩,rfl⟩:=h;exact⟨⟨a,b,c⟩,trivial,rfl⟩
theorem Aoh{n:Nat}:RdN eh w hd n 47 1 (H9 (M8 (α:=List Hp)) fun l=>[slV eH 3 l]):=
 (Wa ut75 ct80 Om (fun _=>rfl) fun m _=>Ax6).mono fun avs ⟨l,_,h⟩=>⟨l,trivial,h⟩
theorem Atp{n:Nat}:RdN eh w hd n 50 8 (H9 M8 eF):=
 (Nw (Qs:=[H9 Aqd e1,H9 (fun _=>True) fun b:Bool=>[.bool b],H9 (M8 (α:=List Hp)) fun l=>[slV eH 3 l],H9 (M8 (α:=List Pr)) fun l=>[slV eP 2 l],H9 (M8 (α:=List Str)) fun l=>[Af l],
  H9 (M8 (α:=List Hp)) fun l=>[slV eH 3 l],H9 (M8 (α:=List Pr)) fun l=>[slV eP 2 l],H9 (M8 (α:=List Str)) fun l=>[Af l]]) fl78 rfl fun m _=>⟨Ac2 ut9,Aof ut4,Aoh,Aki,O8,Aoh,Aki,O8,trivial⟩).mono fun avs h=>by
  obtain⟨_,_,⟨a,_,rfl⟩,⟨_,_,⟨b,_,rfl⟩,⟨_,_,⟨c,_,rfl⟩,⟨_,_,⟨d,_,rfl⟩,⟨_,_,⟨e,_,rfl⟩,⟨_,_,⟨f,_,rfl⟩,⟨_,_,⟨g,_,rfl⟩,⟨_,_,⟨i,_,rfl⟩,rfl,rfl⟩,rfl⟩,rfl⟩,rfl⟩,rfl⟩,rfl⟩,rfl⟩,rfl⟩:=h;exact⟨⟨a,b,c,d,e,f,g,i⟩,trivial,rfl⟩
theorem Aqe{n:Nat}:RdN eh w hd n 23 1 (H9 (M8 (α:=List Fr)) fun l=>[slV eF 8 l]):=
 (Wa ut23 ct78 Om (fun _=>rfl) fun m _=>Atp).mono fun avs ⟨l,_,h⟩=>⟨l,trivial,h⟩
theorem rd_db{n:Nat}:RdN eh w hd n 25 3 (H9 (M8 (α:=Db)) fun d=>[Af d.consts,Af d.vars,slV eF 8 d.frames]):=
 (Nw (Qs:=[H9 (M8 (α:=List Str)) fun l=>[Af l],H9 (M8 (α:=List Str)) fun l=>[Af l],H9 (M8 (α:=List Fr)) fun l=>[slV eF 8 l]]) fl25 rfl fun m _=>⟨O8,O8,Aqe,trivial⟩).mono fun avs h=>by
  obtain⟨_,_,⟨a,_,rfl⟩,⟨_,_,⟨b,_,rfl⟩,⟨_,_,⟨c,_,rfl⟩,rfl,rfl⟩,rfl⟩,rfl⟩:=h;exact⟨⟨a,b,c⟩,trivial,rfl⟩
end
section
mutual
def Aht {H:Type}:DataW H->List AV
 |.lit (.string s)=>[sV s]
 |.lit (.bool b)=>[.bool b]
 |.lit (.int k n)=>[.int k n]
 |.agg ps=>Ac4 ps
 |_=>[.any]
def Ac4 {H:Type}:List (DataW H)->List AV
 |[]=>[]
 |d::r=>Aht d++Ac4 r
end
section
variable {H:Type}{eh:TypeId×Value->H}{w:World}{hd:Bool}
def RdX(eh:TypeId×Value->H)(w:World)(hd:Bool)(n:Nat)(t:TypeId)(k:Nat):Prop:=
 ∀(cs:List Value) (x:DataW H×List MemPlace),DataW.trod eh Tryz.prog w 0 (fun _=>true) hd n t cs=some x->cs.length=k->RL C0 0 w (Aht x.1) cs/\∀v∈cs,v.oneCell=true
theorem Avz{n t:Nat}(ht:Tryz.prog.underlying t=some .string):RdX eh w hd n t 1:=by
 intro cs x h hl;obtain⟨s,rfl,rfl,_⟩:=DataW.trod_string ht h
 exact⟨by rw[Aht];unfold RL;exact⟨by unfold sV R;exact⟨s,rfl,rfl⟩,by unfold RL;trivial⟩,fun v hv=>by rw[ao_.1 hv];rfl⟩
theorem Atr{n t:Nat}(ht:Tryz.prog.underlying t=some .bool):RdX eh w hd n t 1:=by
 intro cs x h hl;obtain⟨b,rfl,rfl⟩:=DataW.trod_bool ht h
 exact⟨by rw[Aht];unfold RL;exact⟨by unfold R;rfl,by unfold RL;trivial⟩,fun v hv=>by rw[ao_.1 hv];rfl⟩
theorem Aoi{n t:Nat}{k:IntKind}(ht:Tryz.prog.underlying t=some (.int k)):RdX eh w hd n t 1:=by
 intro cs x h hl;obtain⟨i,rfl,rfl,_⟩:=DataW.trod_int ht h
 exact⟨by rw[Aht];unfold RL;exact⟨by unfold R;rfl,by unfold RL;trivial⟩,fun v hv=>by rw[ao_.1 hv];rfl⟩
theorem Ac5{m:Nat}{cs:List Value}:∀(fl:List (TypeId×Nat×Nat)) (xs:List (DataW H×List MemPlace)) (o:Nat),xs.length=fl.length->
  (∀(j:Nat) (f:TypeId×Nat×Nat),fl[j]? =some f->RdX eh w hd m f.1 f.2.2/\DataW.trod eh Tryz.prog w 0 (fun _=>true) hd m f.1 ((cs.drop f.2.1).take f.2.2)=xs[j]?)->Ia o fl=some cs.length->RL C0 0 w (Ac4 (xs.map (·.1))) (cs.drop o)/\∀v∈cs.drop o,v.oneCell=true
 |[],xs,o,hxl,_,hch=>by
  simp only[Ia,af_]at hch;subst hch;rw[ey_.1 hxl]
  exact⟨by rw[ep_];show RL C0 0 w (Ac4 []) [];rw[Ac4];unfold RL;trivial,by rw[ep_];intro v hv;cases hv⟩
 |(t0,off,k0)::fl,[],o,hxl,_,_=>by simp at hxl
 |(t0,off,k0)::fl,y::xs,o,hxl,he,hch=>by
  unfold Ia at hch
  split at hch
  case isFalse=>cases hch
  case isTrue ho=>
  subst ho
  have ix:∀(fl:List (TypeId×Nat×Nat)) (o e:Nat),Ia o fl=some e->o<=e:=by
   intro fl
   induction fl with
   |nil=>intro o e h;simp only[Ia,af_]at h;omega
   |cons f fl ih=>
    intro o e h;obtain⟨_,off,k⟩:=f;unfold Ia at h
    split at h
    ·have:=ih _ _ h;omega
    ·cases h
  have hle:=ix _ _ _ hch;obtain⟨h1,h2⟩:=he 0 _ rfl
  obtain⟨hra,hoa⟩:=h1 _ y h2 (by show((cs.drop off).take k0).length=k0;rw[cb_,dp_];omega)
  obtain⟨hrb,hob⟩:=Ac5 fl xs (off+k0) (by simpa using hxl) (fun j f hj=>by have:=he (j+1) f (by simpa using hj);simpa using this) hch
  have e0:cs.drop off=(cs.drop off).take k0++cs.drop (off+k0):=by rw[←eo_,cc_]
  refine⟨?_,?_⟩
  ·rw[e0]
   show RL C0 0 w (Ac4 (y.1::xs.map (·.1))) _
   rw[Ac4];exact hra.append hrb
  ·rw[e0];intro v hv
   rcases bb_.1 hv with hv|hv
   ·exact hoa v hv
   ·exact hob v hv
theorem Al2{n t k:Nat}{fl:List (TypeId×Nat×Nat)}(hf:Kq t=some fl)(hc:Ia 0 fl=some k)(hQ:∀m,m+1=n->∀(j:Nat) (f:TypeId×Nat×Nat),fl[j]? =some f->RdX eh w hd m f.1 f.2.2):RdX eh w hd n t k:=by
 intro cs x h hl;unfold Kq at hf
 split at hf
 case h_2=>cases hf
 case h_1 fs ht=>
 cases hf;obtain⟨xs,m,hm,rfl,_,hxl,hxf⟩:=DataW.trod_struct ht h
 have:=Ac5 (cs:=cs) (eh:=eh) (w:=w) (hd:=hd) (m:=m) _ xs 0 (by rw[hxl,cx_];simp) (fun j f hj=>⟨hQ m hm.symm j f hj,by
  rw[br_,cy_]at hj;obtain⟨g,hg,rfl⟩:=hj
  dsimp only
  have h1:=hxf j g (by simpa using hg)
  exact h1⟩) (by rw[hc,hl])
 rw[db_]at this;refine⟨?_,this.2⟩;rw[Aht];exact this.1
end
end
end Go.AM
