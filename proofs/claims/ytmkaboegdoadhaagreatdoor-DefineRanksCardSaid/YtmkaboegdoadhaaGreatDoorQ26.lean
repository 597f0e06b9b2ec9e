/- A part. -/
import Derived.Test.YtmkaboegdoadhaaGreatDoorQ24
set_option maxRecDepth 100000
set_option maxHeartbeats 4000000
set_option linter.unusedSimpArgs false
set_option linter.unusedVariables false
namespace Go.AM
open Go Go.Proofs
def F159(g:Gr)(F:List Nde)(c:Cs)(k:Nat):Prop:=∀(Ls:List RF) (L:RF) (B:Nat) (S:Sto->Prop) (J:XE->Sto->Prop) (σ:Sto),L∈Ls->TC Ls L B (fT g F c k) S J->S σ->B<=nx σ->Hl Ew Ls 159 (.yl L.aY::[.pv [lV g F c],.pv [nV k]]) σ fun _ σ'=>PY B σ J σ'
def As7(g:Gr)(F:List Nde)(c:Cs)(w:Wy)(q:Nat):Prop:=∀(Ls:List RF) (L:RF) (B:Nat) (S:Sto->Prop) (J:XE->Sto->Prop) (σ:Sto) (kv:AV),L∈Ls->TC Ls L B (.node (Md g w.rule) (w.kids.map (fT g F c))) S J->S σ->B<=nx σ->KdV σ B ((w.kids.map (fT g F c)).take q) kv->Hl Ew Ls 160 [lV g F c,.agg (eWy w),kv,.yl L.aY] σ fun v σ'=>v=.bool false/\PY B σ J σ'
theorem Awh{g F c w}(hwl:w.kids.length<=200)(hwr:w.rule<g.rules.length)(ih:∀k∈w.kids,F159 g F c k){q}(hq:q<=w.kids.length)(ihq:q<w.kids.length->As7 g F c w (q+1)):As7 g F c w q:=by
 intro Ls L B S J σ kv hLs hC hS hB hK;obtain⟨rl,hrl⟩:=Ar hwr
 have iq:Md g w.rule=rl.label:=by unfold Md;rw[hrl]
 obtain⟨ks,hks⟩:∃ks,w.kids.map (fT g F c)=ks:=⟨_,rfl⟩;have hkl:ks.length=w.kids.length:=gr;unfold As7 at ihq;rw[hks]at hC hK ihq;have hql:(ks.take q).length=q:=gr;have hKl:=hK.lenA;rw[hql]at hKl;obtain⟨σ0,hσ0⟩:∃σ0,σ.bump.new (.cells [.bool false])=σ0:=⟨_,rfl⟩;have n0:nx σ0=nx σ+2:=gr;have g0:∀b,b<nx σ->σ0.get b=σ.get b:=gr;have r0:σ0.get (nx σ+1)=some (.cells [.bool false]):=gr;refine Mo Tryz.func160 (Ke _ _ Tryz.func160) rfl rfl fun hw hu0=>?_
 iterate  4 refine G ?_
 refine Jv ldC rfl hK.cellsN rfl ?_;refine G ?_;refine O1 (Bj (n:=nx σ+1) ziC (Bm σ)) ?_;refine G ?_;rw[hσ0]
 iterate  3 refine G ?_
 refine O1 (Ac ldC rfl rfl hK.ld) (O1 (Bf slC rfl hKl.1 hKl.2) ?_)
 iterate  5 refine G ?_
 refine A0 rfl ?_ ?_<;>intro h1
 ·have hqe:q=w.kids.length:=ci_ (of_decide_eq_true h1);have hkq:ks.take q=ks:=at_ Om;rw[hkq]at hK;obtain⟨v',σ1,hap,hK1,n1,n1',g1⟩:=Ava σ0 ks Om;have hKq:lenA kv=some ks.length:=gr;have ef:F9 σ0 2 kv ks.length=some (ks.flatMap eT):=(hK.of Om fun b _ h2=>g0 b h2).src
  obtain⟨τ,hτ⟩:∃τ,σ1.kill (nx σ0)=τ:=⟨_,rfl⟩;have nτ:nx τ=nx σ1:=gr;have gτ:∀b,b<nx σ0->τ.get b=σ0.get b:=gr;have hlt:=hC.lt;refine G ?_;refine Abx 14 (Rr:=Dk []) (anns:=[aR 0 1,aR 0 1,aP 0 1,aP 0 1,aP 0 1,aR 0 1,aP 0 1,aR 0 1,aP 0 1,aP 0 1,aR 0 1,aR 0 0,aE 0 1,aP 1 1]) (Ab1 Kr) Di (Bw (l:=[]) trivial) Kr ?_
  iterate  8 refine G ?_
  refine DF (A1 elC Qy rfl rfl hrl) ?_
  iterate  2 refine G ?_
  refine DF (Ac ldC rfl rfl hK.ld) (DT (Av elC rfl slC rfl rfl hKq (new:=ks.flatMap eT) ef hap) (DF (Ut bdC rfl hK1.fill) ?_));refine G ?_;refine⟨⟨(fun s hs=>⟨_,(Ac (ldC (t:=54)) rfl rfl rfl)⟩),(fun s hs=>⟨_,(Ac (ldC (t:=251)) rfl rfl rfl)⟩),trivial,trivial,trivial,(fun s hs=>⟨_,(Ac (ldC (t:=139)) rfl rfl rfl)⟩),trivial,(fun s hs=>⟨_,(Ac (ldC (t:=3)) rfl rfl rfl)⟩),trivial,trivial,(fun s hs=>⟨_,(Ac (ldC (t:=9)) rfl rfl rfl)⟩),(fun s hs=>⟨_,(Ac (ldC (t:=37)) rfl rfl hK.ld)⟩),trivial,trivial,trivial⟩,?_⟩
  refine TOp 0 ?_
  refine Avb τ [(8,.pr (nx σ+1) 0),(16,.yl L.aY),(29,En (.node (Md g w.rule) ks))] (fun hw9=>by rw[←hτ];exact .kill hw9 _) nτ (fun hw9=>⟨⟨_,rfl,.same (Jr Om)⟩,⟨_,rfl,.same (Ce Om)⟩,⟨_,rfl,?_⟩,trivial⟩) ?_
  ·rw[Cg,iq];refine .agg (.cons (.same rfl) (.cons (hK1.fz fun a ha=>?_) .nil))
   rw[←hτ,bf_]
   split
   ·rfl
   ·exact hw9.none Om
  refine G ?_;refine Lg hLs (fun _ _=>rfl) rfl rfl rfl rfl (hC.y τ (hC.s σ τ hS gr) Om) fun x σ2 hp2 hn2=>?_
  obtain⟨hx2,hJ2,n2,g2⟩:=hp2;have hr2:σ2.get (nx σ+1)=some (.cells [.bool false]):=gr
  have hgo:Iu x=false:=by cases x<;>first|exact absurd rfl hx2|rfl
  refine TOp 1 ?_;refine O1 (sO (cs':=[.bool (Iu x)]) hr2) ?_
  iterate  2 refine G ?_
  refine Gi fun hw9=>?_
  refine G ?_
  exact⟨[.bool (Iu x)],Am (vs:=[.bool (Iu x)]) (ldC (t:=4)) rfl (by simp only[Sto.cells];grind) rfl rfl,_,_,a_ hw9 nl (fun _ _=>rfl),gr,.same rfl,congrArg AV.bool hgo,⟨x,hx2,hC.j x _ _ hJ2 gr⟩,gr,gr⟩
 ·have hqe:q≠w.kids.length:=fun e=>of_decide_eq_false h1 (congrArg _ e)
  have bc:q<w.kids.length:=by omega
  obtain⟨k,hk⟩:=Ar bc;have hkm:=ab_ hk;have hkq:ks[q]? =some (fT g F c k):=gr;have htk:=List.take_add_one (l:=ks) (i:=q);rw[hkq]at htk;have htk:ks.take (q+1)=ks.take q++[fT g F c k]:=htk
  obtain⟨lk,kk,hT⟩:∃lk kk,fT g F c k=.node lk kk:=by cases fT g F c k;grind
  have hek:eT (fT g F c k)=[sV lk,slV eT 2 kk]:=by rw[hT];exact Cl lk kk
  have hlt:=hC.lt
  iterate  3 refine G ?_
  refine Dy fun df=>XS (l:=[(124,[lV g F c,nV k],σ0,As6 g F c k,σ0)]) ⟨f124 k σ0,trivial⟩ ?_
  iterate  3 refine G ?_
  refine DF (Ac ldC rfl rfl hK.ld) (DF (Bf slC rfl hKl.1 hKl.2) (DF (A1 elC Ep rfl rfl hk) ?_))
  iterate  4 refine G ?_
  obtain⟨aY,haY⟩:∃aY,nx σ0+1=aY:=⟨_,rfl⟩;obtain⟨σ7,hσ7⟩:∃σ7,σ0.bump.new (.loop .ready)=σ7:=⟨_,rfl⟩;have n7:nx σ7=nx σ+4:=gr;have g7:∀b,b<nx σ0->σ7.get b=σ0.get b:=gr;have y7:σ7.get aY=some (.loop .ready):=gr;refine Oo ?_;refine L6 rfl (fun tm htm=>?_)
  rw[hσ7,haY];refine et_ (ih k hkm _ ⟨aY,tm,Tryz.f160.ntmps,_,_,_⟩ (nx σ+4) (fun τ=>S τ/\τ.get aY=some (.loop .ready)/\τ.get (nx σ+1)=some (.cells [.bool false])/\∀b,B<=b->b<nx σ->τ.get b=σ.get b) (fun x τ=>x=.ret/\τ.get aY=some (.loop (H2 .ret))/\τ.get (nx σ+1)=some (.cells [.bool false])/\(∃x0,x0≠.normal/\J x0 τ)/\∀b,B<=b->b<nx σ->τ.get b=σ.get b) σ7 (ap_ ..) ⟨gr,?s,?j,?y⟩ ⟨hC.s σ σ7 hS gr,y7,gr,gr⟩ Om) ?post
  case s=>
   rintro τ τ' ⟨h1,h2,h3,h4⟩ hg;exact⟨hC.s τ τ' h1 fun b hb=>hg b Om,gr,gr,gr⟩
  case j=>
   rintro x τ τ' ⟨h1,h2,h3,⟨x0,h4,h5⟩,h6⟩ hg;exact⟨h1,gr,gr,⟨x0,h4,hC.j x0 τ τ' h5 fun b hb=>hg b Om⟩,gr⟩
  case y=>
   rintro τ ⟨hSt,hyt,hrt,hgt⟩ hBt;rw[hT,Cg];obtain⟨τ1,hτ1⟩:∃τ1,τ.set aY (.loop .busy)=τ1:=⟨_,rfl⟩;have nt1:nx τ1=nx τ:=gr;have gt1:∀b,b≠aY->τ1.get b=τ.get b:=gr;have hKτ:KdV τ1 B (ks.take q) kv:=hK.of Om gr;obtain⟨τ2,hτ2⟩:∃τ2,τ1.new (.cells ((ks.take q++[fT g F c k]).flatMap eT))=τ2:=⟨_,rfl⟩;have nt2:nx τ2=nx τ1+1:=gr;have gt2:∀b,b<nx τ1->τ2.get b=τ1.get b:=gr;have hap:=hKτ.app1 (fT g F c k) Om;rw[hτ2,hek,hql]at hap
   have hKτ2:KdV τ2 B (ks.take (q+1)) (.sr (nx τ1) 0 2 (q+1) none):=by
    have:=KdV.snoc (σ:=τ1) (B:=B) (K:=ks.take (q+1)) Om
    grind
   refine Tk htm rfl Kr Kr Kr hyt gr ?_
   iterate  3 refine G ?_
   refine⟨hyt,?_⟩;rw[show τ.set aY (.loop .busy)=τ1 from hτ1]
   iterate  2 refine G ?_
   refine Abx 12 (Rr:=Dk []) (anns:=[aR 0 1,aR 0 1,aR 0 0,aR 0 0,aR 0 0,aR 0 0,aR 0 0,aP 0 0,aR 0 0,aP 0 0,aE 0 1,aR 0 1]) (Ab1 Kr) Di (Bw (l:=[]) trivial) Kr ?_
   iterate  2 refine G ?_
   refine DF (Ac ldC rfl rfl hK.ld) (DF (Ac ldC rfl rfl hK.ld) (DF (Bf slC rfl hKl.1 hKl.2) (DF (Ac ldC rfl rfl hK.ld) (DF (Bf slC rfl hKl.1 hKl.2) (DF (As5 hKτ hql rfl rfl rfl) ?_)))));refine G ?_;refine DF (Ai elC byW rfl rfl rfl) (DT (Av elC rfl slC rfl rfl rfl (new:=[sV lk,slV eT 2 kk]) rfl hap) ?_)
   iterate  2 refine G ?_
   refine⟨⟨(fun s hs=>⟨_,(Ac (ldC (t:=251)) rfl rfl rfl)⟩),(fun s hs=>⟨_,(Ac (ldC (t:=318)) rfl rfl rfl)⟩),(fun s hs=>⟨_,(Ac (ldC (t:=37)) rfl rfl hK.ld)⟩),(fun s hs=>⟨_,(Ac (ldC (t:=37)) rfl rfl hK.ld)⟩),(fun s hs=>⟨_,(Bf (slC (t:=37)) rfl hKl.1 hKl.2)⟩),(fun s hs=>⟨_,(Ac (ldC (t:=37)) rfl rfl hK.ld)⟩),(fun s hs=>⟨_,(Bf (slC (t:=37)) rfl hKl.1 hKl.2)⟩),trivial,(fun s hs=>⟨_,(Ac (ldC (t:=39)) rfl rfl rfl)⟩),trivial,trivial,(fun s hs=>⟨_,(Ac (ldC (t:=54)) rfl rfl rfl)⟩),trivial⟩,?_⟩
   refine L5 (fun _ _=>rfl) rfl rfl rfl rfl rfl (ihq bc _ L B S J τ2 _ (aj_ _ hLs) hC.up (hC.s τ τ2 hSt gr) Om hKτ2) fun u3 τ3 hp3 hn3=>?_
   obtain⟨rfl,⟨x0,hx0,hJ0⟩,n3,g3⟩:=hp3;have hr3:τ3.get (nx σ+1)=some (.cells [.bool false]):=gr;have hy3:τ3.get aY=some (.loop .busy):=gr;refine TOp 1 ?_
   iterate  3 refine G ?_
   refine A0 rfl (fun h3=>?_) gr
   iterate  2 refine G ?_
   refine O1 (sO (cs':=[.bool false]) hr3) ?_
   iterate  2 refine G ?_
   refine⟨gr,by simp,⟨rfl,gr,gr,⟨x0,hx0,hC.j x0 _ _ hJ0 gr⟩,gr⟩,gr,gr⟩
  case post=>
   rintro u σ' ⟨⟨x,_,rfl,hy9,hr9,⟨x0,hx0,hJ0⟩,hg9⟩,n9,g9⟩;refine⟨.ret,hy9,fun hw9=>?_⟩
   exact⟨[.bool false],Am (vs:=[.bool false]) (ldC (t:=4)) rfl (by simp only[Sto.cells];grind) rfl rfl,_,_,a_ hw9 nl (fun _ _=>rfl),gr,.same rfl,rfl,⟨x0,hx0,hC.j x0 _ _ hJ0 gr⟩,gr,gr⟩
theorem f159n{g F c E}(hL:Lst g F c E){i n:Nat}(hi:E[i]? =some n)(hn:c.2.getD n 0≠0)(h160:∀x w,F[n]? =some x->w∈x.ways->Gp c.2 w≠0->As7 g F c w 0):F159 g F c n:=by
 intro Ls L B S J σ hLs hC hS hB;obtain⟨x,w,hx,hf,hw',hp,hks⟩:=hL.ci.first hi hn;have hfT:=Ajn (g:=g) hL.ci hi hn hx hf;rw[hfT]at hC;have h160:=h160 x w hx hw' hp;refine Mo Tryz.func159 (Ke _ _ Tryz.func159) rfl rfl fun hw hu0=>?_
 refine G ?_;refine Dy fun df=>X0 ?_
 iterate  9 refine G ?_
 refine DF (A1 elC Mw rfl rfl hx) ?_
 iterate  5 refine G ?_
 refine⟨rfl,rfl,?_⟩;refine G ?_
 refine Hz (fun i0:Nat=>[(0,.yl L.aY),(1,.pv [lV g F c]),(17,slV eWy 2 x.ways),(18,nV x.ways.length),(19,nV i0)]) (fun i0 σ0=>i0<=x.ways.length/\(∀b,b<nx σ->σ0.get b=σ.get b)/\nx σ<=nx σ0/\∀v∈x.ways.take i0,Gp c.2 v=0) (fun i0=>x.ways.length-i0) 0 SL ⟨aq_ _,fun _ _=>Fe,by rw[Bm];omega,fun v hv=>by simp at hv⟩ ?_
 rintro i0 σ0 ⟨hi0,g0,n0,hz0⟩
 iterate  5 refine G ?_
 refine A0 rfl ?_ ?_<;>intro h1
 ·have bc:i0<x.ways.length:=Int.ofNat_lt.1 (of_decide_eq_true h1);obtain⟨v,hv⟩:=Ar bc;have hvm:=ab_ hv;obtain⟨hvl,hvr,hvk⟩:=hL.way hi hx hvm;have hwl:=(hL.fb.2 x (ab_ hx)).1;have htk:=List.take_add_one (l:=x.ways) (i:=i0);rw[hv]at htk
  iterate  5 refine G ?_
  refine O1 (A1 elC Gq rfl rfl hv) (O1 (Ac ldC rfl rfl (A6 (Gq v) _)) (Mp ziC ldC rfl (fun _=>rfl) rfl (A7 (Gq v)) rfl ?_))
  iterate  6 refine G ?_
  refine Ca (f158 Om (fun k hk=>(hvk k hk).2.2) σ0) ?_
  iterate  2 refine G ?_
  refine A0 rfl ?_ ?_<;>intro h2
  ·have hz:Gp c.2 v=0:=ci_ (of_decide_eq_true h2)
   iterate  5 refine G ?_
   refine⟨i0+1,by show x.ways.length-(i0+1)<x.ways.length-i0;omega,SL,by omega,g0,n0,fun u hu=>?_⟩
   rw[htk]at hu
   rcases bb_.1 hu with hu|hu
   ·exact hz0 u hu
   ·simp at hu;subst hu;exact hz
  ·have hpv:Gp c.2 v≠0:=fun q=>of_decide_eq_false h2 (congrArg _ q)
   have hvw:v=w:=by
    rw[←cc_ i0 x.ways,List.find?_append,List.find?_eq_none.2 (fun u hu=>by simp[hz0 u hu]),A4 hv,List.find?_cons_of_pos (by simp[hpv])]at hf
    exact by_ hf
   subst hvw;have hlt:=hC.lt;refine Jw ?_;refine Cf ?_;refine Er ?_;refine Gm 3 fun df=>?_
   iterate  4 refine G ?_
   refine L5 (fun _ _=>rfl) rfl rfl rfl rfl rfl (h160 Ls L B S J σ0 _ hLs hC (hC.s σ σ0 hS fun b hb=>g0 b Om) Om (.inl ⟨rfl,rfl⟩)) fun u3 τ3 hp3 hn3=>?_
   obtain⟨rfl,hx3,n3,g3⟩:=hp3;refine TOp 1 ?_
   iterate  3 refine G ?_
   refine A0 rfl (fun h3=>?_) (fun h3=>by cases h3)
   refine Gi fun hw9=>?_
   refine G ?_
   exact⟨[],rfl,_,_,a_ hw9 nl (fun _ _=>rfl),by omega,.same rfl,hx3,by omega,fun b h1 h2=>by rw[g3 b h1 Om];exact g0 b h2⟩
 ·have bj:x.ways.length<=i0:=bm_.1 (Int.not_lt.1 (fun q=>of_decide_eq_false h1 q))
  exfalso
  rw[at_ bj]at hz0;exact hp (hz0 w hw')
theorem Awi{g F c w}(hwl:w.kids.length<=200)(hwr:w.rule<g.rules.length)(ih:∀k∈w.kids,F159 g F c k):∀(r q:Nat),q+r=w.kids.length->As7 g F c w q
 |0,q,h=>Awh hwl hwr ih Om fun h'=>by omega
 |r+1,q,h=>Awh hwl hwr ih Om fun _=>Awi hwl hwr ih r (q+1) Om
theorem f159{g F c E}(hL:Lst g F c E):∀(i n:Nat),E[i]? =some n->c.2.getD n 0≠0->F159 g F c n:=by
 intro i
 induction i using Nat.strongRecOn with
 |_ i ih=>
  intro n hi hn;refine f159n hL hi hn fun x w hx hw hp=>?_
  obtain⟨h1,h2,h3⟩:=hL.way hi hx hw;refine Awi h1 h2 (fun k hk=>?_) w.kids.length 0 (bn_ _)
  obtain⟨⟨j,hj,hj'⟩,_⟩:=h3 k hk;exact ih j hj k hj' (Xc _ _ hp k hk)
theorem Ap4{E ops R T V b es x}(h:Vs ops.length b es x=true)(hc:∀k,k<ops.length->es.contains k=false->Sz b es x.1.D k=true->Lp E ops R T V x.1.σ k=true):Hm E ops R T V b es x=true:=by
 unfold Vs at h;unfold Hm;rw[ad_]at h⊢;refine⟨h.1,?_⟩;rw[b_];intro k hk;have h2:=(b_.1 h.2) k hk;have hk':k<ops.length:=cw_.1 hk;cases he:es.contains k with
 |true=>simpa using h2
 |false=>
  cases ho:Sz b es x.1.D k with
  |false=>simp
  |true=>
   rw[hc k hk' he ho];rw[ho]at h2
   simpa using h2
theorem Avc{E nt B df Q ρ σ σ' Rr id ops}(vl)(hm:E.P.follows .mixedOrders=true)(hR:Bk E Rr)(hl:ops.toList.length=vl.length)(hd:ops.toList.all (fun o=>B0 nt o.dst)=true)(hcl:(Eu ops (Region.before ops).toList&&Fo ops)=true)
  (hc:∀(tl:List (Tr AV)),(∀k,k<=ops.toList.length->Has (tl.getD k .e) (Lb ops.toList vl ρ k))->∃nl nf,Ne E ops.toList Rr (fun k=>tl.getD k .e) (fun k=>vl.getD k .any) (Region.before ops).toList (A8 E ops.toList 0) [] σ=some (nl,nf)/\nf.σ=σ'/\(∀x∈nl++[(nf,[])],∀k,k<ops.toList.length->(A8 E ops.toList 0).contains k=false->Sz (Region.before ops).toList (A8 E ops.toList 0) x.1.D k=true->Lp E ops.toList Rr (fun k=>tl.getD k .e) (fun k=>vl.getD k .any) x.1.σ k=true)/\(nl++[(nf,[])]).all (Vs ops.toList.length (Region.before ops).toList (A8 E ops.toList 0))=true/\(nl.all fun x=>(A8 E ops.toList 0).any fun e=> !x.1.D.contains e)=true)
  (k:Q .normal (Lb ops.toList vl ρ ops.toList.length) σ'):T E nt df B (.region id ops true) Q ρ σ:=by
 intro ro n hro C w tm a ht st hB;obtain⟨tl,h1,h2⟩:=Vr (nt:=nt) ht hl hd;obtain⟨nl,nf,h3,h4,h5,h6,h7⟩:=hc tl h2
 have hp:Rd E ops Rr ⟨tm,nt,df,σ⟩ vl=some ⟨tl.getD ops.size .e,nt,df,nf.σ⟩:=by
  unfold Rd;simp only[h1,hcl,h3];rw[h7]
  have:(nl++[(nf,[])]).all (Hm E ops.toList Rr (fun k=>tl.getD k .e) (fun k=>vl.getD k .any) (Region.before ops).toList (A8 E ops.toList 0))=true:=by
   rw[b_]at h6⊢;exact fun x hx=>Ap4 (h6 x hx) (h5 x hx)
  rw[this];rfl
 refine wpIn_mono (Ss hm hR st hp) fun e a' w' he=>?_
 obtain⟨y,hy,C',g1,g2,g3⟩:=he;rw[ao_]at hy;subst hy
 have hsz:ops.size=ops.toList.length:=by simp
 refine⟨.normal,_,_,nf.σ,C',g1,h2 _ (ef_ hsz),?_,g2,ai_ hB g3.next,g3.base hB⟩;rw[hsz,h4];exact k
theorem Rz{E ops R T V e o ρ σ τ v}(ho:ops[e]? =some o)(hg:o.guard=none)(ht:Has (T e) ρ)(hv:V e=v)(hb:AV.beq v v=true)(h:As E R o.op ρ σ v τ):Ps E ops R T V e σ=some τ:=by
 unfold Ps;simp only[ho,O5 hg ht h,hv,hb,cond_true]
theorem Avd{E nt B df Q ρ σ σ1 σ2 σ3 σ4 σ5 Rr id ops}(vl c e i j){oc oe oi oj}{t x y t' x' y'}{a b p q vc ve}(hm:E.P.follows .mixedOrders=true)(hR:Bk E Rr)(hl:ops.toList.length=vl.length)(hd:ops.toList.all (fun o=>B0 nt o.dst)=true)(hcl:(Eu ops (Region.before ops).toList&&Fo ops)=true)
  (hes:A8 E ops.toList 0=[c,e,i,j])(hoc:ops.toList[c]? =some oc)(hoe:ops.toList[e]? =some oe)(hoi:ops.toList[i]? =some oi)(hoj:ops.toList[j]? =some oj)(hbe:((Region.before ops).toList.getD e 0).testBit c=true)(hbi:((Region.before ops).toList.getD i 0).testBit e=true)(hbj:((Region.before ops).toList.getD j 0).testBit i=false)
  (hmi:oi.op=.store t x y)(hmj:oj.op=.store t' x' y')(hgc:oc.guard=none)(hge:oe.guard=none)(hgi:oi.guard=none)(hgj:oj.guard=none)(hij:Nat.beq i j=false)(hab:a≠b)(re:c<=ops.toList.length)(hel:e<=ops.toList.length)(hil:i<=ops.toList.length)(hjl:j<=ops.toList.length)
  (h1:As E Rr oc.op (Lb ops.toList vl ρ c) σ vc σ1)(h2:As E Rr oe.op (Lb ops.toList vl ρ e) σ1 ve σ2)(h3:As E Rr oi.op (Lb ops.toList vl ρ i) σ2 An σ3)(h4:As E Rr oj.op (Lb ops.toList vl ρ j) σ2 An σ4)(h5:As E Rr oj.op (Lb ops.toList vl ρ j) σ3 An σ5)
  (hx:Ah E (Lb ops.toList vl ρ i) x=some (.pr a p))(hx':Ah E (Lb ops.toList vl ρ j) x'=some (.pr b q))(hvc:vl.getD c .any=vc)(hbc:AV.beq vc vc=true)(hve:vl.getD e .any=ve)(hbv:AV.beq ve ve=true)(hvi:vl.getD i .any=An)(hvj:vl.getD j .any=An)
  (cy:∀k,k<ops.toList.length->([c,e,i,j]:List Nat).contains k=false->∀τ:Sto,(τ=σ∨τ=σ1∨((Region.before ops).toList.getD e 0).testBit k=false)->∃o v τ',ops.toList[k]? =some o/\o.guard=none/\As E Rr o.op (Lb ops.toList vl ρ k) τ v τ'/\vl.getD k .any=v/\AV.beq v v=true)
  (dc:∀(s1 s2 s3 s4 s5 s6:Sto),([((⟨[],s1,[]⟩:Nd),[c]),(⟨[c],s2,[]⟩,[e]),(⟨[e,c],s3,[]⟩,[i,j]),(⟨[i,e,c],s4,[]⟩,[j]),(⟨[j,e,c],s5,[]⟩,[i]),(⟨[j,i,e,c],s6,[]⟩,[])]:NL).all (Vs ops.toList.length (Region.before ops).toList [c,e,i,j])=true)
  (cw:∀(s1 s2 s3 s4 s5:Sto),(([((⟨[],s1,[]⟩:Nd),[c]),(⟨[c],s2,[]⟩,[e]),(⟨[e,c],s3,[]⟩,[i,j]),(⟨[i,e,c],s4,[]⟩,[j]),(⟨[j,e,c],s5,[]⟩,[i])]:NL).all fun x=>([c,e,i,j]:List Nat).any fun e=> !x.1.D.contains e)=true)
  (k:Q .normal (Lb ops.toList vl ρ ops.toList.length) σ5):T E nt df B (.region id ops true) Q ρ σ:=by
 refine Avc vl hm hR hl hd hcl (fun tl hT=>?_) k
 rw[hes];have e1:=Rz (T:=fun k=>tl.getD k .e) (V:=fun k=>vl.getD k .any) hoc hgc (hT c re) hvc hbc h1
 have e2:=Rz (T:=fun k=>tl.getD k .e) (V:=fun k=>vl.getD k .any) hoe hge (hT e hel) hve hbv h2
 have e3:=O5 (ops:=ops.toList) hgi (hT i hil) h3;have e4:=O5 (ops:=ops.toList) hgj (hT j hjl) h4;have e5:=O5 (ops:=ops.toList) hgj (hT j hjl) h5
 have hpr:Nat.beq a b=false:=by cases hh:Nat.beq a b with|true=>exact absurd (ac_ hh) hab|false=>rfl
 have hu:AV.beq An An=true:=by rfl
 have ip:N2 E ops.toList Rr (fun k=>tl.getD k .e) (fun k=>vl.getD k .any) i j [e,c] σ2=some ([(⟨[e,c],σ2,[]⟩,[i,j]),(⟨[i,e,c],σ3,[]⟩,[j]),(⟨[j,e,c],σ4,[]⟩,[i])],σ5):=by
  unfold N2;simp only[hoi,hoj,e3,e4,e5,hmi,hmj,(hT i hil).opd hx,(hT j hjl).opd hx',hvi,hvj,hij,hpr,hu,fc_,be_,cond_true]
 refine⟨[(⟨[],σ,[]⟩,[c]),(⟨[c],σ1,[]⟩,[e]),(⟨[e,c],σ2,[]⟩,[i,j]),(⟨[i,e,c],σ3,[]⟩,[j]),(⟨[j,e,c],σ4,[]⟩,[i])],⟨[j,i,e,c],σ5,[]⟩,?_,rfl,fun x hx k hk hc hok=>?_,dc _ _ _ _ _ _,cw _ _ _ _ _⟩
 ·simp only[Ne,hbe,hbi,hbj,e1,e2,ip]
  rfl
 ·have key:x.1.σ=σ∨x.1.σ=σ1∨((Region.before ops).toList.getD e 0).testBit k=false:=by
   have he:e∈x.1.D->((Region.before ops).toList.getD e 0).testBit k=false:=fun hm=>by
    unfold Sz at hok
    have:=b_.1 hok e (by simp)
    rw[List.contains_iff_mem.2 hm]at this
    simpa using this
   simp only[ay_,bd_,an_,cl_,or_false]at hx
   rcases hx with rfl|rfl|rfl|rfl|rfl|rfl
   ·exact .inl rfl
   ·exact .inr (.inl rfl)
   ·exact .inr (.inr (he (by simp)))
   ·exact .inr (.inr (he (by simp)))
   ·exact .inr (.inr (he (by simp)))
   ·exact .inr (.inr (he (by simp)))
  obtain⟨o,v,τ',q1,q2,q3,q4,q5⟩:=cy k hk hc _ key;exact Ahn q1 q2 (hT k (gb_ hk)) q4 q5 q3
mutual
theorem Z8:∀t:Ax,AV.beqs (eT t) (eT t)=true
 |.node l ks=>by
  have:=Aj0 ks;simp only[eT,AV.beqs,AV.beq,sV,Tv,aw_,Af8,this,be_]
theorem Aj0:∀l:List Ax,AV.beqs (eTs l) (eTs l)=true
 |[]=>rfl
 |t::r=>by rw[eTs];exact Vq (Z8 t) (Aj0 r)
end
theorem Ds.cell{σ}(hw:WFS σ){a b vs vs'}(hb:σ.get b=some (.cells vs))(hab:a≠b)(hf:∀τ:Sto,nx τ=nx σ->τ.get a=none->FzL σ τ vs vs'):Ds σ ((σ.kill a).set b (.cells vs')):=by
 have hk:((σ.kill a).set b (.cells vs')).get a=none:=by rw[aa_,if_neg hab,bf_,if_pos rfl]
 have hn:nx ((σ.kill a).set b (.cells vs'))=nx σ:=by rw[Aq,B3]
 have h0:=Ds.kill hw a
 refine⟨by rw[hn];exact nl,fun x O hx=>?_⟩
 rw[aa_]at hx
 split at hx
 ·rename_i e
  subst e;cases hx
  exact⟨by rw[hn];exact(hw _ _ hb).1,_,hb,.cells (hf _ hn hk)⟩
 ·rename_i hne
  obtain⟨h1,O₀,h2,h3⟩:=h0.2 x O hx;rw[B3]at h1
  refine⟨by rw[hn];exact h1,O₀,h2,?_⟩
  have hO:σ.get x=some O:=by
   rw[bf_]at hx
   split at hx
   ·cases hx
   ·exact hx
  rw[hO]at h2;cases h2;obtain⟨_,q2,q3⟩:=hw x O hO;cases O with
  |cells vs=>exact .cells (dj_ (by rw[hn];exact q2))
  |map kt es ver=>exact .map (Oi .same (by rw[hn];exact q2))
  |stamp m ver k=>exact .stamp (by rw[hn];exact q2)
  |loop st=>exact .loop
  |iter m ver left cur=>
   refine .iter (by rw[hn];exact q2) ?_
   cases m with
   |none=>trivial
   |some r=>
    intro kt es hr;rw[hn];refine q3 kt es ?_;rw[aa_]at hr
    split at hr
    ·cases hr
    ·rw[bf_]at hr
     split at hr
     ·cases hr
     ·exact hr
def Awj(b:Bool):Nat->Bool
 |0=>false
 |_=>b
theorem Axv{a o}:AV.beq (.pr a o) (.pr a o)=true:=by
 show(Nat.beq a a&&Nat.beq o o)=true
 rw[aw_,aw_];rfl
def Xg(T:Ax):AV:=if 4000<M6 T then .tup [nS,iV 4]else if 100<dpT T 1 then .tup [nS,iV 9]else .tup [slV eT 2 [T],iV 0]
theorem f70{g F c}(hB:GrB g)(dw:Eb g=0)(hF:FOk g F.length F)(hFB:FB F)(h0:0<F.length)(hc:Yx F=some c)(dv:c.2.getD 0 0=1)(hgr:g.rules.length<=1000000)(σ):Cv 70 [grV g,fV F,nV 1] σ (Xg (fT g F c 0)):=by
 obtain⟨E,hci,h0E⟩:=Aho hF h0 hc;obtain⟨i0,hi0⟩:=au_.1 h0E;have hL:Lst g F c E:=⟨hF,hFB,hci,hgr⟩;have hkb:=hL.kb i0 0 hi0 Om
 have h117:∀σ,Cv 117 [grV g] σ (iV 0):=fun σ=>by
  have:=f117 g σ hB
  grind
 have h122:∀σ,Cv 122 [fV F] σ (.tup [ctV F c,iV 0]):=fun σ=>by
  have:=f122 hF hFB h0 σ;unfold cntV at this
  grind
 have hat:=O4 (l:=c.2) (i:=0) gr;rw[dv]at hat;obtain⟨T,hTT⟩:∃T,fT g F c 0=T:=⟨_,rfl⟩;rw[hTT]at hkb⊢;have hno:∀b:Bool,b=true->b=false->False:=gr;refine gm_ ?_;refine Mo Tryz.func70 (Ke _ _ Tryz.func70) rfl rfl fun hw hu0=>?_
 iterate  12 refine G ?_
 refine Ca (h117 _) ?_
 iterate  7 refine G ?_
 refine A0 rfl gr (fun h1=>?_)
 iterate  4 refine G ?_
 refine Ca (h122 _) ?_
 iterate  14 refine G ?_
 refine A0 rfl gr (fun h2=>?_)
 iterate  5 refine G ?_
 refine TOr 2 ?_ (fun hg=>?_) ?_
 rotate_left
 ·iterate  2 refine Gn hg ?_
  exact Ez
 iterate  2 refine G ?_
 refine A0 rfl gr (fun h3=>?_)
 iterate  16 refine G ?_
 refine O1 (Gx Am2) ?_
 iterate  2 refine G ?_
 obtain⟨aM,haM⟩:∃aM,nx σ.bump=aM:=⟨_,rfl⟩;obtain⟨σ1,hσ1⟩:∃σ1,σ.bump.new (.map 289 [] 0)=σ1:=⟨_,rfl⟩;rw[haM,hσ1];rw[Bm]at haM;have n1:nx σ1=nx σ+2:=gr;have g1:∀b,b<nx σ->σ1.get b=σ.get b:=gr
 have hM1:MsS g F c σ1 aM:=⟨[],⟨0,by rw[←hσ1,ag_,if_pos gr];rfl⟩,fun n t h=>by cases h⟩
 iterate  2 refine G ?_
 refine Dy fun df=>X0 ?_
 iterate  5 refine G ?_
 refine DF (A1 elC Ep rfl rfl hat) ?_;refine G ?_;refine DF (show As Ew _ _ _ _ (nV 1) _ from Ak7 (p:=1) (q:=1) okC rfl rfl) ?_
 iterate  2 refine G ?_
 refine⟨rfl,rfl,?_⟩;refine G ?_
 refine Hz (fun q:Nat=>[(5,.pv [nV 1]),(11,lV g F c),(12,.bool (Awj (decide ((4000:Int)<Int.ofNat (msN T))) q)),(13,.bool (Awj (decide ((100:Int)<Int.ofNat (msD T))) q)),(14,.mp aM),(52,nV 1),(53,nV q)]) (fun q σ'=>q<=1/\MsS g F c σ' aM/\nx σ+2<=nx σ'/\∀b,b<nx σ->σ'.get b=σ.get b) (fun q=>1-q) 0 SL ⟨aq_ _,hM1,by omega,g1⟩ ?_
 rintro q σ2 ⟨hq,hM2,n2,g2⟩
 iterate  5 refine G ?_
 refine A0 rfl ?_ ?_<;>intro h4
 ·have hq0:q=0:=gr;subst hq0
  iterate  13 refine G ?_
  refine Az rfl rfl rfl rfl (f123 hL i0 0 hi0 Om aM σ2 hM2 Om) ?_;rintro _ σ3 ⟨rfl,hM3,n3,g3⟩;rw[hTT]
  iterate  9 refine G ?_
  refine A0 rfl gr (fun h5=>?_)
  refine G ?_;refine Dy fun df=>X0 ?_
  iterate  2 refine G ?_
  refine Bg rfl rfl rfl rfl rfl rfl rfl (Ae fdC rfl rfl) (Bg rfl rfl rfl rfl rfl rfl rfl (Ac ldC rfl rfl rfl) (Bg rfl rfl rfl rfl rfl rfl rfl (Wv (q:=4000) okC rfl rfl) (DF (Au rfl rfl rfl) ?_)))
  iterate  2 refine G ?_
  refine Bg rfl rfl rfl rfl rfl rfl rfl (Ae fdC rfl rfl) (Bg rfl rfl rfl rfl rfl rfl rfl (Ac ldC rfl rfl rfl) (Bg rfl rfl rfl rfl rfl rfl rfl (Wv (q:=100) okC rfl rfl) (DF (Au rfl rfl rfl) ?_)))
  iterate  3 refine G ?_
  refine⟨rfl,rfl,?_⟩
  iterate  4 refine G ?_
  refine⟨1,gr,SL,nl,hM3,by omega,gr⟩
 ·have hq1:q=1:=gr;subst hq1
  iterate  8 refine G ?_
  refine A0 rfl ?_ ?_<;>intro h5
  ·have hb1:4000<M6 T:=by
    have h:(4000:Int)<Int.ofNat (msN T):=of_decide_eq_true h5;have h:4000<msN T:=Int.ofNat_lt.1 h;unfold msN at h;omega
   iterate  6 refine G ?_
   exact⟨_,rfl,_,σ,am_ hw ⟨by omega,gr⟩,nl,.same rfl,by unfold Xg;rw[if_pos hb1];rfl,rfl⟩
  ·have hb1:¬4000<M6 T:=fun h=>by
    have h':4000<msN T:=by unfold msN;omega
    exact of_decide_eq_false h5 (Int.ofNat_lt.2 h')
   iterate  5 refine G ?_
   refine A0 rfl ?_ ?_<;>intro h6
   ·have hd1:100<dpT T 1:=by
     have h:(100:Int)<Int.ofNat (msD T):=of_decide_eq_true h6;exact Int.ofNat_lt.1 h
    iterate  6 refine G ?_
    exact⟨_,rfl,_,σ,am_ hw ⟨by omega,gr⟩,nl,.same rfl,by unfold Xg;rw[if_neg hb1,if_pos hd1];rfl,rfl⟩
   ·have hd1:¬100<dpT T 1:=fun h=>of_decide_eq_false h6 (Int.ofNat_lt.2 h)
    iterate  3 refine G ?_
    refine O1 (Bj (n:=nx σ2) ziC rfl) ?_;refine G ?_;obtain⟨aO,haO⟩:∃aO,nx σ2=aO:=⟨_,rfl⟩;obtain⟨σ6,hσ6⟩:∃σ6,σ2.new (.cells [nS])=σ6:=⟨_,rfl⟩;rw[haO,hσ6];have n6:nx σ6=aO+1:=gr;have g6:∀b,b<aO->σ6.get b=σ2.get b:=gr;have o6:σ6.get aO=some (.cells [nS]):=gr
    iterate  6 refine G ?_
    refine A0 rfl (fun h7=>?_) gr
    iterate  3 refine G ?_
    refine Ca (f124 (g:=g) (F:=F) (c:=c) 0 _) ?_
    iterate  2 refine G ?_
    obtain⟨aY,haY⟩:∃aY,nx σ6+1=aY:=⟨_,rfl⟩;obtain⟨σ7,hσ7⟩:∃σ7,σ6.bump.new (.loop .ready)=σ7:=⟨_,rfl⟩;have n7:nx σ7=aO+3:=gr;have g7:∀b,b<nx σ6->σ7.get b=σ6.get b:=gr;have y7:σ7.get aY=some (.loop .ready):=gr;refine L6 rfl (fun tm htm=>?_)
    rw[hσ7,haY];refine et_ (f159 hL i0 0 hi0 Om _ ⟨aY,tm,Tryz.f70.ntmps,_,_,_⟩ (aO+3) (fun τ=>τ.get aY=some (.loop .ready)/\τ.get aO=some (.cells [nS])/\∀b,b<nx σ->τ.get b=σ.get b) (fun x τ=>x=.exit 4/\τ.get aY=some (.loop (H2 (.exit 4)))/\τ.get aO=some (.cells [slV eT 2 [T]])/\∀b,b<nx σ->τ.get b=σ.get b) σ7 (ap_ ..) ⟨gr,?s,?j,?y⟩ ⟨y7,gr,gr⟩ Om) ?post
    case s=>
     rintro τ τ' ⟨h1,h2,h3⟩ hg;exact⟨gr,gr,gr⟩
    case j=>
     rintro x τ τ' ⟨h1,h2,h3,h4⟩ hg;exact⟨h1,gr,gr,gr⟩
    case y=>
     rintro τ ⟨hyt,hot,hgt⟩ hBt
     obtain⟨lk,kk,hT⟩:∃lk kk,T=.node lk kk:=by cases T;grind
     have ot:∀σ,Cv 125 [.agg [sV lk,slV eT 2 kk]] σ (.agg [sV lk,slV eT 2 kk]):=fun σ=>by
      have:=f125 hkb σ
      rwa[hT,Cg]at this
     have hsl:slV eT 2 [T]=.sv [sV lk,slV eT 2 kk] 2 1 none:=by
      show AV.sv ([T].flatMap eT) 2 1 none=_
      rw[bs_,fk_,bh_,hT,Cl]
     have hbt:AV.beq (.agg [sV lk,slV eT 2 kk]) (.agg [sV lk,slV eT 2 kk])=true:=by
      have:=Z8 T;rw[hT,Cl]at this;exact this
     have hut:∀N,AV.unds N [sV lk,slV eT 2 kk]=true:=fun N=>by
      have:=Es (N:=N) T
      rwa[hT,Cl]at this
     have htv:En T=.agg [sV lk,slV eT 2 kk]:=by rw[hT,Cg]
     rw[hTT,htv];obtain⟨τ1,hτ1⟩:∃τ1,τ.set aY (.loop .busy)=τ1:=⟨_,rfl⟩;have nt1:nx τ1=nx τ:=gr;have gt1:∀b,b≠aY->τ1.get b=τ.get b:=gr;have yt1:τ1.get aY=some (.loop .busy):=gr;have ot1:τ1.get aO=some (.cells [nS]):=gr;obtain⟨aN,haN⟩:∃aN,nx τ1=aN:=⟨_,rfl⟩;obtain⟨τ2,hτ2⟩:∃τ2,τ1.new (.cells [.str [],nS])=τ2:=⟨_,rfl⟩;have nt2:nx τ2=aN+1:=gr;have gt2:∀b,b<aN->τ2.get b=τ1.get b:=gr;have et2:τ2.get aN=some (.cells [.str [],nS]):=gr;have ot2:τ2.get aO=some (.cells [nS]):=gr
     have hap:B6 τ1 2 40 nS 1 [.str [],nS]=some (.sr aN 0 2 1 none,τ2):=by rw[←hτ2,←haN];rfl
     obtain⟨τ5,hτ5⟩:∃τ5,(τ2.set aN (.cells [sV lk,slV eT 2 kk])).set aO (.cells [.sr aN 0 2 1 none])=τ5:=⟨_,rfl⟩;have nt5:nx τ5=aN+1:=gr;have ot5:τ5.get aO=some (.cells [.sr aN 0 2 1 none]):=gr;have et5:τ5.get aN=some (.cells [sV lk,slV eT 2 kk]):=gr;have gt5:∀b,b<aN->b≠aO->τ5.get b=τ2.get b:=gr;obtain⟨τ6,hτ6⟩:∃τ6,(τ5.kill aN).set aO (.cells [slV eT 2 [T]])=τ6:=⟨_,rfl⟩;have nt6:nx τ6=aN+1:=gr;have ot6:τ6.get aO=some (.cells [slV eT 2 [T]]):=gr;have gt6:∀b,b<aN->b≠aO->τ6.get b=τ5.get b:=gr;refine Tk htm rfl Kr Kr Kr hyt gr ?_
     iterate  3 refine G ?_
     refine⟨hyt,?_⟩;rw[show τ.set aY (.loop .busy)=τ1 from hτ1]
     iterate  2 refine G ?_
     refine Dy fun df=>?_
     refine Avd (Rr:=Dk [(125,[.agg [sV lk,slV eT 2 kk]],τ1,.agg [sV lk,slV eT 2 kk],τ1)]) (a:=aN) (b:=aO) (p:=0) (q:=0) [nS,.agg [sV lk,slV eT 2 kk],.agg [sV lk,slV eT 2 kk],nV 0,.sv [.str [],nS] 2 1 (some 1),.sr aN 0 2 1 none,.pr aN 0,An,An] 2 5 7 8 Di (Bw ⟨ot τ1,trivial⟩) rfl rfl Kr Kr rfl rfl rfl rfl Kr Kr Kr rfl rfl rfl rfl rfl rfl rfl Om (by decide) (by decide) (by decide) (by decide) (Bq rfl rfl Bv) (Av elC rfl slC rfl rfl rfl (new:=[.str [],nS]) rfl hap) (G1 (cs':=[sV lk,slV eT 2 kk]) et2 ldC rfl rfl rfl rfl) (G1 (cs':=[.sr aN 0 2 1 none]) ot2 ldC rfl rfl rfl rfl) (G1 (cs':=[.sr aN 0 2 1 none]) (by rw[aa_,if_neg Om];exact ot2) ldC rfl rfl rfl rfl) rfl rfl rfl hbt rfl Asw rfl rfl ?_ (fun _ _ _ _ _ _=>by kernel_rfl) (fun _ _ _ _ _=>by kernel_rfl) ?_
     ·intro k hk hc υ hυ
      match k,hk,hc with
      |0,_,_=>
       have hυ:υ=τ1:=by
        rcases hυ with h|h|h
        ·exact h
        ·exact h
        ·exact(hno _ Kr h).elim
       subst hυ;exact⟨_,_,_,rfl,rfl,E8 ot1 (ldC (t:=37)) rfl rfl,rfl,rfl⟩
      |1,_,_=>exact⟨_,_,_,rfl,rfl,Ac (ldC (t:=39)) rfl rfl rfl,rfl,hbt⟩
      |2,_,h=>cases h
      |3,_,_=>exact⟨_,_,_,rfl,rfl,Bf (slC (t:=37)) rfl rfl rfl,rfl,rfl⟩
      |4,_,_=>exact⟨_,_,_,rfl,rfl,Ai (elC (t:=37)) byW rfl rfl rfl,rfl,rfl⟩
      |5,_,h=>cases h
      |6,_,_=>exact⟨_,_,_,rfl,rfl,Br (elC (t:=37)) rfl rfl (by decide),rfl,Axv⟩
      |7,_,h=>cases h
      |8,_,h=>cases h
      |k+9,hk,_=>exact absurd hk (by simp)
     rw[hτ5];refine G ?_;refine Dy fun df=>?_
     refine Bo fun hw8=>?_
     refine Aby τ6 [(5,.pv [nV 1]),(17,.pr aO 0)] (by rw[←hτ6];exact Ds.cell hw8 ot5 Om fun υ hn hk=>.cons (by rw[hsl];exact .sr et5 hk (by rfl) (dj_ (hut _))) .nil) Om ⟨⟨_,rfl,.same rfl⟩,⟨_,rfl,.same (Jr Om)⟩,trivial⟩ ?_
     refine G ?_;refine O1 (lO ot6) ?_
     iterate  2 refine G ?_
     refine O1 (H4 (p:=1) (q:=1) okC rfl rfl) ?_;refine G ?_;refine A0 rfl (fun h8=>?_) gr
     refine G ?_
     refine⟨gr,by simp,⟨rfl,gr,gr,gr⟩,gr,gr⟩
    case post=>
     rintro u σ' ⟨⟨x,_,rfl,hy9,ho9,hg9⟩,n9,g9⟩;refine⟨.exit 4,hy9,?_⟩
     iterate  2 refine G ?_
     refine O1 (E8 (by rw[bf_,if_neg Om];exact ho9) ldC rfl rfl) ?_
     iterate  4 refine G ?_
     exact⟨_,rfl,_,σ,am_ hw ⟨gr,gr⟩,nl,.same (by
      show((AV.und (nx σ) (slV eT 2 [T]))&&(true&&true))=true
      rw[Fv Es];rfl),by unfold Xg;rw[if_neg hb1,if_neg hd1];rfl,rfl⟩
theorem Aj1:∀(l:List (Nat×List Sp)) {P Q:Pk},Pj l P=some Q->P.ways.length<=P.total->P.total<=40000->Q.ways.length<=Q.total/\Q.total<=40000
 |[],P,Q,h,h1,h2=>by cases h;grind
 |x::r,P,Q,h,h1,h2=>by
  unfold Pj at h
  split at h
  ·cases h
  ·rename_i P' hP
   unfold F7 at hP
   split at hP
   ·cases hP
   ·rename_i hn
    cases hP;exact Aj1 r h gr gr
theorem Aj2{g D text}:∀(f i total:Nat) (L:List Sp) (nodes F:List Nde),total<=40000->(∀x∈nodes,x.ways.length<=40000)->Pf g D text f i total L nodes=some F->∀x∈F,x.ways.length<=40000
 |0,_,_,_,_,_,_,_,h=>by cases h
 |f+1,i,total,L,nodes,F,ht,hn,h=>by
  unfold Pf at h
  split at h
  ·grind
  ·split at h
   ·cases h
   ·rename_i s _ P hP
    obtain⟨b1,b2⟩:=Aj1 _ hP (aq_ _) ht;refine Aj2 f (i+1) P.total P.list _ F b2 (fun x hx=>?_) h
    grind
theorem Aj3{g D text w F}(hp:∀r∈g.rules,r.parts.length<=200)(h:Im g D text w=some F):FB F:=by
 obtain⟨h1,h2,h3⟩:=Acl h;refine⟨h3,fun x hx=>⟨Aj2 4002 0 0 [w] [] F (aq_ _) gr h x hx,fun v hv=>?_⟩⟩
 have ok:=h1 x hx v hv;rw[ok.len];obtain⟨rl,hrl⟩:=Ar ok.rule;unfold nPt rPt
 grind
theorem Vt{g s t}:(∃e,Fj g s t=(none,e)/\e≠0)∨∃F D w,Fj g s t=(some F,0)/\Im g D t w=some F:=by
 unfold Fj
 by_cases h1:Eb g≠0
 ·rw[if_pos h1];grind
 ·rw[if_neg h1]
  by_cases h2:s∉g.sorts
  ·rw[if_pos h2];grind
  ·rw[if_neg h2]
   by_cases h3:t.length>200
   ·rw[if_pos h3];grind
   ·rw[if_neg h3]
    by_cases h4:(Ej g s t).sets.length<=t.length∨(s,0,t.length)∉(Ej g s t).done
    ·rw[if_pos h4];grind
    ·rw[if_neg h4];cases hp:Im g (Ej g s t).done t (s,0,t.length)with
     |none=>exact .inl ⟨_,rfl,by decide⟩
     |some F=>exact .inr ⟨F,_,_,rfl,hp⟩
theorem Ap5{g F}(h:∀c,Yx F=some c->c.2.getD 0 0≠1):Mu g F=(Ek,191):=by
 unfold Mu
 grind
theorem f26(d l σ)(hD:DbB d)(hvf:d.vars.length+d.frames.length<1000000)(hl:l.length<1000000):Cv 26 [dbV d,Af l] σ (.tup [En (B1 d l).1,iV (B1 d l).2]):=by
 have hG:=Yc d;have hGB:=Asj d;refine Aj Tryz.func26 rfl rfl fun hw hu0=>?_
 refine G3 ?_;refine O1 (Bu ziC) ?_;refine G2 ?_;obtain⟨σ1,hσ1⟩:∃σ1,σ.new (.cells [.str [],nS])=σ1:=⟨_,rfl⟩;rw[hσ1];have n1:nx σ1=nx σ+1:=gr;have g1:∀b,b<nx σ->σ1.get b=σ.get b:=gr;have r1:σ1.get (nx σ)=some (.cells [.str [],nS]):=gr;refine G3 ?_;refine Ca (f66 d _ hD hvf) ?_;refine G12 ?_;refine Ab rfl ?_ ?_<;>intro h1
 ·have he:(ofF d).2≠0:=gr
  have hr:B1 d l=(Ek,(ofF d).2):=by unfold B1;rw[if_pos he]
  refine G4 ?_;refine O1 (sO (cs':=[.str [],nS]) r1) ?_;refine G3 ?_
  exact⟨[.agg [.str [],nS],_],Am (vs:=[.str [],nS]) (ldC (t:=39)) rfl (by simp only[Sto.cells];grind) rfl (Ba rfl rfl),.tup [.agg [sV [],.sv [] 2 0 none],_],σ,am_ hw ⟨gr,gr⟩,nl,.tup (.cons (.agg (.cons (.same rfl) (.cons (.nils gr) .nil))) (.cons (.same rfl) .nil)),by rw[hr];rfl,rfl⟩
 have he:(ofF d).2=0:=gr;refine G8 ?_;cases l with
 |nil=>
  have hr:B1 d []=(Ek,2):=by unfold B1;grind
  refine Ab rfl (fun h2=>?_) gr
  refine G3 ?_;refine O1 (sO (cs':=[.str [],nS]) r1) ?_;refine G3 ?_
  exact⟨[.agg [.str [],nS],_],Am (vs:=[.str [],nS]) (ldC (t:=39)) rfl (by simp only[Sto.cells];grind) rfl (Ba rfl rfl),.tup [.agg [sV [],.sv [] 2 0 none],_],σ,am_ hw ⟨gr,gr⟩,nl,.tup (.cons (.agg (.cons (.same rfl) (.cons (.nils gr) .nil))) (.cons (.same rfl) .nil)),by rw[hr];rfl,rfl⟩
 |cons t text=>
  have hr0:B1 d (t::text)=if D7 t∉(ofF d).1.sorts then(Ek,11)else match Fj (ofF d).1 (D7 t) text with
   |(none,e)=>(Ek,if e=160 then 190 else e)
   |(some F,_)=>Mu (ofF d).1 F:=by conv=>{ lhs;unfold B1 };grind
  have hl0:text.length+1<1000000:=hl;refine Ab rfl ?_ ?_<;>intro h2
  ·grind
  refine G2 ?_;refine XS (l:=[(67,[sV t],σ1,sV (D7 t),σ1)]) ⟨f67 t σ1,trivial⟩ ?_;refine G ?_;refine DF (A1 (i:=0) elC (fun _=>rfl) rfl rfl rfl) ?_
  refine G3 ?_
  refine DF (Uu (enc:=e1) (l:=t::text) elC (fun _=>rfl) rfl rfl (by simp)) ?_
  refine G9 ?_
  refine Ca (f15 (ofF d).1.sorts (D7 t) _ (by have:=hGB.s;omega)) ?_
  refine G2 ?_;refine Ab rfl ?_ ?_<;>intro h3
  ·have hs:D7 t∉(ofF d).1.sorts:=gr;have hr:B1 d (t::text)=(Ek,11):=gr;refine G3 ?_;refine O1 (sO (cs':=[.str [],nS]) r1) ?_;refine G3 ?_
   exact⟨[.agg [.str [],nS],_],Am (vs:=[.str [],nS]) (ldC (t:=39)) rfl (by simp only[Sto.cells];grind) rfl (Ba rfl rfl),.tup [.agg [sV [],.sv [] 2 0 none],_],σ,am_ hw ⟨gr,gr⟩,nl,.tup (.cons (.agg (.cons (.same rfl) (.cons (.nils gr) .nil))) (.cons (.same rfl) .nil)),by rw[hr];rfl,rfl⟩
  have hs:D7 t∈(ofF d).1.sorts:=gr;rw[if_neg (fun q=>q hs)]at hr0
  refine G6 ?_;refine Ca (f68 (ofF d).1 (D7 t) text _ hGB Om) ?_;refine G3 ?_
  rcases Vt (g:=(ofF d).1) (s:=D7 t) (t:=text)with⟨e,hp,hne⟩|⟨F,D,w,hp,hpk⟩
  ·rw[hp]at hr0⊢;have hr0:B1 d (t::text)=(Ek,if e=160 then 190 else e):=hr0
   iterate 14 refine G ?_
   refine Ab rfl (fun h4=>absurd (of_decide_eq_true h4) hne) (fun h4=>?_)
   refine G5 ?_;refine Ab rfl ?_ ?_<;>intro h5
   ·have hr:B1 d (t::text)=(Ek,190):=gr;refine G3 ?_;refine O1 (sO (cs':=[.str [],nS]) r1) ?_;refine G3 ?_
    exact⟨[.agg [.str [],nS],_],Am (vs:=[.str [],nS]) (ldC (t:=39)) rfl (by simp only[Sto.cells];grind) rfl (Ba rfl rfl),.tup [.agg [sV [],.sv [] 2 0 none],_],σ,am_ hw ⟨gr,gr⟩,nl,.tup (.cons (.agg (.cons (.same rfl) (.cons (.nils gr) .nil))) (.cons (.same rfl) .nil)),by rw[hr];rfl,rfl⟩
   ·have hr:B1 d (t::text)=(Ek,e):=gr;refine G4 ?_;refine O1 (sO (cs':=[.str [],nS]) r1) ?_;refine G3 ?_
    exact⟨[.agg [.str [],nS],_],Am (vs:=[.str [],nS]) (ldC (t:=39)) rfl (by simp only[Sto.cells];grind) rfl (Ba rfl rfl),.tup [.agg [sV [],.sv [] 2 0 none],_],σ,am_ hw ⟨gr,gr⟩,nl,.tup (.cons (.agg (.cons (.same rfl) (.cons (.nils gr) .nil))) (.cons (.same rfl) .nil)),by rw[hr];rfl,rfl⟩
  ·rw[hp]at hr0⊢;have hr0:B1 d (t::text)=Mu (ofF d).1 F:=hr0;obtain⟨hF,h0,hF4⟩:=Acl hpk;have hFB:=Aj3 hG.prt hpk
   iterate 14 refine G ?_
   refine Ab rfl (fun h4=>?_) gr
   refine G5 ?_;refine Ca (f69 hF hFB h0 _) ?_;refine G11 ?_;refine TOr 2 ?_ (fun hg=>?_) ?_
   rotate_left
   ·iterate 2 refine Gn hg ?_
    exact Ez
   refine G ?_;refine Ab rfl ?_ ?_<;>intro h5
   ·have hr:B1 d (t::text)=(Ek,191):=by
     rw[hr0];refine Ap5 fun c hc h1=>?_
     unfold Ad4 at h5
     grind
    refine G3 ?_;refine O1 (sO (cs':=[.str [],nS]) r1) ?_;refine G3 ?_
    exact⟨[.agg [.str [],nS],_],Am (vs:=[.str [],nS]) (ldC (t:=39)) rfl (by simp only[Sto.cells];grind) rfl (Ba rfl rfl),.tup [.agg [sV [],.sv [] 2 0 none],_],σ,am_ hw ⟨gr,gr⟩,nl,.tup (.cons (.agg (.cons (.same rfl) (.cons (.nils gr) .nil))) (.cons (.same rfl) .nil)),by rw[hr];rfl,rfl⟩
   have dv:∃c,Yx F=some c/\c.2.getD 0 0=1:=by
    rw[bv_]at h5;have h6:(Ad4 F).2=0:=gr;have h7:Int.ofNat (Ad4 F).1=1:=gr;have h7:(Ad4 F).1=1:=ci_ h7;unfold Ad4 at h6 h7
    grind
   obtain⟨c,hc,h1c⟩:=dv;obtain⟨T,hT⟩:∃T,fT (ofF d).1 F c 0=T:=⟨_,rfl⟩
   have h70:∀σ,Cv 70 [grV (ofF d).1,fV F,nV 1] σ (Xg T):=fun σ=>by
    have:=f70 hGB Asi hF hFB h0 hc h1c (by have:=hG.len;omega) σ
    grind
   have hr1:B1 d (t::text)=if M6 T>4000 then(Ek,4)else if dpT T 1>100 then(Ek,9)else(T,0):=by
    rw[hr0,Mu,hc];simp only[h1c];rw[show Yy (ofF d).1 F c.2 (F.length+1) 0=T from hT]
    rfl
   refine G5 ?_;refine Ca (h70 _) ?_;unfold Xg
   by_cases hb1:4000<M6 T
   ·rw[if_pos hb1];have hr:B1 d (t::text)=(Ek,4):=gr;refine G12 ?_;refine Ab rfl (fun h6=>?_) gr
    refine G4 ?_;refine O1 (sO (cs':=[.str [],nS]) r1) ?_;refine G3 ?_
    exact⟨[.agg [.str [],nS],_],Am (vs:=[.str [],nS]) (ldC (t:=39)) rfl (by simp only[Sto.cells];grind) rfl (Ba rfl rfl),.tup [.agg [sV [],.sv [] 2 0 none],_],σ,am_ hw ⟨gr,gr⟩,nl,.tup (.cons (.agg (.cons (.same rfl) (.cons (.nils gr) .nil))) (.cons (.same rfl) .nil)),by rw[hr];rfl,rfl⟩
   ·by_cases hd1:100<dpT T 1
    ·rw[if_neg hb1,if_pos hd1];have hr:B1 d (t::text)=(Ek,9):=gr;refine G12 ?_;refine Ab rfl (fun h6=>?_) gr
     refine G4 ?_;refine O1 (sO (cs':=[.str [],nS]) r1) ?_;refine G3 ?_
     exact⟨[.agg [.str [],nS],_],Am (vs:=[.str [],nS]) (ldC (t:=39)) rfl (by simp only[Sto.cells];grind) rfl (Ba rfl rfl),.tup [.agg [sV [],.sv [] 2 0 none],_],σ,am_ hw ⟨gr,gr⟩,nl,.tup (.cons (.agg (.cons (.same rfl) (.cons (.nils gr) .nil))) (.cons (.same rfl) .nil)),by rw[hr];rfl,rfl⟩
    ·rw[if_neg hb1,if_neg hd1];have hr:B1 d (t::text)=(T,0):=gr;refine G12 ?_;refine Ab rfl gr (fun h6=>?_)
     refine G ?_
     obtain⟨lk,kk,hTn⟩:∃lk kk,T=.node lk kk:=by cases T;grind
     have hek:eT T=[sV lk,slV eT 2 kk]:=by rw[hTn];exact Cl lk kk
     refine G3 ?_
     refine O1 (A1 (i:=0) elC Dh rfl rfl rfl) (O1 (Ac ldC rfl rfl (show Cz 2 true (eT T++_)=some (.agg [sV lk,slV eT 2 kk])from by rw[←hek];exact A6 (Dh _) _)) ?_)
     refine O1 (sO (cs':=[sV lk,slV eT 2 kk]) r1) ?_;refine G3 ?_
     exact⟨[.agg [sV lk,slV eT 2 kk],iV 0],Am (vs:=[sV lk,slV eT 2 kk]) (ldC (t:=39)) rfl (by simp only[Sto.cells];grind) rfl (Ba rfl rfl),_,σ,am_ hw ⟨gr,gr⟩,nl,.same (by
      have:=Es (N:=nx σ) T;rw[hek]at this
      show(AV.unds (nx σ) [sV lk,slV eT 2 kk]&&(true&&true))=true
      rw[this];rfl),by rw[hr];show _=AV.tup [.agg (eT T),iV 0];rw[hek];rfl,rfl⟩
structure Rs where
 equal:List Str
 bound:List Str
def eRs(r:Rs):List AV:=[Af r.equal,Af r.bound]
def bkC(d:Db)(r:Rs)(mT:Nat):List AV:=[.mp mT,Af d.consts,Af d.vars,slV eF 8 d.frames,Af (ofF d).1.sorts,slV eR 4 (ofF d).1.rules,Af r.equal,Af r.bound]
def Nv(l:List Str):Bool:=decide (l[0]? =some [124,45])
def rlD(d:Db)(s:Str):Rl:=(F4 (ofF d).1.rules s).getD zRl
def rlB(d:Db)(s:Str):Bool:=(F4 (ofF d).1.rules s).isSome
def vrD(d:Db)(s:Str):Bool:=rlB d s&&(rlD d s).var
theorem f106(l σ):Cv 106 [Af l] σ (.bool (Nv l)):=by
 refine Aj Tryz.func106 rfl rfl fun hw hu0=>?_
 refine G4 ?_;cases l with
 |nil=>
  refine G6 ?_;refine Co rfl rfl rfl rfl rfl rfl (Co rfl rfl rfl rfl rfl rfl (Co rfl rfl rfl rfl rfl rfl (Co rfl rfl rfl rfl rfl rfl (O1 (Au rfl rfl rfl) ?_))));refine G3 ?_;exact⟨_,rfl,_,_,a_ hw nl (fun _ _=>rfl),nl,.same rfl,rfl,rfl⟩
 |cons a l=>
  have hgt:decide ((0:Int)<Int.ofNat (a::l).length)=true:=decide_eq_true gr;refine G5 ?_;rw[hgt];refine G ?_;refine Bi rfl rfl rfl rfl rfl noR rfl rfl (Ag rfl) (Bi rfl rfl rfl rfl rfl noR rfl rfl (A1 (i:=0) elC (fun _=>rfl) rfl rfl rfl) ?_)
  refine Bi rfl rfl rfl rfl rfl noR rfl rfl (Ac ldC rfl rfl rfl) (Bi rfl rfl rfl rfl rfl noR rfl rfl (H5 (q:=[124,45]) okC rfl rfl) (O1 (A3 rfl rfl rfl) ?_));refine G3 ?_
  exact⟨_,rfl,_,_,a_ hw nl (fun _ _=>rfl),nl,.same rfl,(by unfold Nv;rw[List.getElem?_cons_zero];simp;rfl),rfl⟩
theorem f107(h σ):Cv 107 [.agg (eH h)] σ (.bool (!h.floating)):=by
 refine Aj Tryz.func107 rfl rfl fun hw hu0=>?_
 iterate 13 refine G ?_
 exact⟨_,rfl,_,_,a_ hw nl (fun _ _=>rfl),nl,.same rfl,rfl,rfl⟩
theorem f144{d r P mT σ}(hP:σ.get P=some (.cells (bkC d r mT)))(s):Cv 144 [.pr P 0,sV s] σ (.tup [.agg (eR (rlD d s)),.bool (rlB d s)]):=by
 refine Aj Tryz.func144 rfl rfl fun hw hu0=>?_
 refine G2 ?_;refine O1 (Bu ziC) ?_;refine G2 ?_;obtain⟨σ1,hσ1⟩:∃σ1,σ.new (.cells [.str [],.str [],nS,.bool false])=σ1:=⟨_,rfl⟩;rw[hσ1];have n1:nx σ1=nx σ+1:=gr;have g1:∀b,b<nx σ->σ1.get b=σ.get b:=gr;have r1:σ1.get (nx σ)=some (.cells [.str [],.str [],nS,.bool false]):=gr;have p1:σ1.get P=some (.cells (bkC d r mT)):=(g1 P (hw _ _ hP).1).trans hP;refine G5 ?_;refine O1 (lO p1) ?_;refine G ?_
 refine Ca (f126 (ofF d).1 s _ (by have:=(Yc d).len;omega)) ?_
 refine G2 ?_
 rcases L9 (l:=(ofF d).1.rules) (s:=s)with⟨hf,hro⟩|⟨n,rl,hf,hat,hro⟩
 ·rw[hf];refine G6 ?_;refine Ab rfl (fun h1=>?_) gr
  refine G3 ?_;refine O1 (sO (cs':=[.str [],.str [],nS,.bool false]) r1) ?_;refine G3 ?_
  exact⟨[.agg [.str [],.str [],nS,.bool false],_],Am (vs:=[.str [],.str [],nS,.bool false]) (ldC (t:=202)) rfl (by simp only[Sto.cells];grind) rfl (Ba rfl rfl),.tup [.agg (eR zRl),.bool false],σ,am_ hw ⟨gr,gr⟩,nl,.tup (.cons (.agg (.cons (.same rfl) (.cons (.same rfl) (.cons (.nils gr) (.cons (.same rfl) .nil))))) (.cons (.same rfl) .nil)),by unfold rlD rlB;rw[hro];rfl,rfl⟩
 ·rw[hf];have hnn:¬(Int.ofNat n<0):=gr;refine G6 ?_;refine Ab rfl (fun h1=>absurd (of_decide_eq_true h1) hnn) (fun h1=>?_)
  refine G7 ?_;refine O1 (lO p1) ?_;refine G ?_;refine O1 (A1 elC Qy rfl rfl hat) (O1 (Ac ldC rfl rfl (A6 (Qy rl) _)) (O1 (sO (cs':=eR rl) r1) ?_));refine G3 ?_
  exact⟨[.agg (eR rl),_],Am (vs:=eR rl) (ldC (t:=202)) rfl (by simp only[Sto.cells];grind) rfl (Ba rfl rfl),.tup [.agg (eR rl),.bool true],σ,am_ hw ⟨gr,gr⟩,nl,.same (by
    show(AV.unds (nx σ) (eR rl)&&(true&&true))=true
    rw[Vj];rfl),by unfold rlD rlB;rw[hro];rfl,rfl⟩
theorem f109{d r P mT σ}(hP:σ.get P=some (.cells (bkC d r mT)))(s ks):Cv 109 [.pr P 0,.agg [sV s,slV eT 2 ks]] σ (.bool (vrD d s)):=by
 refine Aj Tryz.func109 rfl rfl fun hw hu0=>?_
 refine G10 ?_;refine Ca (f144 hP s) ?_;refine G10 ?_;refine TAn 2 ?_ (fun hg=>?_) ?_
 rotate_left
 ·iterate 2 refine Gn hg ?_
  exact Ez
 refine G3 ?_;exact⟨_,rfl,_,_,a_ hw nl (fun _ _=>rfl),nl,.same rfl,rfl,rfl⟩
theorem f104{g}(hB:GrB g)(s σ):Cv 104 [sV s,.pv [Af g.sorts,slV eR 4 g.rules]] σ (.bool (!(g.sorts.any fun x=>decide (s=x)))):=by
 refine Aj Tryz.func104 rfl rfl fun hw hu0=>?_
 refine G9 ?_
 refine Ca (f15 g.sorts s _ (by have:=hB.s;omega)) ?_
 refine G4 ?_;exact⟨_,rfl,_,_,a_ hw nl (fun _ _=>rfl),nl,.same rfl,rfl,rfl⟩
def Io(ps:List Pt):List Str:=(ps.filter fun p=>decide (p.sort≠[])).map (·.sort)
def Ap6:List Str->Bool
 |[a,b]=>decide (a=b)
 |_=>false
def eqD(d:Db)(s:Str):Bool:=(rlB d s&& !(rlD d s).var)&&Ap6 (Io (rlD d s).parts)
theorem Ap7{ps:List Pt}{i}{p:Pt}(h:ps[i]? =some p):Io (ps.take (i+1))=if p.sort≠[]then Io (ps.take i)++[p.sort]else Io (ps.take i):=by
 have e:ps.take (i+1)=ps.take i++[p]:=by rw[List.take_add_one,h];rfl
 unfold Io
 grind
theorem As8{ps}:(Io ps).length<=ps.length:=by unfold Io;grind
theorem Ave{d s}:(rlD d s).parts.length<=200:=by
 unfold rlD;cases h:F4 (ofF d).1.rules s with
 |none=>exact aq_ _
 |some r=>
  have hm:r∈(ofF d).1.rules:=by
   rcases L9 (l:=(ofF d).1.rules) (s:=s)with⟨_,hro⟩|⟨n,rl,_,hat,hro⟩
   ·grind
   grind
  exact(Yc d).prt r hm
theorem f103{d r P mT σ}(hP:σ.get P=some (.cells (bkC d r mT)))(s):Cv 103 [.pr P 0,sV s] σ (.bool (eqD d s)):=by
 refine Aj Tryz.func103 rfl rfl fun hw hu0=>?_
 refine G8 ?_;refine Ca (f144 hP s) ?_;refine G3 ?_;refine Ho ziC ldC rfl (fun _=>rfl) rfl (A7 (Qy _)) rfl rfl ?_
 refine G8 ?_;refine TOr 2 ?_ (fun hg=>?_) ?_
 rotate_left
 ·iterate 2 refine Gn hg ?_
  exact Ez
 refine G ?_;refine Ab rfl ?_ ?_<;>intro h1
 ·have hf:eqD d s=false:=by
   unfold eqD
   grind
  refine G5 ?_
  exact⟨_,rfl,_,σ,a_ hw nl (fun _ _=>rfl),nl,.same rfl,(by rw[hf];rfl),rfl⟩
 ·have hbv:rlB d s=true/\(rlD d s).var=false:=gr
  have heq:eqD d s=Ap6 (Io (rlD d s).parts):=by unfold eqD;grind
  have hpl:=Ave (d:=d) (s:=s);obtain⟨ps,hps⟩:∃ps,(rlD d s).parts=ps:=⟨_,rfl⟩;rw[hps]at hpl heq;refine G9 ?_;refine O1 (Ac ldC rfl rfl (hps▸Z7 (rlD d s) _)) ?_;refine G4 ?_;refine Ci (fun q:Nat×AV=>[(7,q.2),(23,slV ePt 3 ps),(24,nV ps.length),(25,nV q.1)]) (fun q σ0=>q.1<=ps.length/\Own σ0 (nx σ) e1 1 (Io (ps.take q.1)) q.2/\nx σ<=nx σ0/\∀b,b<nx σ->σ0.get b=σ.get b) (fun q=>ps.length-q.1) (0,nS) SL ⟨aq_ _,.nil,nl,fun _ _=>rfl⟩ ?_
  rintro⟨i0,v0⟩ σ0 ⟨hi0,bf,n0,g0⟩;have hi0:i0<=ps.length:=hi0;have bf:Own σ0 (nx σ) e1 1 (Io (ps.take i0)) v0:=bf
  have hsl:(Io (ps.take i0)).length<=200:=by have:=As8 (ps:=ps.take i0);grind
  refine G5 ?_;refine Ab rfl ?_ ?_<;>intro h2
  ·have bc:i0<ps.length:=Int.ofNat_lt.1 (of_decide_eq_true h2);obtain⟨p,hp⟩:=Ar bc;have htk:=Ap7 hp;refine G5 ?_;refine O1 (A1 elC Jy rfl rfl hp) (O1 (Ac ldC rfl rfl (A6 (Jy p) _)) (Ho ziC ldC rfl (fun _=>rfl) rfl (A7 (Jy p)) rfl rfl ?_))
   refine G4 ?_;refine O1 (Ac ldC rfl rfl (Tt p)) (O1 (Ko (q:=[]) okC rfl rfl) ?_);refine G ?_;refine Ab rfl ?_ ?_<;>intro h3
   ·have cg:p.sort≠[]:=gr;rw[if_pos cg]at htk
    obtain⟨σ1,hap,n1,cn,g1⟩:=dn_ (enc:=e1) (sz:=1) (by':=16) (fun _=>rfl) n0 bf p.sort (by simp only[sizeLim];omega)
    refine G3 ?_;refine O1 (Ac ldC rfl rfl (Tt p)) (Cx (Ai elC byW rfl rfl rfl) (Dv (len:=1)) rfl rfl (O1 (Av elC rfl slC rfl rfl rfl (new:=e1 p.sort) rfl hap) ?_));refine G6 ?_
    refine⟨(i0+1,_),gr,SL,gr,gr,by omega,fun b hb=>by rw[g1 b Om (fun e=>by have:=(bf.adr_lt e).1;omega)];exact g0 b hb⟩
   ·have cg:p.sort=[]:=gr;rw[if_neg (fun q=>q cg)]at htk
    refine G5 ?_;refine⟨(i0+1,v0),gr,SL,gr,gr,n0,g0⟩
  ·have bj:ps.length<=i0:=bm_.1 (Int.not_lt.1 (fun q=>of_decide_eq_false h2 q))
   rw[at_ bj]at bf hsl;have hl0:=bf.lenA;refine G ?_;rw[heq]
   by_cases hg0:∃a b,Io ps=[a,b]
   ·obtain⟨a,b,hab⟩:=hg0;rw[hab]at bf hl0⊢;have hg3:decide (Int.ofNat [a,b].length=2)=true:=rfl
    obtain⟨aa,tl,_,_,rfl,hga⟩:=bf.sr (i:=0) (by simp)
    refine G ?_;refine X0 ?_;refine G ?_;refine DF (Bf slC rfl hl0.1 hl0.2) ?_;refine G3 ?_
    refine Xn (Br elC rfl rfl (by simp)) ?_
    refine Xn (Dg (enc:=e1) (fun _=>rfl) ldC rfl hga (show[a,b][0]? =some a from rfl) fun _=>rfl) ?_
    refine G ?_
    refine Xn (Br elC rfl rfl (by simp)) ?_
    refine Xn (Dg (enc:=e1) (fun _=>rfl) ldC rfl hga (show[a,b][1]? =some b from rfl) fun _=>rfl) ?_
    refine G4 ?_;refine⟨rfl,rfl,?_⟩;refine G ?_;exact⟨_,rfl,_,σ,am_ hw ⟨n0,g0⟩,nl,.same rfl,rfl,rfl⟩
   ·have hg3:decide (Int.ofNat (Io ps).length=2)=false:=decide_eq_false fun h=>hg0 (by
     have h:(Io ps).length=2:=ci_ h
     match hq:Io ps,h with
     |[a,b],_=>exact⟨a,b,rfl⟩)
    have htw:Ap6 (Io ps)=false:=by
     unfold Ap6
     grind
    rw[htw];refine G ?_;refine X0 ?_;refine G ?_;refine DF (Bf slC rfl hl0.1 hl0.2) (DF (H4 (q:=2) okC rfl rfl) (DF (Ag rfl) (Wx (w:=R1 hg3) (Wx (w:=R1 hg3) (Wx (w:=R1 hg3) (Wx (w:=R1 hg3) (Wx (w:=R1 hg3) ?_)))))));refine Wx (w:=R1 hg3) (Wx (w:=R1 hg3) (DF (Au rfl (R1 hg3) rfl) (DF (Gd rfl) (C1 ?_))));refine⟨rfl,rfl,?_⟩;refine Amj ?_;exact⟨_,rfl,_,σ,am_ hw ⟨n0,g0⟩,nl,.same rfl,rfl,rfl⟩
theorem f102{d r P mT σ}(hP:σ.get P=some (.cells (bkC d r mT)))(s):Cv 102 [sV s,.pv [.pr P 0]] σ (.bool (!eqD d s)):=by
 refine Aj Tryz.func102 rfl rfl fun hw hu0=>?_
 refine G8 ?_;refine Ca (f103 hP s) ?_;refine G4 ?_;exact⟨_,rfl,_,_,a_ hw nl (fun _ _=>rfl),nl,.same rfl,rfl,rfl⟩
def O6(l:List Str):Str:=l.flatMap fun s=>s++[32]
def Acx(l:List Str):Prop:=l.length<=60/\∀s∈l,s.length<=140737488355328/\(32:UInt8)∉s
theorem As9:∀(a b x y:Str),(32:UInt8)∉a->(32:UInt8)∉b->a++32::x=b++32::y->a=b/\x=y
 |[],[],x,y,_,_,h=>⟨rfl,(List.cons.inj h).2⟩
 |[],c::b,x,y,_,hb,h=>gr
 |c::a,[],x,y,ha,_,h=>gr
 |c::a,e::b,x,y,ha,hb,h=>by
  obtain⟨h1,h2⟩:=List.cons.inj h;obtain⟨q1,q2⟩:=As9 a b x y (fun q=>ha (aj_ _ q)) (fun q=>hb (aj_ _ q)) h2
  grind
theorem Aj4:∀(l m:List Str),(∀s∈l,(32:UInt8)∉s)->(∀s∈m,(32:UInt8)∉s)->O6 l=O6 m->l=m
 |[],[],_,_,_=>rfl
 |[],b::m,_,_,h=>by simp[O6]at h
 |a::l,[],_,_,h=>by simp[O6]at h
 |a::l,b::m,hl,hm,h=>by
  have h:(a++[32])++O6 l=(b++[32])++O6 m:=h;rw[ca_,ca_]at h;obtain⟨q1,q2⟩:=As9 a b _ _ (hl a (ap_ ..)) (hm b (ap_ ..)) h;rw[q1,Aj4 l m (fun s hs=>hl s (aj_ _ hs)) (fun s hs=>hm s (aj_ _ hs)) q2]
theorem Ap8{l:List Str}{i s}(h:l[i]? =some s):O6 (l.take (i+1))=O6 (l.take i)++(s++[32]):=by
 rw[List.take_add_one,h];unfold O6
 simp
theorem Aj5:∀(l:List Str),(∀s∈l,s.length<=140737488355328)->(O6 l).length<=l.length*140737488355329
 |[],_=>by simp[O6]
 |a::l,h=>by
  have h1:=h a (ap_ ..);have h2:=Aj5 l fun s hs=>h s (aj_ _ hs)
  have e:O6 (a::l)=(a++[32])++O6 l:=rfl
  grind
def Ap9(x:Ax×Int):AV:=.pv (eT x.1++[iV x.2])
structure BkS (d:Db)(r:Rs)(P mT:Nat)(σ:Sto):Prop where
 ob:σ.get P=some (.cells (bkC d r mT))
 mp:∃M:SM (Ax×Int),B8 Ap9 σ mT M/\∀k x,M.get k=some x->∃l,O6 l=k/\Acx l/\x=B1 d l
theorem BkS.ne{d r P mT σ}(h:BkS d r P mT σ):P≠mT:=fun e=>by
 obtain⟨M,⟨v,hM⟩,_⟩:=h.mp;have:=h.ob
 grind
theorem BkS.of_get{d r P mT σ τ}(h:BkS d r P mT σ)(h1:τ.get P=σ.get P)(h2:τ.get mT=σ.get mT):BkS d r P mT τ:=by
 obtain⟨M,hM,hk⟩:=h.mp;exact⟨h1.trans h.ob,M,hM.of_get h2,hk⟩
section
variable {E:Env}{ρ:Ad}{σ:Sto}{Rr:Rec}{t ty:Nat}{x:Operand}
def Aj6(P:Program)(t:Nat):Bool:=match Ay P t with|some ti=>(match ti.desc with|.pointer _=>true|_=>false)|none=>false
theorem Awk(h:Aj6 E.P t=true):∃ti e,Ay E.P t=some ti/\ti.desc=.pointer e:=by
 unfold Aj6 at h
 grind
theorem Avf{cs}(hp:Aj6 E.P t=true)(hx:Ah E ρ x=some (.pv cs)):As E Rr (.binOp .eql t x (.const (.pointer none)) ty) ρ σ (.bool false) σ:=fun tm h=>by
 obtain⟨ti,e,h1,h2⟩:=Awk hp
 have hc:(Cm x||Cm (.const (.pointer none)))=true:=by rw[Bool.or_comm];rfl
 have hy:opd E tm (.const (.pointer none))=.nil (.pointer none):=rfl;simp only[opA,Aw,h.opd hx,hy,hc,Wb,h1,Ir,cond_true,Ad7,Q6,Pm,h2,cond_false,Bool.true_or,Sx]
theorem Avg(hp:Aj6 E.P t=true)(hx:Ah E ρ x=some (.nil (.pointer none))):As E Rr (.binOp .eql t x (.const (.pointer none)) ty) ρ σ (.bool true) σ:=fun tm h=>by
 obtain⟨ti,e,h1,h2⟩:=Awk hp
 have hc:(Cm x||Cm (.const (.pointer none)))=true:=by rw[Bool.or_comm];rfl
 have hy:opd E tm (.const (.pointer none))=.nil (.pointer none):=rfl;simp only[opA,Aw,h.opd hx,hy,hc,Wb,h1,Ir,cond_true,Ad7,Q6,h2,Sx]
end
theorem Awl:Aj6 Ew.P 298=true:=Kr
theorem Axw{te n l}(_:te.size=n)(h:te.isAgg=false):Je te (.pv l)=true:=by unfold Je;rw[h];rfl
theorem Anw{ρ σ Rr t sz r x y agg z α enc m s}{o:Option α}(h9:Fs Ew.P 9=true)(hi:mpI Ew.P t=some (9,z,sz,agg))(hx:Ah Ew ρ x=some (.mp r))(hm:B8 enc σ r m)(hy:Ah Ew ρ y=some (sV s))(ho:m.get s=o):
  As Ew Rr (.lookup t x y false) ρ σ ((o.map enc).getD z) σ:=by subst ho;exact W4 h9 hi hx hm hy
theorem f108{d r P mT σ}(hD:DbB d)(hvf:d.vars.length+d.frames.length<1000000)(h:BkS d r P mT σ){l}(hok:Acx l):Al Ew 108 [.pr P 0,Af l] σ fun v σ'=>v=.tup [En (B1 d l).1,iV (B1 d l).2]/\BkS d r P mT σ'/\PkF mT σ σ':=by
 refine Aj Tryz.func108 rfl rfl fun hw hu0=>?_
 refine G2 ?_;refine O1 (Bu ziC) ?_;refine G2 ?_;obtain⟨σ1,hσ1⟩:∃σ1,σ.new (.cells [.str [],nS])=σ1:=⟨_,rfl⟩;rw[hσ1];have n1:nx σ1=nx σ+1:=gr;have g1:∀b,b<nx σ->σ1.get b=σ.get b:=gr;have r1:σ1.get (nx σ)=some (.cells [.str [],nS]):=gr;obtain⟨M,⟨ver,hM⟩,hMI⟩:=h.mp;have hPl:=(hw _ _ h.ob).1;have hml:=(hw _ _ hM).1;have hPm:=h.ne;have p1:=(g1 P hPl).trans h.ob;have m1:=(g1 mT hml).trans hM;refine G12 ?_;refine Bz l.length (fun i0=>[(0,.pr P 0),(1,Af l),(4,.pr (nx σ) 0),(6,sV (O6 (l.take i0))),(10,Af l),(11,nV l.length),(12,nV i0)]) (fun i0 σ0=>σ0=σ1) SL rfl ?_
 rintro i0 σ0 hi0 rfl;refine G5 ?_;refine Ab rfl ?_ ?_<;>intro h1
 ·have bc:i0<l.length:=Int.ofNat_lt.1 (of_decide_eq_true h1);obtain⟨a,ha⟩:=Ar bc;have hal:=(hok.2 a (ab_ ha)).1;have hkl:=Aj5 (l.take i0) fun s hs=>(hok.2 s (cm_ hs)).1
  rw[cb_,du_ hi0]at hkl;have hl60:=hok.1;refine G12 ?_
  refine O1 (Amq (b:=[32]) okC rfl rfl (by show a.length+1<=9223372036854775807;omega)) ?_
  refine O1 (Amq okC rfl rfl (by show(O6 (l.take i0)).length+(a++[32]).length<=9223372036854775807;grind)) ?_
  refine G6 ?_
  refine⟨bc,⟨rfl,rfl,rfl,by rw[Ap8 ha];rfl,rfl,rfl,rfl,trivial⟩,rfl⟩
 ·have bj:l.length<=i0:=bm_.1 (Int.not_lt.1 (fun q=>of_decide_eq_false h1 q))
  rw[at_ bj];obtain⟨T,e,hTe⟩:∃T e,B1 d l=(T,e):=⟨_,_,rfl⟩
  obtain⟨lk,kk,hT⟩:∃lk kk,T=.node lk kk:=by cases T;grind
  have hek:eT T=[sV lk,slV eT 2 kk]:=by rw[hT];exact Cl lk kk
  have hen:Ap9 (T,e)=.pv [sV lk,slV eT 2 kk,iV e]:=by unfold Ap9;rw[hek];rfl
  have dk:AV.tup [En (B1 d l).1,iV (B1 d l).2]=.tup [.agg [sV lk,slV eT 2 kk],iV e]:=by rw[hTe];show AV.tup [.agg (eT T),iV e]=_;rw[hek]
  have hu3:∀N,AV.unds N [sV lk,slV eT 2 kk,iV e]=true:=fun N=>by
   have h1:=Es (N:=N) T;rw[hek]at h1;exact Uz (l:=[sV lk,slV eT 2 kk]) (m:=[iV e]) h1 rfl
  have hun:∀N,AV.und N (.tup [.agg [sV lk,slV eT 2 kk],iV e])=true:=fun N=>by
   have:=Es (N:=N) T;rw[hek]at this
   show(AV.unds N [sV lk,slV eT 2 kk]&&(true&&true))=true
   rw[this];rfl
  cases hq:M.get (O6 l)with
  |some x=>
   obtain⟨l2,hk2,ib,hx2⟩:=hMI _ _ hq;have hl2:l2=l:=Aj4 l2 l (fun s hs=>(ib.2 s hs).2) (fun s hs=>(hok.2 s hs).2) hk2
   rw[hl2,hTe]at hx2;subst hx2;refine G7 ?_;refine O1 (lO p1) ?_;refine G ?_;refine O1 (Anw (o:=some (T,e)) st9 Am0 rfl ⟨ver,m1⟩ rfl hq) ?_;rw[show(Option.map Ap9 (some (T,e))).getD (.nil (.pointer none))=.pv [sV lk,slV eT 2 kk,iV e]from hen]
   refine G6 ?_;refine O1 (Avf Awl rfl) ?_;refine G ?_;refine Ab rfl gr (fun h2=>?_)
   refine G2 ?_;refine L4 (Rr:=Dk []) (anns:=[⟨.pure,0,0⟩,⟨.pure,0,0⟩,⟨.pure,0,0⟩,⟨.read,0,0⟩,⟨.pure,0,1⟩,⟨.pure,0,1⟩,⟨.pure,0,1⟩,⟨.read,0,1⟩,⟨.eff,0,1⟩,⟨.pure,1,1⟩]) Di (Bw (l:=[]) trivial) Kr ?_;refine G8 ?_;refine DT (sO (cs':=[sV lk,slV eT 2 kk]) r1) ?_;refine G2 ?_;refine⟨⟨trivial,trivial,trivial,(fun s hs=>⟨_,Ac (ldC (t:=39)) rfl rfl rfl⟩),trivial,trivial,trivial,(fun s hs=>⟨_,Ac (ldC (t:=32)) rfl rfl rfl⟩),trivial,trivial,trivial⟩,?_⟩
   refine G ?_
   exact⟨[.agg [sV lk,slV eT 2 kk],iV e],Am (vs:=[sV lk,slV eT 2 kk]) (ldC (t:=39)) rfl (by simp only[Sto.cells];grind) rfl (Ba rfl rfl),_,σ,am_ hw ⟨gr,gr⟩,nl,.same (hun _),dk.symm,h,PkF.refl⟩
  |none=>
   refine G7 ?_;refine O1 (lO p1) ?_;refine G ?_;refine O1 (Anw (o:=none) st9 Am0 rfl ⟨ver,m1⟩ rfl hq) ?_;rw[show(Option.map Ap9 none).getD (.nil (.pointer none))=.nil (.pointer none)from rfl]
   refine G6 ?_;refine O1 (Avg Awl rfl) ?_;refine G ?_;refine Ab rfl (fun h2=>?_) gr
   refine G3 ?_;refine O1 (Q0 (n:=nx σ+1) (cs:=[.str [],nS,.int .i64 0]) ldC rfl rfl n1) ?_;refine G2 ?_;obtain⟨σ2,hσ2⟩:∃σ2,σ0.new (.cells [.str [],nS,.int .i64 0])=σ2:=⟨_,rfl⟩;rw[hσ2];have n2:nx σ2=nx σ+2:=gr;have g2:∀b,b<nx σ+1->σ2.get b=σ0.get b:=gr;have x2:σ2.get (nx σ+1)=some (.cells [.str [],nS,.int .i64 0]):=gr;have p2:=(g2 P Om).trans p1
   have h26:∀σ,Cv 26 [dbV d,Af l] σ (.tup [.agg [sV lk,slV eT 2 kk],iV e]):=fun σ=>by
    have:=f26 d l σ hD hvf (by have:=hok.1;omega)
    grind
   refine G7 ?_;refine O1 (lO p2) ?_;refine G ?_;refine Ca (h26 _) ?_;refine G5 ?_;refine O1 (sO (cs':=[sV lk,slV eT 2 kk,.int .i64 0]) x2) ?_;refine G2 ?_
   refine O1 (sO (cs:=[sV lk,slV eT 2 kk,.int .i64 0]) (cs':=[sV lk,slV eT 2 kk,iV e]) (by rw[aa_,if_pos rfl])) ?_
   refine G ?_;obtain⟨σ4,hσ4⟩:∃σ4,(σ2.set (nx σ+1) (.cells [sV lk,slV eT 2 kk,.int .i64 0])).set (nx σ+1) (.cells [sV lk,slV eT 2 kk,iV e])=σ4:=⟨_,rfl⟩;rw[hσ4];have n4:nx σ4=nx σ+2:=gr;have g4:∀b,b<nx σ+1->σ4.get b=σ0.get b:=gr;have x4:σ4.get (nx σ+1)=some (.cells [sV lk,slV eT 2 kk,iV e]):=gr;obtain⟨σ5,hσ5⟩:∃σ5,σ4.kill (nx σ+1)=σ5:=⟨_,rfl⟩;have n5:nx σ5=nx σ+2:=gr;have g5:∀b,b<nx σ+1->σ5.get b=σ0.get b:=gr;have p5:=(g5 P Om).trans p1;have m5:=(g5 mT Om).trans m1;have r5:=(g5 (nx σ) Om).trans r1;refine Bo fun hw8=>?_
   refine Aby σ5 [(0,.pr P 0),(4,.pr (nx σ) 0),(6,sV (O6 l)),(9,.pv [sV lk,slV eT 2 kk,iV e])] (by rw[←hσ5];exact .kill hw8 _) Om ⟨⟨_,rfl,.same (Jr Om)⟩,⟨_,rfl,.same (Jr Om)⟩,⟨_,rfl,.same rfl⟩,⟨_,rfl,.pr x4 gr (dj_ (hu3 _))⟩,trivial⟩ ?_
   refine G5 ?_;refine O1 (lO p5) ?_;refine G2 ?_
   refine O1 (Gh (enc:=Ap9) (v:=(T,e)) st9 Am0 rfl m5 rfl (by rw[hen];rfl) (fun te k1 k2=>by rw[hen];exact Axw k1 k2)) ?_
   refine G ?_;have hr6:∀o,(σ5.set mT o).get (nx σ)=some (.cells [.str [],nS]):=gr;refine G ?_;refine L4 (Rr:=Dk []) (anns:=[⟨.pure,0,0⟩,⟨.pure,0,0⟩,⟨.pure,0,0⟩,⟨.read,0,0⟩,⟨.pure,0,1⟩,⟨.pure,0,1⟩,⟨.pure,0,1⟩,⟨.read,0,1⟩,⟨.eff,0,1⟩,⟨.pure,1,1⟩]) Di (Bw (l:=[]) trivial) Kr ?_;refine G8 ?_;refine DT (sO (cs':=[sV lk,slV eT 2 kk]) (hr6 _)) ?_;refine G2 ?_;refine⟨⟨trivial,trivial,trivial,(fun s hs=>⟨_,Ac (ldC (t:=39)) rfl rfl rfl⟩),trivial,trivial,trivial,(fun s hs=>⟨_,Ac (ldC (t:=32)) rfl rfl rfl⟩),trivial,trivial,trivial⟩,?_⟩
   refine Bo fun hw9=>?_
   refine G ?_
   refine⟨[.agg [sV lk,slV eT 2 kk],iV e],Am (vs:=[sV lk,slV eT 2 kk]) (ldC (t:=39)) rfl (by simp only[Sto.cells];grind) rfl (Ba rfl rfl),_,_,a_ hw9 nl (fun _ _=>rfl),gr,.same (hun _),dk.symm,⟨?_,M.put (O6 l) (T,e),⟨_,by rw[aa_,if_neg Om,aa_,if_pos rfl]⟩,fun k x hx=>?_⟩,gr,gr⟩
   ·grind
   ·rw[ch_]at hx
    grind
def Kh(d:Db)(r:Rs):Int:=if(ofF d).2≠0 then(ofF d).2 else if 40<r.equal.length∨40<r.bound.length then 4 else
 if((r.equal.any fun s=> !eqD d s)||(r.bound.any fun s=> !((ofF d).1.sorts.any fun x=>decide (s=x))))=true then 1 else 0
theorem f51{d}(r σ)(hD:DbB d)(hvf:d.vars.length+d.frames.length<1000000):Al Ew 51 [dbV d,.agg (eRs r)] σ fun v σ'=>(Kh d r≠0/\v=.tup [.nil (.pointer none),iV (Kh d r)]/\σ'=σ)∨
  (Kh d r=0/\∃P mT,v=.tup [.pr P 0,iV 0]/\BkS d r P mT σ'/\nx σ<=P/\nx σ<=mT/\mT<nx σ'/\nx σ<=nx σ'/\∀b,b<nx σ->σ'.get b=σ.get b):=by
 refine Aj Tryz.func51 rfl rfl fun hw hu0=>?_
 refine G10 ?_;refine Ca (f66 d _ hD hvf) ?_;refine G12 ?_;refine Ab rfl ?_ ?_<;>intro h1
 ·have he:(ofF d).2≠0:=fun e=>by rw[e]at h1;simp at h1
  have hr:Kh d r=(ofF d).2:=by unfold Kh;rw[if_pos he]
  refine G7 ?_
  exact⟨_,rfl,_,σ,a_ hw nl (fun _ _=>rfl),nl,.same rfl,.inl ⟨by rw[hr];exact he,by rw[hr];rfl,rfl⟩⟩
 ·have he:(ofF d).2=0:=by simpa using h1
  refine G3 ?_;refine O1 (Gx Am0) ?_;refine G5 ?_
  refine O1 (Q0 (n:=nx σ+1) (cs:=bkC d r (nx σ)) ldC rfl rfl (by rw[Ao])) ?_
  refine G2 ?_;obtain⟨σ1,hσ1⟩:∃σ1,(σ.new (.map 9 [] 0)).new (.cells (bkC d r (nx σ)))=σ1:=⟨_,rfl⟩;rw[hσ1]
  have n1:nx σ1=nx σ+2:=by rw[←hσ1,Ao,Ao]
  have g1:∀b,b<nx σ->σ1.get b=σ.get b:=fun b hb=>by rw[←hσ1,ag_,Ao,if_neg Om,ag_,if_neg Om]
  have hB:BkS d r (nx σ+1) (nx σ) σ1:=⟨by rw[←hσ1,ag_,Ao,if_pos rfl],[],⟨0,by rw[←hσ1,ag_,Ao,if_neg Om,ag_,if_pos rfl];rfl⟩,fun k x h=>by cases h⟩
  refine G8 ?_;refine TOr 4 ?_ (fun hg=>?_) ?_
  rotate_left
  ·iterate 4 refine Gn hg ?_
   exact Ez
  refine G ?_;refine Ab rfl ?_ ?_<;>intro h2
  ·have hl:40<r.equal.length∨40<r.bound.length:=by
    rw[bk_]at h2
    rcases h2 with h2|h2
    ·exact .inl (Int.ofNat_lt.1 (of_decide_eq_true h2))
    ·exact .inr (Int.ofNat_lt.1 (of_decide_eq_true h2))
   have hr:Kh d r=4:=by unfold Kh;rw[if_neg (fun q=>q he),if_pos hl]
   refine G6 ?_
   exact⟨_,rfl,_,σ,am_ hw ⟨by omega,g1⟩,nl,.same rfl,.inl ⟨by rw[hr];decide,by rw[hr];rfl,rfl⟩⟩
  ·have hl:¬(40<r.equal.length∨40<r.bound.length):=by
    rw[bv_]at h2
    rintro(q|q)
    ·exact of_decide_eq_false h2.1 (Int.ofNat_lt.2 q)
    ·exact of_decide_eq_false h2.2 (Int.ofNat_lt.2 q)
   refine G7 ?_;refine Ca (f46 (fun s=> !eqD d s) r.equal 102 [.pv [.pr (nx σ+1) 0]] σ1 Om (fun a _=>f102 hB.ob a)) ?_
   refine G ?_;refine TOr 4 ?_ (fun hg=>?_) ?_
   rotate_left
   ·iterate 3 refine Gn hg ?_
    refine Bh rfl rfl rfl (by rw[hg];rfl) rfl rfl rfl rfl (f46 (fun s=> !((ofF d).1.sorts.any fun x=>decide (s=x))) r.bound 104 [.pv [Af (ofF d).1.sorts,slV eR 4 (ofF d).1.rules]] σ1 Om (fun a _=>f104 (Asj d) a σ1)) ?_
    exact Ez
   refine G ?_;refine Ab rfl ?_ ?_<;>intro h3
   ·have hr:Kh d r=1:=by unfold Kh;rw[if_neg (fun q=>q he),if_neg hl,if_pos h3]
    refine G6 ?_
    exact⟨_,rfl,_,σ,am_ hw ⟨by omega,g1⟩,nl,.same rfl,.inl ⟨by rw[hr];decide,by rw[hr];rfl,rfl⟩⟩
   ·have hr:Kh d r=0:=by unfold Kh;rw[if_neg (fun q=>q he),if_neg hl,if_neg (by rw[h3];decide)]
    refine G7 ?_;refine Bo fun hw9=>?_
    refine G ?_
    exact⟨_,rfl,_,_,a_ hw9 nl (fun _ _=>rfl),by omega,.same (by
     show(Nat.blt (nx σ+1) (nx σ1)&&(true&&true))=true
     rw[Ce Om];rfl),.inr ⟨hr,_,_,rfl,hB,by omega,nl,by omega,by omega,g1⟩⟩
mutual
def Sh:Ax->List Ax
 |.node l ks=>.node l ks::Vu ks
def Vu:List Ax->List Ax
 |[]=>[]
 |t::r=>Sh t++Vu r
end
structure Ata (Ls:List RF)(L:RF)(mT:Nat){α:Type}(I:α->(Nat->Prop)->Sto->Prop)(J:XE->Sto->Prop)(st:α->Ax->Option α):Prop where
 ext:∀a F τ τ',I a F τ->nx τ<=nx τ'->(∀b,b<nx τ->τ'.get b=τ.get b)->I a F τ'
 y:∀a F t τ,I a F τ->YX Ew Ls L [En t] τ fun x τ'=>match st a t with
  |some a'=>x=.normal/\∃F',I a' F' τ'/\Con mT mT F τ F' τ'
  |none=>x≠.normal/\J x τ'
def RNd{α:Type}(mT:Nat)(I:α->(Nat->Prop)->Sto->Prop)(J:XE->Sto->Prop)(st:α->Ax->Option α)(ns:List Ax)(a:α)(F:Nat->Prop)(σ:Sto)(σ':Sto):Option Bool->Prop
 |some true=>∃a' F',foM st ns a=some a'/\I a' F' σ'/\Con mT mT F σ F' σ'
 |some false=>foM st ns a=none/\nx σ<=nx σ'/\∃x,x≠.normal/\J x σ'
 |none=>False
def Ye(aY aF:Nat):AV:=.fn (.func 111) [] [.pv [.yl aY],.pr aF 0]
def Awm(t:Ax):AV:=.fn (.func 110) [] [.pv (eT t)]
theorem f58(t σ):Cv 58 [En t] σ (Awm t):=by
 refine Aj Tryz.func58 rfl rfl fun hw hu0=>?_
 refine G11 ?_
 exact⟨_,rfl,_,_,a_ hw nl (fun _ _=>rfl),nl,.same (by
  show(true&&((AV.unds (nx σ) (eT t))&&true))=true
  rw[Es];rfl),rfl,rfl⟩
theorem f111n{Ls L}(hL:L∈Ls){mT aF α I J st}(hC:Ata Ls L mT I J st)(hne:aF≠mT){l ks}(hkl:ks.length<=100000)
  (ih:∀k∈ks,∀(acc:α) (F:Nat->Prop) (σ:Sto),I acc F σ->¬F aF->aF<nx σ->σ.get aF=some (.cells [Ye L.aY aF])->Hl Ew Ls 111 [En k,.pv [.yl L.aY],.pr aF 0] σ fun v σ'=>∃b,v=.bool b/\RNd mT I J st (Sh k) acc F σ σ' (some b))
  (acc F σ)(hI:I acc F σ)(hfF:¬F aF)(hlt:aF<nx σ)(hf:σ.get aF=some (.cells [Ye L.aY aF])):Hl Ew Ls 111 [En (.node l ks),.pv [.yl L.aY],.pr aF 0] σ fun v σ'=>∃b,v=.bool b/\RNd mT I J st (Sh (.node l ks)) acc F σ σ' (some b):=by
 have hIb:I acc F σ.bump:=hC.ext _ _ _ _ hI gr fun _ _=>Fe
 rw[Cg];refine Mo Tryz.func111 (Ke _ _ Tryz.func111) rfl rfl fun hw hu0=>?_
 refine Cf ?_;refine Dy fun df=>B7 ?_
 refine Jv ldC rfl rfl rfl (OA rfl (Dd ?_));refine Cf ?_;refine Cf ?_;refine Er ?_;refine Gm 2 fun df=>?_
 iterate  3 refine G ?_
 refine Lg hL (fun _ _=>rfl) rfl rfl rfl rfl (Cg l ks▸hC.y acc F (.node l ks) σ.bump hIb) fun x σ2 hp hn2=>?_
 refine TOp 1 ?_
 iterate  3 refine G ?_
 rw[Bm]at hn2
 have hfo:foM st (Sh (.node l ks)) acc=match st acc (.node l ks)with|none=>none|some a'=>foM st (Vu ks) a':=by rw[Sh];rfl
 cases hst:st acc (.node l ks)with
 |none=>
  rw[hst]at hp hfo;obtain⟨hx,hJ⟩:=hp
  have hgo:Iu x=false:=by cases x<;>first|exact absurd rfl hx|rfl
  rw[hgo];refine A0 rfl (fun h1=>?_) gr
  iterate  4 refine G ?_
  refine Gi fun hw9=>?_
  refine G ?_
  exact⟨_,rfl,_,_,a_ hw9 nl (fun _ _=>rfl),by omega,.same rfl,false,rfl,hfo,by omega,x,hx,hJ⟩
 |some acc1=>
  rw[hst]at hp hfo;obtain⟨rfl,F1,hI1,hc1⟩:=hp;have hc1:Con mT mT F σ F1 σ2:=Con.trans (F':=F) (.of gr fun _ _ _ _=>Fe) hc1
  have hf1:¬F1 aF:=fun h=>by
   rcases hc1.f aF h with q|q
   ·exact hfF q
   ·omega
  have hg1:σ2.get aF=some (.cells [Ye L.aY aF]):=(hc1.g aF hlt hfF hne hne).trans hf
  refine A0 rfl (fun h1=>by cases h1) (fun h1=>?_)
  iterate  10 refine G ?_
  refine Hz (fun q:Nat×α=>[(2,.pr aF 0),(12,slV eT 2 ks),(13,nV ks.length),(14,nV q.1)]) (fun q σ0=>q.1<=ks.length/\∃F0,I q.2 F0 σ0/\Con mT mT F σ F0 σ0/\nx σ+1<=nx σ0/\foM st (Vu (ks.drop q.1)) q.2=foM st (Vu ks) acc1) (fun q=>ks.length-q.1) (0,acc1) SL ⟨aq_ _,F1,hI1,hc1,by omega,rfl⟩ ?_
  rintro⟨i0,a0⟩ σ0 ⟨hi0,F0,hI0,hc0,n0,bu⟩;have hi0:i0<=ks.length:=hi0;have hI0:I a0 F0 σ0:=hI0;have bu:foM st (Vu (ks.drop i0)) a0=foM st (Vu ks) acc1:=bu
  have hf0:¬F0 aF:=fun h=>by
   rcases hc0.f aF h with q|q
   ·exact hfF q
   ·omega
  have hg0:σ0.get aF=some (.cells [Ye L.aY aF]):=(hc0.g aF hlt hfF hne hne).trans hf
  iterate  5 refine G ?_
  refine A0 rfl ?_ ?_<;>intro h2
  ·have bc:i0<ks.length:=Int.ofNat_lt.1 (of_decide_eq_true h2);obtain⟨k,hk⟩:=Ar bc;have hkm:=ab_ hk;rw[A4 hk,Vu,Ahi]at bu
   obtain⟨lk,kk,hT⟩:∃lk kk,k=.node lk kk:=by cases k;grind
   have hek:eT k=[sV lk,slV eT 2 kk]:=by rw[hT];exact Cl lk kk
   have htv:En k=.agg [sV lk,slV eT 2 kk]:=by rw[hT];exact Cg lk kk
   iterate  5 refine G ?_
   refine O1 (A1 elC Dh rfl rfl hk) (O1 (Ac ldC rfl rfl (show Cz 2 true (eT k++_)=some (.agg [sV lk,slV eT 2 kk])from by rw[←hek];exact A6 (Dh _) _)) ?_)
   refine Mp ziC ldC rfl (fun _=>rfl) rfl rfl rfl ?_
   refine Dd ?_;refine Cf ?_;refine Er ?_;refine Gm 2 fun df=>?_
   refine O1 (lO hg0) ?_
   iterate  2 refine G ?_
   refine L5 (fun _ _=>rfl) rfl rfl rfl rfl gr (ih k hkm a0 F0 σ0 hI0 hf0 Om hg0) fun u3 σ3 hp3 hn3=>?_
   obtain⟨b3,rfl,hR3⟩:=hp3;refine TOp 1 ?_
   iterate  3 refine G ?_
   cases b3 with
   |false=>
    obtain⟨hfn,_,hx3⟩:=hR3;rw[hfn]at bu;refine A0 rfl (fun h3=>?_) gr
    iterate  4 refine G ?_
    refine Gi fun hw9=>?_
    refine G ?_
    exact⟨_,rfl,_,_,a_ hw9 nl (fun _ _=>rfl),by omega,.same rfl,false,rfl,gr,by omega,hx3⟩
   |true=>
    obtain⟨a3,F3,hfs,hI3,hc3⟩:=hR3;rw[hfs]at bu;refine A0 rfl gr (fun h3=>?_)
    iterate  5 refine G ?_
    exact⟨(i0+1,a3),gr,SL,gr,F3,hI3,hc0.trans hc3,by omega,bu⟩
  ·have bj:ks.length<=i0:=bm_.1 (Int.not_lt.1 (fun q=>of_decide_eq_false h2 q))
   rw[ah_ bj]at bu;have bu:some a0=foM st (Vu ks) acc1:=bu
   iterate  5 refine G ?_
   refine Gi fun hw9=>?_
   refine G ?_
   exact⟨_,rfl,_,_,a_ hw9 nl (fun _ _=>rfl),by omega,.same rfl,true,rfl,a0,F0,gr,hI0,hc0⟩
theorem f111{Ls L}(hL:L∈Ls){mT aF α I J st}(hC:Ata Ls L mT I J st)(hne:aF≠mT){t}(ht:KB t):
  ∀(acc:α) (F:Nat->Prop) (σ:Sto),I acc F σ->¬F aF->aF<nx σ->σ.get aF=some (.cells [Ye L.aY aF])->Hl Ew Ls 111 [En t,.pv [.yl L.aY],.pr aF 0] σ fun v σ'=>∃b,v=.bool b/\RNd mT I J st (Sh t) acc F σ σ' (some b):=by
 induction ht with
 |node hl _ ih=>exact f111n hL hC hne hl ih
theorem f110{Ls L}(hL:L∈Ls){mT α I J st}(hC:Ata Ls L mT I J st){t}(ht:KB t)(acc:α)(F σ)(hI:I acc F σ)(hF:∀b,F b->b<nx σ)(hm:mT<nx σ):
  Hl Ew Ls 110 (.yl L.aY::[.pv (eT t)]) σ fun _ σ'=>match foM st (Sh t) acc with
   |some a'=>∃F',I a' F' σ'/\Con mT mT F σ F' σ'
   |none=>nx σ<=nx σ'/\∃x,x≠.normal/\J x σ':=by
 obtain⟨σ2,hσ2⟩:∃σ2,(σ.bump.new (.cells [.nil .nilFunc])).set (nx σ+1) (.cells [Ye L.aY (nx σ+1)])=σ2:=⟨_,rfl⟩;have n2:nx σ2=nx σ+2:=gr;have g2:∀b,b<nx σ->σ2.get b=σ.get b:=gr;have hf2:σ2.get (nx σ+1)=some (.cells [Ye L.aY (nx σ+1)]):=gr;have hI2:I acc F σ2:=hC.ext _ _ _ _ hI Om fun b hb=>g2 b hb
 refine Mo Tryz.func110 (Ke _ _ Tryz.func110) rfl rfl fun hw hu0=>?_
 iterate  6 refine G ?_
 refine O1 (Bj (n:=nx σ+1) ziC (Bm σ)) ?_
 iterate  4 refine G ?_
 refine O1 (sO (cs:=[.nil .nilFunc]) (cs':=[Ye L.aY (nx σ+1)]) (by rw[ag_,if_pos (Bm σ).symm])) ?_
 refine G ?_;rw[hσ2];refine Oo ?_;refine Er ?_;refine Gm 2 fun df=>?_
 refine O1 (lO hf2) (O1 (Ac ldC rfl rfl (show Cz 2 true (eT t)=some (En t)from by have:=A6 (Dh t) [];rwa[bh_]at this)) ?_)
 refine G ?_;refine L5 (fun _ _=>rfl) rfl rfl rfl rfl rfl (f111 (aF:=nx σ+1) hL hC Om ht acc F σ2 hI2 gr Om hf2) fun u2 σ3 hp hn3=>?_
 obtain⟨b,rfl,hR⟩:=hp;refine G ?_;intro hw9
 refine⟨[],rfl,_,_,a_ hw9 nl (fun _ _=>rfl),by omega,.same rfl,?_⟩
 cases b with
 |false=>
  obtain⟨h1,h2,h3⟩:=hR;rw[h1]
  exact⟨by omega,h3⟩
 |true=>
  obtain⟨a',F',h1,h2,h3⟩:=hR;rw[h1];exact⟨F',h2,(Con.of Om fun b hb _ _=>g2 b hb).trans h3⟩
def Mb:Ax->Str
 |.node l _=>l
def Hk(t:Ax)(s:Str):Bool:=(Sh t).any fun n=>decide (Mb n=s)
def Afr(s:Str)(_:Unit)(n:Ax):Option Unit:=if Mb n=s then none else some ()
theorem Anx{s}:∀(l:List Ax),foM (Afr s) l ()=if(l.any fun n=>decide (Mb n=s))=true then none else some ()
 |[]=>rfl
 |n::l=>by
  simp only[foM]
  by_cases h:Mb n=s
  ·rw[show Afr s () n=none from if_pos h,dh_,decide_eq_true h];rfl
  ·rw[show Afr s () n=some ()from if_neg h,dh_,decide_eq_false h,Bool.false_or]
   exact Anx l
theorem f206{t}(ht:KB t)(s σ):Cv 206 [En t,sV s] σ (.bool (Hk t s)):=by
 refine gm_ ?_;refine Mo Tryz.func206 (Ke _ _ Tryz.func206) rfl rfl fun hw hu0=>?_
 iterate  4 refine G ?_
 refine O1 (Bj (n:=nx σ+1) ziC (Bm σ)) ?_;refine G ?_;obtain⟨σ1,hσ1⟩:∃σ1,σ.bump.new (.cells [.bool false])=σ1:=⟨_,rfl⟩;rw[hσ1];have n1:nx σ1=nx σ+2:=gr;have g1:∀b,b<nx σ->σ1.get b=σ.get b:=gr;have r1:σ1.get (nx σ+1)=some (.cells [.bool false]):=gr;obtain⟨aY,haY⟩:∃aY,nx σ1+1=aY:=⟨_,rfl⟩;obtain⟨σ7,hσ7⟩:∃σ7,σ1.bump.new (.loop .ready)=σ7:=⟨_,rfl⟩;have n7:nx σ7=nx σ+4:=gr;have g7:∀b,b<nx σ1->σ7.get b=σ1.get b:=gr;have y7:σ7.get aY=some (.loop .ready):=gr
 iterate  3 refine G ?_
 refine O1 (Ac ldC rfl rfl (show Cz 2 true (eT t)=some (En t)from by have:=A6 (Dh t) [];rwa[bh_]at this)) ?_
 refine Ca (f58 t _) ?_
 iterate  2 refine G ?_
 refine L6 rfl (fun tm htm=>?_)
 rw[hσ7,haY]
 refine et_ (f110 (L:=⟨aY,tm,Tryz.f206.ntmps,_,_,_⟩) (mT:=aY) (I:=fun(_:Unit) F τ=>F=(fun _=>False)/\τ.get aY=some (.loop .ready)/\τ.get (nx σ+1)=some (.cells [.bool false])/\aY<nx τ/\∀b,b<nx σ->τ.get b=σ.get b) (J:=fun x τ=>x=.ret/\τ.get aY=some (.loop (H2 .ret))/\τ.get (nx σ+1)=some (.cells [.bool true])/\nx σ<=nx τ/\∀b,b<nx σ->τ.get b=σ.get b) (st:=Afr s) (ap_ ..) ⟨?ext,?y⟩ ht () (fun _=>False) σ7 ⟨rfl,y7,gr,by omega,gr⟩ (fun b h=>h.elim) Om) ?post
 case ext=>
  rintro _ F τ τ' ⟨h1,h2,h3,h4,h5⟩ hn hg
  exact⟨h1,gr,gr,by omega,gr⟩
 case y=>
  rintro _ F k τ ⟨rfl,hyt,hrt,hlt,hgt⟩
  obtain⟨lk,kk,rfl⟩:∃lk kk,k=.node lk kk:=by cases k;grind
  rw[Cg];obtain⟨τ1,hτ1⟩:∃τ1,τ.set aY (.loop .busy)=τ1:=⟨_,rfl⟩;have nt1:nx τ1=nx τ:=gr;have gt1:∀b,b≠aY->τ1.get b=τ.get b:=gr;have yt1:τ1.get aY=some (.loop .busy):=gr;have rt1:τ1.get (nx σ+1)=some (.cells [.bool false]):=gr;refine Tk htm rfl Kr Kr Kr hyt gr ?_
  iterate  3 refine G ?_
  refine⟨hyt,?_⟩;rw[show τ.set aY (.loop .busy)=τ1 from hτ1]
  iterate  8 refine G ?_
  refine A0 rfl ?_ ?_<;>intro h1
  ·have hl:Afr s () (.node lk kk)=none:=if_pos (of_decide_eq_true h1)
   iterate  2 refine G ?_
   refine O1 (sO (cs':=[.bool true]) rt1) ?_
   iterate  2 refine G ?_
   refine⟨gr,?_⟩
   grind
  ·have hl:Afr s () (.node lk kk)=some ():=if_neg (of_decide_eq_false h1);refine G ?_;refine⟨yt1,?_⟩;rw[hl]
   exact⟨rfl,fun _=>False,⟨rfl,by rw[aa_,if_pos rfl];rfl,gr,gr,gr⟩,.of gr gr⟩
 case post=>
  intro u σ' bh;rw[Anx]at bh
  by_cases hh:(Sh t).any (fun n=>decide (Mb n=s))=true
  ·rw[if_pos hh]at bh;obtain⟨hn,x,_,rfl,hy9,hr9,hn9,hg9⟩:=bh;refine⟨.ret,hy9,?_⟩
   exact⟨[.bool true],Am (vs:=[.bool true]) (ldC (t:=4)) rfl (by simp only[Sto.cells];grind) rfl rfl,_,σ,am_ hw ⟨gr,gr⟩,nl,.same rfl,by rw[show Hk t s=true from hh];rfl,rfl⟩
  ·rw[if_neg hh]at bh;obtain⟨F',⟨_,hy9,hr9,hl9,hg9⟩,ig⟩:=bh
   have hf:Hk t s=false:=by
    cases hq:Hk t s with
    |false=>rfl
    |true=>exact absurd hq hh
   have hk9:(σ'.kill aY).get (nx σ+1)=some (.cells [.bool false]):=gr;refine⟨.normal,hy9,?_⟩
   iterate  2 refine G ?_
   refine O1 (sO (cs':=[.bool false]) hk9) ?_
   iterate  2 refine G ?_
   exact⟨[.bool false],Am (vs:=[.bool false]) (ldC (t:=4)) rfl (by simp only[Sto.cells];grind) rfl rfl,_,σ,am_ hw ⟨gr,gr⟩,nl,.same rfl,by rw[hf];rfl,rfl⟩
theorem f54{t}(h:KB t):∀σ:Sto,Cv 54 [En t] σ (En t):=by
 induction h with
 |@node l ks hl hk ih=>
  intro σ;rw[En,Cl];refine Aj Tryz.func54 rfl rfl fun hw hu0=>?_
  refine G3 ?_;refine O1 (Bu ziC) ?_;refine G6 ?_
  refine O1 (Bj (n:=nx σ+1) ziC (by rw[Ao])) ?_
  refine O1 (sO (a:=nx σ+1) (off:=0) (cs:=[.str [],nS]) (cs':=[sV l,nS]) gr) ?_;refine G ?_;obtain⟨σ1,hσ1⟩:∃σ1,((σ.new (.cells [.str [],nS])).new (.cells [.str [],nS])).set (nx σ+1) (.cells [sV l,nS])=σ1:=⟨_,rfl⟩;rw[hσ1];have n1:nx σ1=nx σ+2:=gr;have g1:∀b,b<nx σ->σ1.get b=σ.get b:=gr;have r1:σ1.get (nx σ)=some (.cells [.str [],nS]):=gr;have o1:σ1.get (nx σ+1)=some (.cells [sV l,nS]):=gr;refine G9 ?_
  refine Bz ks.length (fun i0=>[(2,.pr (nx σ) 0),(3,.pr (nx σ+1) 0),(10,slV eT 2 ks),(11,nV ks.length),(12,nV i0)]) (fun i0 σ0=>∃v,σ0.get (nx σ)=some (.cells [.str [],nS])/\σ0.get (nx σ+1)=some (.cells [sV l,v])/\Own σ0 (nx σ+2) eT 2 (ks.take i0) v/\nx σ+2<=nx σ0/\∀b,b<nx σ->σ0.get b=σ.get b) SL ⟨_,r1,o1,.nil,by omega,g1⟩ ?_
  rintro i0 σ0 hi0 ⟨v,hr0,ho0,bf,n0,g0⟩;refine G5 ?_;refine Ab rfl ?_ ?_<;>intro h1
  ·have bc:i0<ks.length:=Int.ofNat_lt.1 (of_decide_eq_true h1);obtain⟨k,hkk⟩:=Ar bc
   obtain⟨lk,kk,rfl⟩:∃lk kk,k=.node lk kk:=by cases k;grind
   have hek:eT (.node lk kk)=[sV lk,slV eT 2 kk]:=Cl lk kk;have ht1:=List.take_add_one (l:=ks) (i:=i0);rw[hkk]at ht1
   obtain⟨σ2,hap,n2,bw,g2⟩:=dn_ (by':=40) Dh Om bf (.node lk kk) (by simp only[sizeLim,cb_];omega)
   rw[cb_,du_ Om,hek]at hap;rw[cb_,du_ Om]at bw;have hc2:=ih _ (ab_ hkk) σ0;rw[En,hek]at hc2;obtain⟨σ3,hσ3⟩:∃σ3,σ2.set (nx σ+1) (.cells [sV l,.sr (nx σ0) 0 2 (i0+1) none])=σ3:=⟨_,rfl⟩
   have ho2:σ2.get (nx σ+1)=some (.cells [sV l,v]):=(g2 _ Om (fun e=>by have:=(bf.adr_lt e).1;omega)).trans ho0
   have hr2:σ2.get (nx σ)=some (.cells [.str [],nS]):=(g2 _ Om (fun e=>by have:=(bf.adr_lt e).1;omega)).trans hr0
   refine G5 ?_
   refine O1 (A1 elC Dh rfl rfl hkk) (O1 (Ac ldC rfl rfl (show Cz 2 true (eT (Ax.node lk kk)++_)=some (.agg [sV lk,slV eT 2 kk])from by rw[←hek];exact A6 (Dh _) _)) ?_)
   refine G2 ?_;refine XX 1 (l:=[(54,[.agg [sV lk,slV eT 2 kk]],σ0,.agg [sV lk,slV eT 2 kk],σ0)]) ⟨hc2,trivial⟩ ?_;refine G ?_;refine DF (lO ho0) ?_;refine G2 ?_;refine DF (Ai elC byW rfl rfl rfl) (DT (Av elC rfl slC rfl rfl rfl (new:=[sV lk,slV eT 2 kk]) rfl hap) ?_);refine G ?_;refine DT (sO (cs':=[sV l,.sr (nx σ0) 0 2 (i0+1) none]) ho2) ?_;refine G ?_;rw[hσ3]
   refine⟨(by intro e he;simp at he;rcases he with rfl|rfl<;>exact .refl),?_⟩
   refine G4 ?_
   refine⟨bc,SL,_,gr,by rw[←hσ3,aa_,if_pos rfl],by rw[ht1];exact bw.of_get gr (fun b q=>by rw[←hσ3,aa_,if_neg (by have:=(bw.adr_lt q).1;omega)]),gr,fun b hb=>by rw[←hσ3,aa_,if_neg Om,g2 _ Om (fun e=>by have:=(bf.adr_lt e).1;omega)];exact g0 b hb⟩
  ·have bj:ks.length<=i0:=bm_.1 (Int.not_lt.1 (fun q=>of_decide_eq_false h1 q))
   rw[at_ bj]at bf;refine G3 ?_;refine O1 (lO ho0) (O1 (sO (cs':=[sV l,v]) hr0) ?_);refine G ?_;refine Bo fun hw9=>?_
   refine G ?_
   exact⟨[.agg [sV l,v]],Am (vs:=[sV l,v]) (ldC (t:=39)) rfl (by simp only[Sto.cells];grind) rfl rfl,_,σ,am_ hw ⟨gr,gr⟩,nl,.agg (.cons (.same rfl) (.cons (Own.fz Dh (bf.of_get gr (fun b q=>by rw[aa_,if_neg (by have:=(bf.adr_lt q).1;omega)])) (fun a ha=>hw.none Om) (by rw[←No];exact Jq _)) .nil)),rfl,rfl⟩
section
variable {E:Env}{ops:Array Oper}{Rr:Rec}
theorem Aj7(hm:E.P.follows .mixedOrders=true)(hR:Bk E Rr){s vl tl nl nf C w a}(st:SSt E C w s a)(htl:Adi s.nt ops.toList vl s.tm=some tl)(hse:Eu ops (Region.before ops).toList=true/\Fo ops=true)
  (W:Ago E ops.toList Rr (fun k=>tl.getD k .e) (fun k=>vl.getD k .any) (A8 E ops.toList 0) [] s.sto nl nf)
  (ia:(nl++[(nf,[])]).all (Hm E ops.toList Rr (fun k=>tl.getD k .e) (fun k=>vl.getD k .any) (Region.before ops).toList (A8 E ops.toList 0))=true)(pp:(nl.all fun x=>(A8 E ops.toList 0).any fun e=> !x.1.D.contains e)=true){id ro n}:
  (Code.region id ops true).wpIn (Cy ro) n E.P (Aej E C (nx s.sto) w [(.normal,⟨tl.getD ops.size .e,s.nt,s.df,nf.σ⟩)]) a w:=by
 obtain⟨t0,tk⟩:=Wu htl
 have bs:∀c∈nl.map (·.1)++[nf],∃nx,(c,nx)∈nl++[(nf,[])]/\Oe E ops.toList Rr (fun k=>tl.getD k .e) (fun k=>vl.getD k .any) (·∈nl.map (·.1)++[nf]) c nx:=fun c hc=>by
  rcases bb_.1 hc with hc|hc
  ·obtain⟨x,hx,rfl⟩:=bt_.1 hc;exact⟨x.2,dg_ _ hx,W.ok x hx⟩
  ·rw[ao_]at hc;subst hc
   exact⟨[],by simp,fun e he=>by cases he⟩
 have dw:∀c nx,(c,nx)∈nl++[(nf,[])]->Hm E ops.toList Rr (fun k=>tl.getD k .e) (fun k=>vl.getD k .any) (Region.before ops).toList (A8 E ops.toList 0) (c,nx)=true:=fun c nx hc=>b_.1 ia _ hc
 have bl:ops.toList.length=ops.size:=by simp
 have fo:∀c∈nl.map (·.1)++[nf],∀k,k<ops.size->k∉c.D->Sz (Region.before ops).toList (A8 E ops.toList 0) c.D k=true->
   Aeb (Region.before ops).toList c.U k=true/\(k∈A8 E ops.toList 0∨Lp E ops.toList Rr (fun k=>tl.getD k .e) (fun k=>vl.getD k .any) c.σ k=true):=fun c hc k hk hD hok=>by
  obtain⟨nx,h1,_⟩:=bs c hc;have h2:=dw c nx h1;unfold Hm at h2
  grind
 refine Xy (s':=⟨tl.getD ops.size .e,s.nt,s.df,nf.σ⟩) (es:=A8 E ops.toList 0) (V:=fun k=>vl.getD k .any) (T:=fun k=>tl.getD k .e) (nds:=nl.map (·.1)++[nf]) hm hR st ⟨hse.1,hse.2,fun k o ho=>Og ho,fun k hk t=>?_,fun k o ho d hd=>?_,fun c hc k hk=>?_,fun c hc k hk=>?_,fun c hc k hk hD hok i hi=>?_,fun c hc k o ho he hok=>?_,fun c hc k o ho he hD hok=>?_⟩ W.hd (fun c hc hD=>?_) rfl rfl rfl (fun e he=>?_)
 ·exact Ni (n:=ops.size) (T:=fun k=>tl.getD k .e) (V:=fun k=>vl.getD k .any) t0 (fun k hk=>⟨ops[k],by simp[hk],tk k _ (by simp[hk])⟩) k hk t
 ·have:=tk k o gr;rw[hd]at this;simp only[Ka]at this;cases hb:Nat.blt d s.nt
  ·grind
  ·exact al_ hb
 ·rcases(W.sub c hc).1 k hk with h|h
  ·cases h
  ·exact h
 ·rcases(W.sub c hc).2 with h|⟨p,v,h,hp⟩
  ·rw[h];rfl
  ·rw[h];show(if k=p then _ else _)=_;grind
 ·have h1:=(fo c hc k hk hD hok).1
  rcases(W.sub c hc).2 with h|⟨p,v,h,hp⟩
  ·rw[h];rfl
  ·rw[h]at h1⊢
   show(if i=p then _ else _)=_
   rw[if_neg];intro hh;subst hh;unfold Aeb at h1;simp only[Gc]at h1
   grind
 ·have hk:=(bc_.1 ho).1
  have hD:k∉c.D:=fun hh=>by
   rcases(W.sub c hc).1 k hh with h|h
   ·cases h
   ·exact he h
  rcases(fo c hc k hk hD hok).2 with h1|h1
  ·grind
  ·have hne:B5 (Bc E o.op)=false:=by
    cases hh:B5 (Bc E o.op)with
    |false=>rfl
    |true=>exact absurd ((Og ho).1 hh) he
   unfold Lp at h1
   rw[show ops.toList[k]? =some o by simpa using ho]at h1
   simp only at h1
   split at h1
   ·rename_i hg
    split at h1
    ·rename_i v τ hv
     have:=AV.beq_eq _ _ h1;subst this;refine .inl ⟨hg,?_⟩
     have hτ:τ=c.σ:=by
      cases hcl:Bc E o.op with
      |eff=>rw[hcl]at hne;cases hne
      |pure=>exact(Aa9 hR hcl _ _ _ _ hv).1
      |read=>rw[Iy hcl]at hv;exact S6 hcl hv
     grind
    ·cases h1
   ·rename_i hg
    exact .inr ⟨hg,AV.beq_eq _ _ h1,rfl⟩
   ·cases h1
 ·obtain⟨nx,h1,h2⟩:=bs c hc;have h3:=dw c nx h1;unfold Hm at h3;simp only[ad_]at h3;have h4:=b_.1 h3.1 k he;have hD':c.D.contains k=false:=gr;rw[hD',hok]at h4;simp only[Bool.not_true,Bool.false_or]at h4;obtain⟨o',v,σ',c',q1,q2,q3,q4,q5⟩:=h2 k (List.contains_iff_mem.1 h4)
  grind
 ·rcases bb_.1 hc with hc|hc
  ·grind
  ·rw[ao_]at hc;subst hc
   exact⟨fun k=>by rw[W.fin];rfl,rfl⟩
 ·obtain⟨m,hm'⟩:=au_.1 he;obtain⟨k',o',q1,q2,_⟩:=(Ie (E:=E) ops.toList 0).2 m e hm'
  grind
end
section
variable {E:Env}{σ τ:Sto}
theorem Conv.renameP{A B a b U V ρ}(hab:(a=nx σ/\b=nx σ+1)∨(a=nx σ+1/\b=nx σ))(hn:nx τ=nx σ+2)(hr:nx ρ=nx σ+4)
  (ha:τ.get a=some (.cells A))(hb:τ.get b=some (.cells B))
  (hg:∀x,ρ.get x=if x=nx σ+3 then some (.cells B)else if x=nx σ+2 then some (.cells A)else if x=nx σ∨x=nx σ+1 then none else τ.get x)
  (hU:∀x,U x=V x∨(U x=.pr a 0/\V x=.pr (nx σ+2) 0)∨(U x=.pr b 0/\V x=.pr (nx σ+3) 0)):Conv E U τ V ρ:=by
 intro C w h
 have l2:(Da C (nx σ) a b).loc (nx σ+2)=C.loc a:=by simp[Da]
 have l3:(Da C (nx σ) a b).loc (nx σ+3)=C.loc b:=by simp[Da]
 have l0:∀x,x=nx σ∨x=nx σ+1->(Da C (nx σ) a b).loc x=none:=fun x hx=>by
  simp only[Da];grind
 have lo:∀x,x≠nx σ+2->x≠nx σ+3->¬(x=nx σ∨x=nx σ+1)->(Da C (nx σ) a b).loc x=C.loc x:=fun x h1 h2 h3=>by
  simp only[Da];grind
 have back:∀x p,(Da C (nx σ) a b).loc x=some p->∃y,C.loc y=some p:=gr
 have mw:∀x p,nx τ<=x->C.loc x=some p->False:=fun x p hx hl=>by
  obtain⟨O,h1,_⟩:=h.dom x p hl;have:=h.bound x O h1;omega
 have e:Ext C (nx τ) w (Da C (nx σ) a b) (nx ρ) w:=⟨by omega,nl,
  fun q _ ho=>⟨fun hh=>hh.elim (fun hr=>ho (.inl hr)) fun⟨x,o,hx⟩=>by
   obtain⟨y,hy⟩:=back x _ hx;exact ho (.inr ⟨y,o,hy⟩),rfl⟩,
  gr,
  fun _ _=>rfl,fun _ _=>rfl,fun _ _ _ _ _=>rfl,⟨rfl,fun _ _=>rfl⟩,rfl,rfl⟩
 have cells:∀y D,τ.get y=some (.cells D)->∀x,(Da C (nx σ) a b).loc x=C.loc y->OR E.P (Da C (nx σ) a b) w ρ x (.cells D):=fun y D hy x hx=>by
  obtain⟨c,o,cs,T,h1,h2,h3⟩:=h.obj y _ hy;exact⟨c,o,cs,T,gr,h2,gg_ e c rfl D o h3⟩
 refine⟨Da C (nx σ) a b,⟨fun x X hx=>?_,fun x X hx=>?_,fun x p hp=>?_,fun x y c o o' hx hy=>?_,fun x c o hx=>?_,h.rlt,fun x c o hx hr'=>?_⟩,e,fun i x hx=>?_⟩
 ·rw[hg]at hx
  by_cases h1:x=nx σ+3
  ·grind
  ·rw[if_neg h1]at hx
   by_cases h2:x=nx σ+2
   ·grind
   ·rw[if_neg h2]at hx
    by_cases h3:x=nx σ∨x=nx σ+1
    ·grind
    ·rw[if_neg h3]at hx;refine(h.obj x X hx).ext e (h.bound x X hx) (lo x h2 h1 h3) (fun _ _ _=>rfl) fun m hm kt es' v' hg'=>?_
     grind
 ·rw[hg]at hx
  by_cases h1:x=nx σ+3
  ·omega
  ·rw[if_neg h1]at hx
   by_cases h2:x=nx σ+2
   ·omega
   ·rw[if_neg h2]at hx
    by_cases h3:x=nx σ∨x=nx σ+1
    ·grind
    ·rw[if_neg h3]at hx;have:=h.bound x X hx;omega
 ·by_cases h1:x=nx σ+3
  ·exact⟨.cells B,gr,rfl⟩
  ·by_cases h2:x=nx σ+2
   ·exact⟨.cells A,gr,rfl⟩
   ·by_cases h3:x=nx σ∨x=nx σ+1
    ·grind
    ·rw[lo x h2 h1 h3]at hp;obtain⟨O,k1,k2⟩:=h.dom x p hp
     grind
 ·have key:∀x p,(Da C (nx σ) a b).loc x=some p->(x=nx σ+2/\C.loc a=some p)∨(x=nx σ+3/\C.loc b=some p)∨(C.loc x=some p/\x<nx σ):=gr
  rcases key x _ hx with⟨e1,k1⟩|⟨e1,k1⟩|⟨k1,e1⟩<;>rcases key y _ hy with⟨e2,k2⟩|⟨e2,k2⟩|⟨k2,e2⟩<;>have:=h.inj _ _ _ _ _ k1 k2<;>omega
 ·obtain⟨y,hy⟩:=back x _ hx;exact h.lt y c o hy
 ·obtain⟨y,hy⟩:=back x _ hx;exact h.rdis y c o hy hr'
 ·rcases hU i with h1|⟨h1,h2⟩|⟨h1,h2⟩
  ·rw[←h1];exact R.ext e _ _ hx
  ·rw[h1]at hx;rw[h2];unfold R at hx⊢
   grind
  ·rw[h1]at hx;rw[h2];unfold R at hx⊢
   grind
end
section
variable {E:Env}{ops:List Oper}{Rr:Rec}{T:Nat->Tr AV}{V:Nat->AV}{b:List Nat}
def Tw(σ:Sto)(A B:List AV):Sto:=((((((σ.new (.cells A)).new (.cells B)).kill (nx σ)).kill (nx σ+1)).new (.cells A)).new (.cells B))
def Y0(σ:Sto)(A B:List AV)(i j:Nat)(D:List Nat):NL:=[(⟨D,σ,[]⟩,[i,j]),(⟨i::D,σ.new (.cells A),[(i,.pr (nx σ) 0)]⟩,[j]),(⟨j::D,σ.new (.cells B),[(j,.pr (nx σ) 0)]⟩,[i])]
theorem Atb{i j σ D A B oi oj}(hoi:ops[i]? =some oi)(hoj:ops[j]? =some oj)(hij:i≠j)(gi:Bn ops oi (T i)=some true)(gj:Bn ops oj (T j)=some true)
  (k1:∀τ,opA E oi.op Rr (T i) τ=some (.pr (nx τ) 0,τ.new (.cells A)))(k2:∀τ,opA E oj.op Rr (T j) τ=some (.pr (nx τ) 0,τ.new (.cells B)))(b1:V i=.pr (nx σ+2) 0)(b2:V j=.pr (nx σ+3) 0)
  {P}(hp:P ⟨j::i::D,Tw σ A B,[]⟩)(hq:∀x∈Y0 σ A B i j D,P x.1):
  (⟨D,σ,[]⟩:Nd)∈(Y0 σ A B i j D).map (·.1)/\(∀x∈Y0 σ A B i j D,Oe E ops Rr T V P x.1 x.2)/\∀x∈Y0 σ A B i j D,(∀k∈x.1.D,k∈D∨k=i∨k=j)/\(x.1.U=[]∨∃p v,x.1.U=[(p,v)]/\p∈x.1.D):=by
 have g1:∀(A B:List AV) x,((σ.new (.cells A)).new (.cells B)).get x=if x=nx σ+1 then some (.cells B)else if x=nx σ then some (.cells A)else σ.get x:=gr
 have hge:∀x,(Tw σ A B).get x=if x=nx σ+3 then some (.cells B)else if x=nx σ+2 then some (.cells A)else if x=nx σ∨x=nx σ+1 then none else σ.get x:=fun x=>by
  unfold Tw
  grind
 have hnr:nx (Tw σ A B)=nx σ+4:=by unfold Tw;grind
 refine⟨by simp[Y0],fun x hx=>?_,fun x hx=>?_⟩
 ·simp only[Y0,an_,cl_,or_false]at hx
  rcases hx with rfl|rfl|rfl
  ·intro e he;simp only[an_,cl_,or_false]at he
   rcases he with rfl|rfl
   ·exact⟨oi,_,_,⟨e::D,σ.new (.cells A),[(e,.pr (nx σ) 0)]⟩,hoi,.inl ⟨gi,k1 σ⟩,hq (⟨e::D,σ.new (.cells A),[(e,.pr (nx σ) 0)]⟩,[j]) (by simp[Y0]),gr,ff_ fun _=>rfl⟩
   ·exact⟨oj,_,_,⟨e::D,σ.new (.cells B),[(e,.pr (nx σ) 0)]⟩,hoj,.inl ⟨gj,k2 σ⟩,hq (⟨e::D,σ.new (.cells B),[(e,.pr (nx σ) 0)]⟩,[i]) (by simp[Y0]),gr,ff_ fun _=>rfl⟩
  ·intro e he;rw[ao_]at he;subst he;refine⟨oj,_,_,_,hoj,.inl ⟨gj,k2 _⟩,hp,gr,Conv.renameP (σ:=σ) (A:=A) (B:=B) (a:=nx σ) (b:=nx σ+1) (.inl ⟨rfl,rfl⟩) gr hnr gr gr (fun x=>?_) fun x=>?_⟩
   ·grind
   ·show(if x=e then _ else ovr [(i,_)] V x)=V x∨_
    by_cases q1:x=e
    ·rw[if_pos q1];refine .inr (.inr ⟨by rw[Ao],?_⟩);rw[q1];exact b2
    ·rw[if_neg q1]
     by_cases q2:x=i
     ·refine .inr (.inl ⟨?_,?_⟩)
      ·show(if x=i then _ else _)=_;rw[if_pos q2]
      ·rw[q2];exact b1
     ·left;show(if x=i then _ else _)=_;rw[if_neg q2]
  ·intro e he;rw[ao_]at he;subst he;refine⟨oi,_,_,_,hoi,.inl ⟨gi,k1 _⟩,hp,gr,Conv.renameP (σ:=σ) (A:=A) (B:=B) (a:=nx σ+1) (b:=nx σ) (.inr ⟨rfl,rfl⟩) gr hnr gr gr (fun x=>?_) fun x=>?_⟩
   ·grind
   ·show(if x=e then _ else ovr [(j,_)] V x)=V x∨_
    by_cases q1:x=e
    ·rw[if_pos q1];refine .inr (.inl ⟨by rw[Ao],?_⟩);rw[q1];exact b1
    ·rw[if_neg q1]
     by_cases q2:x=j
     ·refine .inr (.inr ⟨?_,?_⟩)
      ·show(if x=j then _ else _)=_;rw[if_pos q2]
      ·rw[q2];exact b2
     ·left;show(if x=j then _ else _)=_;rw[if_neg q2]
 ·simp only[Y0,an_,cl_,or_false]at hx
  grind
theorem Avh{i j r σ A B oi oj m nf}(hoi:ops[i]? =some oi)(hoj:ops[j]? =some oj)(hij:i≠j)(gi:Bn ops oi (T i)=some true)(gj:Bn ops oj (T j)=some true)
  (k1:∀τ,opA E oi.op Rr (T i) τ=some (.pr (nx τ) 0,τ.new (.cells A)))(k2:∀τ,opA E oj.op Rr (T j) τ=some (.pr (nx τ) 0,τ.new (.cells B)))(b1:V i=.pr (nx σ+2) 0)(b2:V j=.pr (nx σ+3) 0)
  (w:Ago E ops Rr T V r [j,i] (Tw σ A B) m nf):Ago E ops Rr T V (i::j::r) [] σ (Y0 σ A B i j []++m) nf:=by
 obtain⟨p1,p2,p3⟩:=Atb (D:=[]) (P:=(·∈(Y0 σ A B i j []++m).map (·.1)++[nf])) hoi hoj hij gi gj k1 k2 b1 b2 (by rw[co_,ca_];exact fg_ _ w.hd) gr
 refine⟨gr,fun x hx=>?_,fun c hc=>?_,w.fin⟩
 ·rcases bb_.1 hx with hx|hx
  ·exact p2 x hx
  ·exact(w.ok x hx).mono gr
 ·rw[co_,ca_]at hc
  rcases bb_.1 hc with hc|hc
  ·obtain⟨x,hx,rfl⟩:=bt_.1 hc
   grind
  ·obtain⟨h1,h2⟩:=w.sub c hc
   grind
end
theorem Afs{E Rr t z}(hz:zI E.P t=some z)(tm τ):opA E (.alloc t) Rr tm τ=some (.pr (nx τ) 0,τ.new (.cells z)):=(Bu (ρ:=[]) hz) tm (fun i v h=>by cases h)
theorem Avi{E nt B df Q ρ σ σ1 σ2 id ops}(vl i j e f){oi oj oe of'}{t1 t2:Nat}{z1 z2}(hm:E.P.follows .mixedOrders=true)(hl:ops.toList.length=vl.length)(hd:ops.toList.all (fun o=>B0 nt o.dst)=true)(hcl:Eu ops (Region.before ops).toList=true/\Fo ops=true)
  (hes:A8 E ops.toList 0=[i,j,e,f])(hoi:ops.toList[i]? =some oi)(hoj:ops.toList[j]? =some oj)(hoe:ops.toList[e]? =some oe)(hof:ops.toList[f]? =some of')(hbf:((Region.before ops).toList.getD f 0).testBit e=true)
  (hmi:oi.op=.alloc t1)(hmj:oj.op=.alloc t2)(hz1:zI E.P t1=some z1)(hz2:zI E.P t2=some z2)(hgi:oi.guard=none)(hgj:oj.guard=none)(hge:oe.guard=none)(hgf:of'.guard=none)(hij:i≠j)(hel:e<=ops.toList.length)(hfl:f<=ops.toList.length)
  (hvi:vl.getD i .any=.pr (nx σ+2) 0)(hvj:vl.getD j .any=.pr (nx σ+3) 0)
  (h3:As E (fun _ _ _=>none) oe.op (Lb ops.toList vl ρ e) (Tw σ z1 z2) An σ1)(h4:As E (fun _ _ _=>none) of'.op (Lb ops.toList vl ρ f) σ1 An σ2)(hve:vl.getD e .any=An)(hvf:vl.getD f .any=An)
  (cy:∀k,k<ops.toList.length->([i,j,e,f]:List Nat).contains k=false->∀τ:Sto,∃o v τ',ops.toList[k]? =some o/\o.guard=none/\As E (fun _ _ _=>none) o.op (Lb ops.toList vl ρ k) τ v τ'/\vl.getD k .any=v/\AV.beq v v=true)
  (dc:∀(v1 v2:AV) (s1 s2 s3 s4 s5 s6:Sto),([((⟨[],s1,[]⟩:Nd),[i,j]),(⟨[i],s2,[(i,v1)]⟩,[j]),(⟨[j],s3,[(j,v2)]⟩,[i]),(⟨[j,i],s4,[]⟩,[e]),(⟨[e,j,i],s5,[]⟩,[f]),(⟨[f,e,j,i],s6,[]⟩,[])]:NL).all (Vs ops.toList.length (Region.before ops).toList [i,j,e,f])=true)
  (cw:∀(v1 v2:AV) (s1 s2 s3 s4 s5:Sto),(([((⟨[],s1,[]⟩:Nd),[i,j]),(⟨[i],s2,[(i,v1)]⟩,[j]),(⟨[j],s3,[(j,v2)]⟩,[i]),(⟨[j,i],s4,[]⟩,[e]),(⟨[e,j,i],s5,[]⟩,[f])]:NL).all fun x=>([i,j,e,f]:List Nat).any fun e=> !x.1.D.contains e)=true)
  (k:Q .normal (Lb ops.toList vl ρ ops.toList.length) σ2):T E nt df B (.region id ops true) Q ρ σ:=by
 intro ro n hro C w tm a ht st hB;obtain⟨tl,h1,hT⟩:=Vr (nt:=nt) ht hl hd
 have hu:AV.beq An An=true:=by rfl
 have hil:i<ops.toList.length:=(ae_.1 hoi).1;have hjl:j<ops.toList.length:=(ae_.1 hoj).1;have e1:=Rz (T:=fun k=>tl.getD k .e) (V:=fun k=>vl.getD k .any) hoe hge (hT e hel) hve hu h3
 have e2:=Rz (T:=fun k=>tl.getD k .e) (V:=fun k=>vl.getD k .any) hof hgf (hT f hfl) hvf hu h4
 have hst:Ne E ops.toList (fun _ _ _=>none) (fun k=>tl.getD k .e) (fun k=>vl.getD k .any) (Region.before ops).toList [e,f] [j,i] (Tw σ z1 z2)=some ([(⟨[j,i],Tw σ z1 z2,[]⟩,[e]),(⟨[e,j,i],σ1,[]⟩,[f])],⟨[f,e,j,i],σ2,[]⟩):=by
  simp only[Ne,hbf,e1,e2]
 have W:=Avh (T:=fun k=>tl.getD k .e) (V:=fun k=>vl.getD k .any) (σ:=σ) hoi hoj hij (by unfold Bn;rw[hgi]) (by unfold Bn;rw[hgj]) (fun τ=>by rw[hmi];exact Afs hz1 _ τ) (fun τ=>by rw[hmj];exact Afs hz2 _ τ) hvi hvj (Uq _ _ _ _ _ hst)
 have ia:((Y0 σ z1 z2 i j []++([(⟨[j,i],Tw σ z1 z2,[]⟩,[e]),(⟨[e,j,i],σ1,[]⟩,[f])]:NL))++[((⟨[f,e,j,i],σ2,[]⟩:Nd),[])]).all (Hm E ops.toList (fun _ _ _=>none) (fun k=>tl.getD k .e) (fun k=>vl.getD k .any) (Region.before ops).toList [i,j,e,f])=true:=by
  have:=dc (.pr (nx σ) 0) (.pr (nx σ) 0) σ (σ.new (.cells z1)) (σ.new (.cells z2)) (Tw σ z1 z2) σ1 σ2;rw[b_]at this⊢;intro x hx;refine Ajx (this x hx) fun k hk hc=>?_
  obtain⟨o,v,τ',q1,q2,q3,q4,q5⟩:=cy k hk hc x.1.σ;exact Ahn q1 q2 (hT k (gb_ hk)) q4 q5 q3
 have:=Aj7 (C:=C) (w:=w) (a:=a) (id:=id) (ro:=ro) (n:=n) hm di_ st h1 hcl (by rw[hes];exact W) gr (by rw[hes];exact cw _ _ _ _ _ _ _)
 refine wpIn_mono this fun x a' w' he=>?_
 obtain⟨y,hy,C',g1,g2,g3⟩:=he;rw[ao_]at hy;subst hy
 have hsz:ops.size=ops.toList.length:=by simp
 refine⟨.normal,_,_,σ2,C',g1,hT _ (ef_ hsz),?_,g2,ai_ hB g3.next,g3.base hB⟩
 grind
structure Df where
 label:Str
 args:List Str
 dummies:List Str
 right:Ax
def eDf(x:Df):List AV:=[sV x.label,Af x.args,Af x.dummies]++eT x.right
theorem F8(x):(eDf x).length=5:=by unfold eDf;rw[bx_,Dh];rfl
theorem Avj(x):Cz 2 true ((eDf x).drop 3)=some (En x.right):=by
 show Cz 2 true (eT x.right)=_
 have:=A6 (Dh x.right) []
 rwa[bh_]at this
theorem f204(f x σ):Cv 204 [.agg (eF f),.pv (eDf x)] σ (.bool (decide (f.label=x.label))):=by
 refine Aj Tryz.func204 rfl rfl fun hw hu0=>?_
 iterate 15 refine G ?_
 exact⟨_,rfl,_,_,a_ hw nl (fun _ _=>rfl),nl,.same rfl,rfl,rfl⟩
theorem f172(P i){x}(hk:KB x.right)(σ):Cv 172 [.pr P 0,nV i,.agg (eDf x)] σ (.bool (Hk x.right x.label)):=by
 refine Aj Tryz.func172 rfl rfl fun hw hu0=>?_
 refine G2 ?_;refine Jv ldC rfl (A7 (F8 x)) rfl ?_;refine G5 ?_;refine O1 (Ac ldC rfl rfl (Avj x)) ?_;refine G2 ?_;refine Ca (f206 hk x.label _) ?_;refine G3 ?_;exact⟨_,rfl,_,_,a_ hw nl (fun _ _=>rfl),nl,.same rfl,rfl,rfl⟩
def Alv(d:Db)(r:Rs)(s:Str):Bool:= !(r.bound.any fun y=>decide ((rlD d s).sort=y))
theorem f207{d r P mT σ}(hP:σ.get P=some (.cells (bkC d r mT)))(hb:r.bound.length<=1000000)(s):Cv 207 [sV s,.pv [.pr P 0]] σ (.bool (Alv d r s)):=by
 refine Aj Tryz.func207 rfl rfl fun hw hu0=>?_
 refine G8 ?_;refine Ca (f144 hP s) ?_;refine G3 ?_;refine Ho ziC ldC rfl (fun _=>rfl) rfl (A7 (Qy _)) rfl rfl ?_
 refine G3 ?_;refine XS (l:=[(15,[Af r.bound,sV (rlD d s).sort],σ,.bool (r.bound.any fun y=>decide ((rlD d s).sort=y)),σ)]) ⟨f15 r.bound (rlD d s).sort σ Om,trivial⟩ ?_
 refine G4 ?_;refine DF (lO hP) ?_;refine G7 ?_;exact⟨_,rfl,_,_,a_ hw nl (fun _ _=>rfl),nl,.same rfl,rfl,rfl⟩
theorem f173{d r P mT σ}(hP:σ.get P=some (.cells (bkC d r mT)))(hb:r.bound.length<=1000000)(i){x}(hx:x.dummies.length<=1000000):Cv 173 [.pr P 0,nV i,.agg (eDf x)] σ (.bool (x.dummies.any (Alv d r))):=by
 refine Aj Tryz.func173 rfl rfl fun hw hu0=>?_
 refine G3 ?_;refine Jv ldC rfl (A7 (F8 x)) rfl ?_;refine G7 ?_;refine Ca (f46 (Alv d r) x.dummies 207 [.pv [.pr P 0]] σ Om (fun a _=>f207 hP hb a)) ?_
 refine G3 ?_;exact⟨_,rfl,_,_,a_ hw nl (fun _ _=>rfl),nl,.same rfl,rfl,rfl⟩
def Aj8(d:Db)(s:Str):Str:=if vrD d s=true then(match(rlD d s).parts[0]? with|some p=>p.symbol|none=>[])else[]
theorem f243{d r P mT σ}(hP:σ.get P=some (.cells (bkC d r mT)))(s)(hne:vrD d s=true->0<(rlD d s).parts.length):Cv 243 [.pr P 0,sV s] σ (sV (Aj8 d s)):=by
 refine Aj Tryz.func243 rfl rfl fun hw hu0=>?_
 refine G8 ?_;refine Ca (f144 hP s) ?_;refine G3 ?_;refine Ho ziC ldC rfl (fun _=>rfl) rfl (A7 (Qy _)) rfl rfl ?_
 refine G8 ?_;refine TOr 3 ?_ (fun hg=>?_) ?_
 rotate_left
 ·iterate 3 refine Gn hg ?_
  exact Ez
 refine G ?_;refine Ab rfl ?_ ?_<;>intro h1
 ·have hv:vrD d s=false:=by
   unfold vrD;cases hb:rlB d s with
   |false=>rfl
   |true=>
    rw[hb]at h1;have h1:(!(rlD d s).var)=true:=h1;cases hq:(rlD d s).var with
    |false=>rfl
    |true=>rw[hq]at h1;cases h1
  refine G5 ?_
  exact⟨_,rfl,_,_,a_ hw nl (fun _ _=>rfl),nl,.same rfl,(by unfold Aj8;rw[hv];rfl),rfl⟩
 ·have hv:vrD d s=true:=by
   unfold vrD;cases hb:rlB d s with
   |false=>rw[hb]at h1;cases h1
   |true=>
    rw[hb]at h1;have h1:(!(rlD d s).var)=false:=h1;cases hq:(rlD d s).var with
    |false=>rw[hq]at h1;cases h1
    |true=>rfl
  obtain⟨p,hp⟩:=Ar (hne hv)
  have hn:Aj8 d s=p.symbol:=by unfold Aj8;rw[hv];simp only[if_true];rw[hp]
  refine G4 ?_;refine O1 (Ac ldC rfl rfl (Z7 (rlD d s) _)) (O1 (A1 (i:=0) elC Jy rfl rfl hp) ?_);refine G5 ?_
  exact⟨_,rfl,_,_,a_ hw nl (fun _ _=>rfl),nl,.same rfl,(by rw[hn];rfl),rfl⟩
def minS(a b:Str):Str:=if(Op.bytesLess a b||a==b)=true then a else b
def maxS(a b:Str):Str:=if Op.bytesLess a b=true then b else a
section
variable {E:Env}{nt B:Nat}{df:List (Nat×List AV)}{ρ:Ad}{σ:Sto}{K:Ad->Sto->Prop}
theorem Anz{C N w a v}(h:R C N w (sV a) v):∃s:ByteArray,v=.string s/\s.toList=a:=by
 unfold sV R at h;obtain⟨s,h1,h2⟩:=h;refine⟨s,h1,?_⟩;rw[ByteArray.toList_eq];unfold B2 at h2
 exact List.map_inj_right (fun x y h=>UInt8.toNat_inj.1 h)|>.1 h2
theorem Avk{ops r}{t t2:Nat}{x y dst}{ty:Nat}{pos after a b}(hx:Ah E ρ x=some (sV a))(hy:Ah E ρ y=some (sV b))(hd:B0 nt dst=true)
  (k:TO E nt df B ops r K (Dt dst (sV (minS a b)) ρ) σ):TO E nt df B ops ({ dst:=dst,op:=.call ⟨.builtin .min,#[x,y],#[t,t2]⟩,type:=ty,pos:=pos,after:=after,guard:=none }::r) K ρ σ:=by
 refine Agx hd (fun C w tm ac ht st=>?_) k
 have hvx:=Be st.glob st.tmps x;have hvy:=Be st.glob st.tmps y;rw[ht.opd hx]at hvx;rw[ht.opd hy]at hvy;obtain⟨sx,ex,bx⟩:=Anz hvx;obtain⟨sy,ey,bz⟩:=Anz hvy
 have h:execOp ac.eval { dst:=dst,op:=.call ⟨.builtin .min,#[x,y],#[t,t2]⟩,type:=ty,pos:=pos,after:=after,guard:=none }=(do pure (.value (←Builtin.min_ #[t,t2] ty #[ac.eval x,ac.eval y]))):=by
  simp[execOp,resolve,invoke,builtin]
 rw[h]
 refine .ofPure st.sim ⟨rfl,.string (if(Op.bytesLess a b||a==b)=true then sx else sy),?_,?_⟩
 ·rw[ex,ey];simp only[Builtin.min_,List.foldlM_cons,List.foldlM_nil,Sem.run_bind]
  cases hq:(Op.bytesLess a b||a==b)<;>simp[Builtin.min2,Op.stringOp,bx,bz,asBool,hq]<;>simp_all
 ·unfold minS
  cases hq:(Op.bytesLess a b||a==b)
  ·rw[if_neg (by simp),if_neg (by simp)];rw[←ey];exact hvy
  ·rw[if_pos rfl,if_pos rfl];rw[←ex];exact hvx
theorem Avl{ops r}{t t2:Nat}{x y dst}{ty:Nat}{pos after a b}(hx:Ah E ρ x=some (sV a))(hy:Ah E ρ y=some (sV b))(hd:B0 nt dst=true)
  (k:TO E nt df B ops r K (Dt dst (sV (maxS a b)) ρ) σ):TO E nt df B ops ({ dst:=dst,op:=.call ⟨.builtin .max,#[x,y],#[t,t2]⟩,type:=ty,pos:=pos,after:=after,guard:=none }::r) K ρ σ:=by
 refine Agx hd (fun C w tm ac ht st=>?_) k
 have hvx:=Be st.glob st.tmps x;have hvy:=Be st.glob st.tmps y;rw[ht.opd hx]at hvx;rw[ht.opd hy]at hvy;obtain⟨sx,ex,bx⟩:=Anz hvx;obtain⟨sy,ey,bz⟩:=Anz hvy
 have h:execOp ac.eval { dst:=dst,op:=.call ⟨.builtin .max,#[x,y],#[t,t2]⟩,type:=ty,pos:=pos,after:=after,guard:=none }=(do pure (.value (←Builtin.max_ #[t,t2] ty #[ac.eval x,ac.eval y]))):=by
  simp[execOp,resolve,invoke,builtin]
 rw[h];refine .ofPure st.sim ⟨rfl,.string (if Op.bytesLess a b=true then sy else sx),?_,?_⟩
 ·rw[ex,ey];simp only[Builtin.max_,List.foldlM_cons,List.foldlM_nil,Sem.run_bind];cases hq:Op.bytesLess a b<;>simp[Builtin.max2,Op.stringOp,bx,bz,asBool,hq]<;>simp_all
 ·unfold maxS;cases hq:Op.bytesLess a b
  ·rw[if_neg (by simp),if_neg (by simp)];rw[←ex];exact hvx
  ·rw[if_pos rfl,if_pos rfl];rw[←ey];exact hvy
end
end Go.AM
