/- A part of the proof; shortened by program. -/
import Derived.Test.YtmkaboegdoadhaaGreatDoorP25
set_option maxRecDepth 100000
set_option maxHeartbeats 4000000
set_option linter.unusedSimpArgs false
set_option linter.unusedVariables false
namespace Go.AM
open Go Go.Proofs
def F159(g:Gr)(F:List Nde)(c:Cs)(k:Nat):Prop:=∀(Ls:List RF) (L:RF) (B:Nat) (S:Sto->Prop) (J:XE->Sto->Prop) (σ:Sto),L∈Ls->TC Ls L B (fT g F c k) S J->S σ->B<=nx σ->Hl Ew Ls 159 (.yl L.aY::[.pv [lV g F c],.pv [nV k]]) σ fun _ σ'=>PY B σ J σ'
def As7(g:Gr)(F:List Nde)(c:Cs)(w:Wy)(q:Nat):Prop:=∀(Ls:List RF) (L:RF) (B:Nat) (S:Sto->Prop) (J:XE->Sto->Prop) (σ:Sto) (kv:AV),L∈Ls->TC Ls L B (.node (Md g w.rule) (w.kids.map (fT g F c))) S J->S σ->B<=nx σ->KdV σ B ((w.kids.map (fT g F c)).take q) kv->Hl Ew Ls 160 [lV g F c,.agg (eWy w),kv,.yl L.aY] σ fun v σ'=>v=.bool false/\PY B σ J σ'
theorem Awh{g:Gr}{F:List Nde}{c:Cs}{w:Wy}(hwl:w.kids.length<=200)(hwr:w.rule<g.rules.length)(ih:∀k∈w.kids,F159 g F c k){q:Nat}(hq:q<=w.kids.length)(ihq:q<w.kids.length->As7 g F c w (q+1)):As7 g F c w q:=by
 intro Ls L B S J σ kv hLs hC hS hB hK;obtain⟨rl,hrl⟩:=Ar hwr
 have iq:Md g w.rule=rl.label:=by unfold Md;rw[hrl]
 obtain⟨ks,hks⟩:∃ks,w.kids.map (fT g F c)=ks:=⟨_,rfl⟩;have hkl:ks.length=w.kids.length:=gr;unfold As7 at ihq;rw[hks]at hC hK ihq;have hql:(ks.take q).length=q:=gr;have hKl:=hK.lenA;rw[hql]at hKl;obtain⟨σ0,hσ0⟩:∃σ0,σ.bump.new (.cells [.bool false])=σ0:=⟨_,rfl⟩;have n0:nx σ0=nx σ+2:=gr;have g0:∀b,b<nx σ->σ0.get b=σ.get b:=gr;have r0:σ0.get (nx σ+1)=some (.cells [.bool false]):=gr;refine Mo Tryz.func160 (Ke _ _ Tryz.func160) rfl rfl fun hw hu0=>?_
 iterate  4 refine G ?_
 refine Jv ldC rfl hK.cellsN rfl ?_;refine G ?_;refine O1 (Bj (n:=nx σ+1) ziC (Bm σ)) ?_;refine G ?_;rw[hσ0]
 iterate  3 refine G ?_
 refine O1 (Ac ldC rfl rfl hK.ld) (O1 (Bf slC rfl hKl.1 hKl.2) ?_)
 iterate  5 refine G ?_
 refine A0 rfl ?_ ?_<;>intro h1
 ·have hqe:q=w.kids.length:=ci_ (of_decide_eq_true h1);have hkq:ks.take q=ks:=at_ Om;rw[hkq]at hK;obtain⟨v',σ1,hap,hK1,n1,n1',g1⟩:=Ava σ0 ks Om;have hKq:lenA kv=some ks.length:=gr;have ef:F9 σ0 2 kv ks.length=some (ks.flatMap eT):=(hK.of Om fun b _ h2=>g0 b h2).src
  obtain⟨τ,hτ⟩:∃τ,σ1.kill (nx σ0)=τ:=⟨_,rfl⟩;have nτ:nx τ=nx σ1:=gr;have gτ:∀b,b<nx σ0->τ.get b=σ0.get b:=gr;have hlt:=hC.lt;refine G ?_;refine Abx 14 (Rr:=Dk []) (anns:=[aR 0 1,aR 0 1,aP 0 1,aP 0 1,aP 0 1,aR 0 1,aP 0 1,aR 0 1,aP 0 1,aP 0 1,aR 0 1,aR 0 0,aE 0 1,aP 1 1]) (Ab1 Kr) Di (Bw (l:=[]) trivial) Kr ?_
  iterate  8 refine G ?_
  refine DF (A1 elC Qy rfl rfl hrl) ?_
  iterate  2 refine G ?_
  refine DF (Ac ldC rfl rfl hK.ld) (DT (Av elC rfl slC rfl rfl hKq (new:=ks.flatMap eT) ef hap) (DF (Ut bdC rfl hK1.fill) ?_));refine G ?_;refine⟨⟨(fun s hs=>⟨_,(Ac (ldC (t:=54)) rfl rfl rfl)⟩),(fun s hs=>⟨_,(Ac (ldC (t:=251)) rfl rfl rfl)⟩),trivial,trivial,trivial,(fun s hs=>⟨_,(Ac (ldC (t:=139)) rfl rfl rfl)⟩),trivial,(fun s hs=>⟨_,(Ac (ldC (t:=3)) rfl rfl rfl)⟩),trivial,trivial,(fun s hs=>⟨_,(Ac (ldC (t:=9)) rfl rfl rfl)⟩),(fun s hs=>⟨_,(Ac (ldC (t:=37)) rfl rfl hK.ld)⟩),trivial,trivial,trivial⟩,?_⟩
  refine TOp 0 ?_
  refine Avb τ [(8,.pr (nx σ+1) 0),(16,.yl L.aY),(29,En (.node (Md g w.rule) ks))] (fun hw9=>by rw[←hτ];exact .kill hw9 _) nτ (fun hw9=>⟨⟨_,rfl,.same (Jr Om)⟩,⟨_,rfl,.same (Ce Om)⟩,⟨_,rfl,?_⟩,trivial⟩) ?_
  ·rw[Cg,iq];refine .agg (.cons (.same rfl) (.cons (hK1.fz fun a ha=>?_) .nil))
   rw[←hτ,bf_]
   split
   ·rfl
   ·exact hw9.none Om
  refine G ?_;refine Lg hLs (fun _ _=>rfl) rfl rfl rfl rfl (hC.y τ (hC.s σ τ hS gr) Om) fun x σ2 hp2 hn2=>?_
  obtain⟨hx2,hJ2,n2,g2⟩:=hp2;have hr2:σ2.get (nx σ+1)=some (.cells [.bool false]):=gr
  have hgo:Iu x=false:=by cases x<;>first|exact absurd rfl hx2|rfl
  refine TOp 1 ?_;refine O1 (sO (cs':=[.bool (Iu x)]) hr2) ?_
  iterate  2 refine G ?_
  refine Gi fun hw9=>?_
  refine G ?_
  exact⟨[.bool (Iu x)],Am (vs:=[.bool (Iu x)]) (ldC (t:=4)) rfl (by simp only[Sto.cells];grind) rfl rfl,_,_,a_ hw9 nl (fun _ _=>rfl),gr,.same rfl,congrArg AV.bool hgo,⟨x,hx2,hC.j x _ _ hJ2 gr⟩,gr,gr⟩
 ·have hqe:q≠w.kids.length:=fun e=>of_decide_eq_false h1 (congrArg _ e)
  have bc:q<w.kids.length:=by omega
  obtain⟨k,hk⟩:=Ar bc;have hkm:=ab_ hk;have hkq:ks[q]? =some (fT g F c k):=gr;have htk:=List.take_add_one (l:=ks) (i:=q);rw[hkq]at htk;have htk:ks.take (q+1)=ks.take q++[fT g F c k]:=htk
  obtain⟨lk,kk,hT⟩:∃lk kk,fT g F c k=.node lk kk:=by cases fT g F c k;grind
  have hek:eT (fT g F c k)=[sV lk,slV eT 2 kk]:=by rw[hT];exact Cl lk kk
  have hlt:=hC.lt
  iterate  3 refine G ?_
  refine Dy fun df=>XS (l:=[(124,[lV g F c,nV k],σ0,As6 g F c k,σ0)]) ⟨f124 k σ0,trivial⟩ ?_
  iterate  3 refine G ?_
  refine DF (Ac ldC rfl rfl hK.ld) (DF (Bf slC rfl hKl.1 hKl.2) (DF (A1 elC Ep rfl rfl hk) ?_))
  iterate  4 refine G ?_
  obtain⟨aY,haY⟩:∃aY,nx σ0+1=aY:=⟨_,rfl⟩;obtain⟨σ7,hσ7⟩:∃σ7,σ0.bump.new (.loop .ready)=σ7:=⟨_,rfl⟩;have n7:nx σ7=nx σ+4:=gr;have g7:∀b,b<nx σ0->σ7.get b=σ0.get b:=gr;have y7:σ7.get aY=some (.loop .ready):=gr;refine Oo ?_;refine L6 rfl (fun tm htm=>?_)
  rw[hσ7,haY];refine et_ (ih k hkm _ ⟨aY,tm,Tryz.f160.ntmps,_,_,_⟩ (nx σ+4) (fun τ=>S τ/\τ.get aY=some (.loop .ready)/\τ.get (nx σ+1)=some (.cells [.bool false])/\∀b,B<=b->b<nx σ->τ.get b=σ.get b) (fun x τ=>x=.ret/\τ.get aY=some (.loop (H2 .ret))/\τ.get (nx σ+1)=some (.cells [.bool false])/\(∃x0,x0≠.normal/\J x0 τ)/\∀b,B<=b->b<nx σ->τ.get b=σ.get b) σ7 (ap_ ..) ⟨gr,?s,?j,?y⟩ ⟨hC.s σ σ7 hS gr,y7,gr,gr⟩ Om) ?post
  case s=>
   rintro τ τ' ⟨h1,h2,h3,h4⟩ hg;exact⟨hC.s τ τ' h1 fun b hb=>hg b Om,gr,gr,gr⟩
  case j=>
   rintro x τ τ' ⟨h1,h2,h3,⟨x0,h4,h5⟩,h6⟩ hg;exact⟨h1,gr,gr,⟨x0,h4,hC.j x0 τ τ' h5 fun b hb=>hg b Om⟩,gr⟩
  case y=>
   rintro τ ⟨hSt,hyt,hrt,hgt⟩ hBt;rw[hT,Cg];obtain⟨τ1,hτ1⟩:∃τ1,τ.set aY (.loop .busy)=τ1:=⟨_,rfl⟩;have nt1:nx τ1=nx τ:=gr;have gt1:∀b,b≠aY->τ1.get b=τ.get b:=gr;have hKτ:KdV τ1 B (ks.take q) kv:=hK.of Om gr;obtain⟨τ2,hτ2⟩:∃τ2,τ1.new (.cells ((ks.take q++[fT g F c k]).flatMap eT))=τ2:=⟨_,rfl⟩;have nt2:nx τ2=nx τ1+1:=gr;have gt2:∀b,b<nx τ1->τ2.get b=τ1.get b:=gr;have hap:=hKτ.app1 (fT g F c k) Om;rw[hτ2,hek,hql]at hap
   have hKτ2:KdV τ2 B (ks.take (q+1)) (.sr (nx τ1) 0 2 (q+1) none):=by
    have:=KdV.snoc (σ:=τ1) (B:=B) (K:=ks.take (q+1)) Om
    grind
   refine Tk htm rfl Kr Kr Kr hyt gr ?_
   iterate  3 refine G ?_
   refine⟨hyt,?_⟩;rw[show τ.set aY (.loop .busy)=τ1 from hτ1]
   iterate  2 refine G ?_
   refine Abx 12 (Rr:=Dk []) (anns:=[aR 0 1,aR 0 1,aR 0 0,aR 0 0,aR 0 0,aR 0 0,aR 0 0,aP 0 0,aR 0 0,aP 0 0,aE 0 1,aR 0 1]) (Ab1 Kr) Di (Bw (l:=[]) trivial) Kr ?_
   iterate  2 refine G ?_
   refine DF (Ac ldC rfl rfl hK.ld) (DF (Ac ldC rfl rfl hK.ld) (DF (Bf slC rfl hKl.1 hKl.2) (DF (Ac ldC rfl rfl hK.ld) (DF (Bf slC rfl hKl.1 hKl.2) (DF (As5 hKτ hql rfl rfl rfl) ?_)))));refine G ?_;refine DF (Ai elC byW rfl rfl rfl) (DT (Av elC rfl slC rfl rfl rfl (new:=[sV lk,slV eT 2 kk]) rfl hap) ?_)
   iterate  2 refine G ?_
   refine⟨⟨(fun s hs=>⟨_,(Ac (ldC (t:=251)) rfl rfl rfl)⟩),(fun s hs=>⟨_,(Ac (ldC (t:=318)) rfl rfl rfl)⟩),(fun s hs=>⟨_,(Ac (ldC (t:=37)) rfl rfl hK.ld)⟩),(fun s hs=>⟨_,(Ac (ldC (t:=37)) rfl rfl hK.ld)⟩),(fun s hs=>⟨_,(Bf (slC (t:=37)) rfl hKl.1 hKl.2)⟩),(fun s hs=>⟨_,(Ac (ldC (t:=37)) rfl rfl hK.ld)⟩),(fun s hs=>⟨_,(Bf (slC (t:=37)) rfl hKl.1 hKl.2)⟩),trivial,(fun s hs=>⟨_,(Ac (ldC (t:=39)) rfl rfl rfl)⟩),trivial,trivial,(fun s hs=>⟨_,(Ac (ldC (t:=54)) rfl rfl rfl)⟩),trivial⟩,?_⟩
   refine L5 (fun _ _=>rfl) rfl rfl rfl rfl rfl (ihq bc _ L B S J τ2 _ (aj_ _ hLs) hC.up (hC.s τ τ2 hSt gr) Om hKτ2) fun u3 τ3 hp3 hn3=>?_
   obtain⟨rfl,⟨x0,hx0,hJ0⟩,n3,g3⟩:=hp3;have hr3:τ3.get (nx σ+1)=some (.cells [.bool false]):=gr;have hy3:τ3.get aY=some (.loop .busy):=gr;refine TOp 1 ?_
   iterate  3 refine G ?_
   refine A0 rfl (fun h3=>?_) gr
   iterate  2 refine G ?_
   refine O1 (sO (cs':=[.bool false]) hr3) ?_
   iterate  2 refine G ?_
   refine⟨gr,by simp,⟨rfl,gr,gr,⟨x0,hx0,hC.j x0 _ _ hJ0 gr⟩,gr⟩,gr,gr⟩
  case post=>
   rintro u σ' ⟨⟨x,_,rfl,hy9,hr9,⟨x0,hx0,hJ0⟩,hg9⟩,n9,g9⟩;refine⟨.ret,hy9,fun hw9=>?_⟩
   exact⟨[.bool false],Am (vs:=[.bool false]) (ldC (t:=4)) rfl (by simp only[Sto.cells];grind) rfl rfl,_,_,a_ hw9 nl (fun _ _=>rfl),gr,.same rfl,rfl,⟨x0,hx0,hC.j x0 _ _ hJ0 gr⟩,gr,gr⟩
theorem f159n{g:Gr}{F:List Nde}{c:Cs}{E:List Nat}(hL:Lst g F c E){i n:Nat}(hi:E[i]? =some n)(hn:c.2.getD n 0≠0)(h160:∀x w,F[n]? =some x->w∈x.ways->Gp c.2 w≠0->As7 g F c w 0):F159 g F c n:=by
 intro Ls L B S J σ hLs hC hS hB;obtain⟨x,w,hx,hf,hw',hp,hks⟩:=hL.ci.first hi hn;have hfT:=Ajn (g:=g) hL.ci hi hn hx hf;rw[hfT]at hC;have h160:=h160 x w hx hw' hp;refine Mo Tryz.func159 (Ke _ _ Tryz.func159) rfl rfl fun hw hu0=>?_
 refine G ?_;refine Dy fun df=>X0 ?_
 iterate  9 refine G ?_
 refine DF (A1 elC Mw rfl rfl hx) ?_
 iterate  5 refine G ?_
 refine⟨rfl,rfl,?_⟩;refine G ?_
 refine Hz (fun i0:Nat=>[(0,.yl L.aY),(1,.pv [lV g F c]),(17,slV eWy 2 x.ways),(18,nV x.ways.length),(19,nV i0)]) (fun i0 σ0=>i0<=x.ways.length/\(∀b,b<nx σ->σ0.get b=σ.get b)/\nx σ<=nx σ0/\∀v∈x.ways.take i0,Gp c.2 v=0) (fun i0=>x.ways.length-i0) 0 SL ⟨aq_ _,fun _ _=>Fe,by rw[Bm];omega,fun v hv=>by simp at hv⟩ ?_
 rintro i0 σ0 ⟨hi0,g0,n0,hz0⟩
 iterate  5 refine G ?_
 refine A0 rfl ?_ ?_<;>intro h1
 ·have bc:i0<x.ways.length:=Int.ofNat_lt.1 (of_decide_eq_true h1);obtain⟨v,hv⟩:=Ar bc;have hvm:=ab_ hv;obtain⟨hvl,hvr,hvk⟩:=hL.way hi hx hvm;have hwl:=(hL.fb.2 x (ab_ hx)).1;have htk:=List.take_add_one (l:=x.ways) (i:=i0);rw[hv]at htk
  iterate  5 refine G ?_
  refine O1 (A1 elC Gq rfl rfl hv) (O1 (Ac ldC rfl rfl (A6 (Gq v) _)) (Mp ziC ldC rfl (fun _=>rfl) rfl (A7 (Gq v)) rfl ?_))
  iterate  6 refine G ?_
  refine Ca (f158 Om (fun k hk=>(hvk k hk).2.2) σ0) ?_
  iterate  2 refine G ?_
  refine A0 rfl ?_ ?_<;>intro h2
  ·have hz:Gp c.2 v=0:=ci_ (of_decide_eq_true h2)
   iterate  5 refine G ?_
   refine⟨i0+1,by show x.ways.length-(i0+1)<x.ways.length-i0;omega,SL,by omega,g0,n0,fun u hu=>?_⟩
   rw[htk]at hu
   rcases bb_.1 hu with hu|hu
   ·exact hz0 u hu
   ·simp at hu;subst hu;exact hz
  ·have hpv:Gp c.2 v≠0:=fun q=>of_decide_eq_false h2 (congrArg _ q)
   have hvw:v=w:=by
    rw[←cc_ i0 x.ways,List.find?_append,List.find?_eq_none.2 (fun u hu=>by simp[hz0 u hu]),A4 hv,List.find?_cons_of_pos (by simp[hpv])]at hf
    exact by_ hf
   subst hvw;have hlt:=hC.lt;refine Jw ?_;refine Cf ?_;refine Er ?_;refine Gm 3 fun df=>?_
   iterate  4 refine G ?_
   refine L5 (fun _ _=>rfl) rfl rfl rfl rfl rfl (h160 Ls L B S J σ0 _ hLs hC (hC.s σ σ0 hS fun b hb=>g0 b Om) Om (.inl ⟨rfl,rfl⟩)) fun u3 τ3 hp3 hn3=>?_
   obtain⟨rfl,hx3,n3,g3⟩:=hp3;refine TOp 1 ?_
   iterate  3 refine G ?_
   refine A0 rfl (fun h3=>?_) (fun h3=>by cases h3)
   refine Gi fun hw9=>?_
   refine G ?_
   exact⟨[],rfl,_,_,a_ hw9 nl (fun _ _=>rfl),by omega,.same rfl,hx3,by omega,fun b h1 h2=>by rw[g3 b h1 Om];exact g0 b h2⟩
 ·have bj:x.ways.length<=i0:=bm_.1 (Int.not_lt.1 (fun q=>of_decide_eq_false h1 q))
  exfalso
  rw[at_ bj]at hz0;exact hp (hz0 w hw')
theorem Awi{g:Gr}{F:List Nde}{c:Cs}{w:Wy}(hwl:w.kids.length<=200)(hwr:w.rule<g.rules.length)(ih:∀k∈w.kids,F159 g F c k):∀(r q:Nat),q+r=w.kids.length->As7 g F c w q
 |0,q,h=>Awh hwl hwr ih Om fun h'=>by omega
 |r+1,q,h=>Awh hwl hwr ih Om fun _=>Awi hwl hwr ih r (q+1) Om
theorem f159{g:Gr}{F:List Nde}{c:Cs}{E:List Nat}(hL:Lst g F c E):∀(i n:Nat),E[i]? =some n->c.2.getD n 0≠0->F159 g F c n:=by
 intro i
 induction i using Nat.strongRecOn with
 |_ i ih=>
  intro n hi hn;refine f159n hL hi hn fun x w hx hw hp=>?_
  obtain⟨h1,h2,h3⟩:=hL.way hi hx hw;refine Awi h1 h2 (fun k hk=>?_) w.kids.length 0 (bn_ _)
  obtain⟨⟨j,hj,hj'⟩,_⟩:=h3 k hk;exact ih j hj k hj' (Xc _ _ hp k hk)
theorem Ap4{E:Env}{ops:List Oper}{R:Rec}{T:Nat->Tr AV}{V:Nat->AV}{b es:List Nat}{x:Nd×List Nat}(h:Vs ops.length b es x=true)(hc:∀k,k<ops.length->es.contains k=false->Sz b es x.1.D k=true->Lp E ops R T V x.1.σ k=true):Hm E ops R T V b es x=true:=by
 unfold Vs at h;unfold Hm;rw[ad_]at h⊢;refine⟨h.1,?_⟩;rw[b_];intro k hk;have h2:=(b_.1 h.2) k hk;have hk':k<ops.length:=cw_.1 hk;cases he:es.contains k with
 |true=>simpa using h2
 |false=>
  cases ho:Sz b es x.1.D k with
  |false=>simp
  |true=>
   rw[hc k hk' he ho];rw[ho]at h2
   simpa using h2
theorem Avc{E:Env}{nt B:Nat}{df:List (Nat×List AV)}{Q:Cc}{ρ:Ad}{σ σ':Sto}{Rr:Rec}{id:Nat}{ops:Array Oper}(vl:List AV)(hm:E.P.follows .mixedOrders=true)(hR:Bk E Rr)(hl:ops.toList.length=vl.length)(hd:ops.toList.all (fun o=>B0 nt o.dst)=true)(hcl:(Eu ops (Region.before ops).toList&&Fo ops)=true)
  (hc:∀(tl:List (Tr AV)),(∀k,k<=ops.toList.length->Has (tl.getD k .e) (Lb ops.toList vl ρ k))->∃nl nf,Ne E ops.toList Rr (fun k=>tl.getD k .e) (fun k=>vl.getD k .any) (Region.before ops).toList (A8 E ops.toList 0) [] σ=some (nl,nf)/\nf.σ=σ'/\(∀x∈nl++[(nf,[])],∀k,k<ops.toList.length->(A8 E ops.toList 0).contains k=false->Sz (Region.before ops).toList (A8 E ops.toList 0) x.1.D k=true->Lp E ops.toList Rr (fun k=>tl.getD k .e) (fun k=>vl.getD k .any) x.1.σ k=true)/\(nl++[(nf,[])]).all (Vs ops.toList.length (Region.before ops).toList (A8 E ops.toList 0))=true/\(nl.all fun x=>(A8 E ops.toList 0).any fun e=> !x.1.D.contains e)=true)
  (k:Q .normal (Lb ops.toList vl ρ ops.toList.length) σ'):T E nt df B (.region id ops true) Q ρ σ:=by
 intro ro n hro C w tm a ht st hB;obtain⟨tl,h1,h2⟩:=Vr (nt:=nt) ht hl hd;obtain⟨nl,nf,h3,h4,h5,h6,h7⟩:=hc tl h2
 have hp:Rd E ops Rr ⟨tm,nt,df,σ⟩ vl=some ⟨tl.getD ops.size .e,nt,df,nf.σ⟩:=by
  unfold Rd;simp only[h1,hcl,h3];rw[h7]
  have:(nl++[(nf,[])]).all (Hm E ops.toList Rr (fun k=>tl.getD k .e) (fun k=>vl.getD k .any) (Region.before ops).toList (A8 E ops.toList 0))=true:=by
   rw[b_]at h6⊢;exact fun x hx=>Ap4 (h6 x hx) (h5 x hx)
  rw[this];rfl
 refine wpIn_mono (Ss hm hR st hp) fun e a' w' he=>?_
 obtain⟨y,hy,C',g1,g2,g3⟩:=he;rw[ao_]at hy;subst hy
 have hsz:ops.size=ops.toList.length:=by simp
 refine⟨.normal,_,_,nf.σ,C',g1,h2 _ (ef_ hsz),?_,g2,ai_ hB g3.next,g3.base hB⟩;rw[hsz,h4];exact k
theorem Rz{E:Env}{ops:List Oper}{R:Rec}{T:Nat->Tr AV}{V:Nat->AV}{e:Nat}{o:Oper}{ρ:Ad}{σ τ:Sto}{v:AV}(ho:ops[e]? =some o)(hg:o.guard=none)(ht:Has (T e) ρ)(hv:V e=v)(hb:AV.beq v v=true)(h:As E R o.op ρ σ v τ):Ps E ops R T V e σ=some τ:=by
 unfold Ps;simp only[ho,O5 hg ht h,hv,hb,cond_true]
theorem Avd{E:Env}{nt B:Nat}{df:List (Nat×List AV)}{Q:Cc}{ρ:Ad}{σ σ1 σ2 σ3 σ4 σ5:Sto}{Rr:Rec}{id:Nat}{ops:Array Oper}(vl:List AV)(c e i j:Nat){oc oe oi oj:Oper}{t x y t' x' y'}{a b p q:Nat}{vc ve:AV}(hm:E.P.follows .mixedOrders=true)(hR:Bk E Rr)(hl:ops.toList.length=vl.length)(hd:ops.toList.all (fun o=>B0 nt o.dst)=true)(hcl:(Eu ops (Region.before ops).toList&&Fo ops)=true)
  (hes:A8 E ops.toList 0=[c,e,i,j])(hoc:ops.toList[c]? =some oc)(hoe:ops.toList[e]? =some oe)(hoi:ops.toList[i]? =some oi)(hoj:ops.toList[j]? =some oj)(hbe:((Region.before ops).toList.getD e 0).testBit c=true)(hbi:((Region.before ops).toList.getD i 0).testBit e=true)(hbj:((Region.before ops).toList.getD j 0).testBit i=false)
  (hmi:oi.op=.store t x y)(hmj:oj.op=.store t' x' y')(hgc:oc.guard=none)(hge:oe.guard=none)(hgi:oi.guard=none)(hgj:oj.guard=none)(hij:Nat.beq i j=false)(hab:a≠b)(re:c<=ops.toList.length)(hel:e<=ops.toList.length)(hil:i<=ops.toList.length)(hjl:j<=ops.toList.length)
  (h1:As E Rr oc.op (Lb ops.toList vl ρ c) σ vc σ1)(h2:As E Rr oe.op (Lb ops.toList vl ρ e) σ1 ve σ2)(h3:As E Rr oi.op (Lb ops.toList vl ρ i) σ2 An σ3)(h4:As E Rr oj.op (Lb ops.toList vl ρ j) σ2 An σ4)(h5:As E Rr oj.op (Lb ops.toList vl ρ j) σ3 An σ5)
  (hx:Ah E (Lb ops.toList vl ρ i) x=some (.pr a p))(hx':Ah E (Lb ops.toList vl ρ j) x'=some (.pr b q))(hvc:vl.getD c .any=vc)(hbc:AV.beq vc vc=true)(hve:vl.getD e .any=ve)(hbv:AV.beq ve ve=true)(hvi:vl.getD i .any=An)(hvj:vl.getD j .any=An)
  (cy:∀k,k<ops.toList.length->([c,e,i,j]:List Nat).contains k=false->∀τ:Sto,(τ=σ∨τ=σ1∨((Region.before ops).toList.getD e 0).testBit k=false)->∃o v τ',ops.toList[k]? =some o/\o.guard=none/\As E Rr o.op (Lb ops.toList vl ρ k) τ v τ'/\vl.getD k .any=v/\AV.beq v v=true)
  (dc:∀(s1 s2 s3 s4 s5 s6:Sto),([((⟨[],s1,[]⟩:Nd),[c]),(⟨[c],s2,[]⟩,[e]),(⟨[e,c],s3,[]⟩,[i,j]),(⟨[i,e,c],s4,[]⟩,[j]),(⟨[j,e,c],s5,[]⟩,[i]),(⟨[j,i,e,c],s6,[]⟩,[])]:NL).all (Vs ops.toList.length (Region.before ops).toList [c,e,i,j])=true)
  (cw:∀(s1 s2 s3 s4 s5:Sto),(([((⟨[],s1,[]⟩:Nd),[c]),(⟨[c],s2,[]⟩,[e]),(⟨[e,c],s3,[]⟩,[i,j]),(⟨[i,e,c],s4,[]⟩,[j]),(⟨[j,e,c],s5,[]⟩,[i])]:NL).all fun x=>([c,e,i,j]:List Nat).any fun e=> !x.1.D.contains e)=true)
  (k:Q .normal (Lb ops.toList vl ρ ops.toList.length) σ5):T E nt df B (.region id ops true) Q ρ σ:=by
 refine Avc vl hm hR hl hd hcl (fun tl hT=>?_) k
 rw[hes];have e1:=Rz (T:=fun k=>tl.getD k .e) (V:=fun k=>vl.getD k .any) hoc hgc (hT c re) hvc hbc h1
 have e2:=Rz (T:=fun k=>tl.getD k .e) (V:=fun k=>vl.getD k .any) hoe hge (hT e hel) hve hbv h2
 have e3:=O5 (ops:=ops.toList) hgi (hT i hil) h3;have e4:=O5 (ops:=ops.toList) hgj (hT j hjl) h4;have e5:=O5 (ops:=ops.toList) hgj (hT j hjl) h5
 have hpr:Nat.beq a b=false:=by cases hh:Nat.beq a b with|true=>exact absurd (ac_ hh) hab|false=>rfl
 have hu:AV.beq An An=true:=by rfl
 have ip:N2 E ops.toList Rr (fun k=>tl.getD k .e) (fun k=>vl.getD k .any) i j [e,c] σ2=some ([(⟨[e,c],σ2,[]⟩,[i,j]),(⟨[i,e,c],σ3,[]⟩,[j]),(⟨[j,e,c],σ4,[]⟩,[i])],σ5):=by
  unfold N2;simp only[hoi,hoj,e3,e4,e5,hmi,hmj,(hT i hil).opd hx,(hT j hjl).opd hx',hvi,hvj,hij,hpr,hu,fc_,be_,cond_true]
 refine⟨[(⟨[],σ,[]⟩,[c]),(⟨[c],σ1,[]⟩,[e]),(⟨[e,c],σ2,[]⟩,[i,j]),(⟨[i,e,c],σ3,[]⟩,[j]),(⟨[j,e,c],σ4,[]⟩,[i])],⟨[j,i,e,c],σ5,[]⟩,?_,rfl,fun x hx k hk hc hok=>?_,dc _ _ _ _ _ _,cw _ _ _ _ _⟩
 ·simp only[Ne,hbe,hbi,hbj,e1,e2,ip]
  rfl
 ·have key:x.1.σ=σ∨x.1.σ=σ1∨((Region.before ops).toList.getD e 0).testBit k=false:=by
   have he:e∈x.1.D->((Region.before ops).toList.getD e 0).testBit k=false:=fun hm=>by
    unfold Sz at hok
    have:=b_.1 hok e (by simp)
    rw[List.contains_iff_mem.2 hm]at this
    simpa using this
   simp only[ay_,bd_,an_,cl_,or_false]at hx
   rcases hx with rfl|rfl|rfl|rfl|rfl|rfl
   ·exact .inl rfl
   ·exact .inr (.inl rfl)
   ·exact .inr (.inr (he (by simp)))
   ·exact .inr (.inr (he (by simp)))
   ·exact .inr (.inr (he (by simp)))
   ·exact .inr (.inr (he (by simp)))
  obtain⟨o,v,τ',q1,q2,q3,q4,q5⟩:=cy k hk hc _ key;exact Ahn q1 q2 (hT k (gb_ hk)) q4 q5 q3
mutual
theorem Z8:∀t:Ax,AV.beqs (eT t) (eT t)=true
 |.node l ks=>by
  have:=Aj0 ks;simp only[eT,AV.beqs,AV.beq,sV,Tv,aw_,Af8,this,be_]
theorem Aj0:∀l:List Ax,AV.beqs (eTs l) (eTs l)=true
 |[]=>rfl
 |t::r=>by rw[eTs];exact Vq (Z8 t) (Aj0 r)
end
theorem Ds.cell{σ:Sto}(hw:WFS σ){a b:Nat}{vs vs':List AV}(hb:σ.get b=some (.cells vs))(hab:a≠b)(hf:∀τ:Sto,nx τ=nx σ->τ.get a=none->FzL σ τ vs vs'):Ds σ ((σ.kill a).set b (.cells vs')):=by
 have hk:((σ.kill a).set b (.cells vs')).get a=none:=by rw[aa_,if_neg hab,bf_,if_pos rfl]
 have hn:nx ((σ.kill a).set b (.cells vs'))=nx σ:=by rw[Aq,B3]
 have h0:=Ds.kill hw a
 refine⟨by rw[hn];exact nl,fun x O hx=>?_⟩
 rw[aa_]at hx
 split at hx
 ·rename_i e
  subst e;cases hx
  exact⟨by rw[hn];exact(hw _ _ hb).1,_,hb,.cells (hf _ hn hk)⟩
 ·rename_i hne
  obtain⟨h1,O₀,h2,h3⟩:=h0.2 x O hx;rw[B3]at h1
  refine⟨by rw[hn];exact h1,O₀,h2,?_⟩
  have hO:σ.get x=some O:=by
   rw[bf_]at hx
   split at hx
   ·cases hx
   ·exact hx
  rw[hO]at h2;cases h2;obtain⟨_,q2,q3⟩:=hw x O hO;cases O with
  |cells vs=>exact .cells (dj_ (by rw[hn];exact q2))
  |map kt es ver=>exact .map (Oi .same (by rw[hn];exact q2))
  |stamp m ver k=>exact .stamp (by rw[hn];exact q2)
  |loop st=>exact .loop
  |iter m ver left cur=>
   refine .iter (by rw[hn];exact q2) ?_
   cases m with
   |none=>trivial
   |some r=>
    intro kt es hr;rw[hn];refine q3 kt es ?_;rw[aa_]at hr
    split at hr
    ·cases hr
    ·rw[bf_]at hr
     split at hr
     ·cases hr
     ·exact hr
def Awj(b:Bool):Nat->Bool
 |0=>false
 |_=>b
theorem Axv{a o:Nat}:AV.beq (.pr a o) (.pr a o)=true:=by
 show(Nat.beq a a&&Nat.beq o o)=true
 rw[aw_,aw_];rfl
def Xg(T:Ax):AV:=if 4000<M6 T then .tup [nS,iV 4]else if 100<dpT T 1 then .tup [nS,iV 9]else .tup [slV eT 2 [T],iV 0]
theorem f70{g:Gr}{F:List Nde}{c:Cs}(hB:GrB g)(dw:Eb g=0)(hF:FOk g F.length F)(hFB:FB F)(h0:0<F.length)(hc:Yx F=some c)(dv:c.2.getD 0 0=1)(hgr:g.rules.length<=1000000)(σ:Sto):Cv 70 [grV g,fV F,nV 1] σ (Xg (fT g F c 0)):=by
 obtain⟨E,hci,h0E⟩:=Aho hF h0 hc;obtain⟨i0,hi0⟩:=au_.1 h0E;have hL:Lst g F c E:=⟨hF,hFB,hci,hgr⟩;have hkb:=hL.kb i0 0 hi0 Om
 have h117:∀σ,Cv 117 [grV g] σ (iV 0):=fun σ=>by
  have:=f117 g σ hB
  grind
 have h122:∀σ,Cv 122 [fV F] σ (.tup [ctV F c,iV 0]):=fun σ=>by
  have:=f122 hF hFB h0 σ;unfold cntV at this
  grind
 have hat:=O4 (l:=c.2) (i:=0) gr;rw[dv]at hat;obtain⟨T,hTT⟩:∃T,fT g F c 0=T:=⟨_,rfl⟩;rw[hTT]at hkb⊢;have hno:∀b:Bool,b=true->b=false->False:=gr;refine gm_ ?_;refine Mo Tryz.func70 (Ke _ _ Tryz.func70) rfl rfl fun hw hu0=>?_
 iterate  12 refine G ?_
 refine Ca (h117 _) ?_
 iterate  7 refine G ?_
 refine A0 rfl gr (fun h1=>?_)
 iterate  4 refine G ?_
 refine Ca (h122 _) ?_
 iterate  14 refine G ?_
 refine A0 rfl gr (fun h2=>?_)
 iterate  5 refine G ?_
 refine TOr 2 ?_ (fun hg=>?_) ?_
 rotate_left
 ·iterate  2 refine Gn hg ?_
  exact Ez
 iterate  2 refine G ?_
 refine A0 rfl gr (fun h3=>?_)
 iterate  16 refine G ?_
 refine O1 (Gx Am2) ?_
 iterate  2 refine G ?_
 obtain⟨aM,haM⟩:∃aM,nx σ.bump=aM:=⟨_,rfl⟩;obtain⟨σ1,hσ1⟩:∃σ1,σ.bump.new (.map 289 [] 0)=σ1:=⟨_,rfl⟩;rw[haM,hσ1];rw[Bm]at haM;have n1:nx σ1=nx σ+2:=gr;have g1:∀b,b<nx σ->σ1.get b=σ.get b:=gr
 have hM1:MsS g F c σ1 aM:=⟨[],⟨0,by rw[←hσ1,ag_,if_pos gr];rfl⟩,fun n t h=>by cases h⟩
 iterate  2 refine G ?_
 refine Dy fun df=>X0 ?_
 iterate  5 refine G ?_
 refine DF (A1 elC Ep rfl rfl hat) ?_;refine G ?_;refine DF (show As Ew _ _ _ _ (nV 1) _ from Ak7 (p:=1) (q:=1) okC rfl rfl) ?_
 iterate  2 refine G ?_
 refine⟨rfl,rfl,?_⟩;refine G ?_
 refine Hz (fun q:Nat=>[(5,.pv [nV 1]),(11,lV g F c),(12,.bool (Awj (decide ((4000:Int)<Int.ofNat (msN T))) q)),(13,.bool (Awj (decide ((100:Int)<Int.ofNat (msD T))) q)),(14,.mp aM),(52,nV 1),(53,nV q)]) (fun q σ'=>q<=1/\MsS g F c σ' aM/\nx σ+2<=nx σ'/\∀b,b<nx σ->σ'.get b=σ.get b) (fun q=>1-q) 0 SL ⟨aq_ _,hM1,by omega,g1⟩ ?_
 rintro q σ2 ⟨hq,hM2,n2,g2⟩
 iterate  5 refine G ?_
 refine A0 rfl ?_ ?_<;>intro h4
 ·have hq0:q=0:=gr;subst hq0
  iterate  13 refine G ?_
  refine Az rfl rfl rfl rfl (f123 hL i0 0 hi0 Om aM σ2 hM2 Om) ?_;rintro _ σ3 ⟨rfl,hM3,n3,g3⟩;rw[hTT]
  iterate  9 refine G ?_
  refine A0 rfl gr (fun h5=>?_)
  refine G ?_;refine Dy fun df=>X0 ?_
  iterate  2 refine G ?_
  refine Bg rfl rfl rfl rfl rfl rfl rfl (Ae fdC rfl rfl) (Bg rfl rfl rfl rfl rfl rfl rfl (Ac ldC rfl rfl rfl) (Bg rfl rfl rfl rfl rfl rfl rfl (Wv (q:=4000) okC rfl rfl) (DF (Au rfl rfl rfl) ?_)))
  iterate  2 refine G ?_
  refine Bg rfl rfl rfl rfl rfl rfl rfl (Ae fdC rfl rfl) (Bg rfl rfl rfl rfl rfl rfl rfl (Ac ldC rfl rfl rfl) (Bg rfl rfl rfl rfl rfl rfl rfl (Wv (q:=100) okC rfl rfl) (DF (Au rfl rfl rfl) ?_)))
  iterate  3 refine G ?_
  refine⟨rfl,rfl,?_⟩
  iterate  4 refine G ?_
  refine⟨1,gr,SL,nl,hM3,by omega,gr⟩
 ·have hq1:q=1:=gr;subst hq1
  iterate  8 refine G ?_
  refine A0 rfl ?_ ?_<;>intro h5
  ·have hb1:4000<M6 T:=by
    have h:(4000:Int)<Int.ofNat (msN T):=of_decide_eq_true h5;have h:4000<msN T:=Int.ofNat_lt.1 h;unfold msN at h;omega
   iterate  6 refine G ?_
   exact⟨_,rfl,_,σ,am_ hw ⟨by omega,gr⟩,nl,.same rfl,by unfold Xg;rw[if_pos hb1];rfl,rfl⟩
  ·have hb1:¬4000<M6 T:=fun h=>by
    have h':4000<msN T:=by unfold msN;omega
    exact of_decide_eq_false h5 (Int.ofNat_lt.2 h')
   iterate  5 refine G ?_
   refine A0 rfl ?_ ?_<;>intro h6
   ·have hd1:100<dpT T 1:=by
     have h:(100:Int)<Int.ofNat (msD T):=of_decide_eq_true h6;exact Int.ofNat_lt.1 h
    iterate  6 refine G ?_
    exact⟨_,rfl,_,σ,am_ hw ⟨by omega,gr⟩,nl,.same rfl,by unfold Xg;rw[if_neg hb1,if_pos hd1];rfl,rfl⟩
   ·have hd1:¬100<dpT T 1:=fun h=>of_decide_eq_false h6 (Int.ofNat_lt.2 h)
    iterate  3 refine G ?_
    refine O1 (Bj (n:=nx σ2) ziC rfl) ?_;refine G ?_;obtain⟨aO,haO⟩:∃aO,nx σ2=aO:=⟨_,rfl⟩;obtain⟨σ6,hσ6⟩:∃σ6,σ2.new (.cells [nS])=σ6:=⟨_,rfl⟩;rw[haO,hσ6];have n6:nx σ6=aO+1:=gr;have g6:∀b,b<aO->σ6.get b=σ2.get b:=gr;have o6:σ6.get aO=some (.cells [nS]):=gr
    iterate  6 refine G ?_
    refine A0 rfl (fun h7=>?_) gr
    iterate  3 refine G ?_
    refine Ca (f124 (g:=g) (F:=F) (c:=c) 0 _) ?_
    iterate  2 refine G ?_
    obtain⟨aY,haY⟩:∃aY,nx σ6+1=aY:=⟨_,rfl⟩;obtain⟨σ7,hσ7⟩:∃σ7,σ6.bump.new (.loop .ready)=σ7:=⟨_,rfl⟩;have n7:nx σ7=aO+3:=gr;have g7:∀b,b<nx σ6->σ7.get b=σ6.get b:=gr;have y7:σ7.get aY=some (.loop .ready):=gr;refine L6 rfl (fun tm htm=>?_)
    rw[hσ7,haY];refine et_ (f159 hL i0 0 hi0 Om _ ⟨aY,tm,Tryz.f70.ntmps,_,_,_⟩ (aO+3) (fun τ=>τ.get aY=some (.loop .ready)/\τ.get aO=some (.cells [nS])/\∀b,b<nx σ->τ.get b=σ.get b) (fun x τ=>x=.exit 4/\τ.get aY=some (.loop (H2 (.exit 4)))/\τ.get aO=some (.cells [slV eT 2 [T]])/\∀b,b<nx σ->τ.get b=σ.get b) σ7 (ap_ ..) ⟨gr,?s,?j,?y⟩ ⟨y7,gr,gr⟩ Om) ?post
    case s=>
     rintro τ τ' ⟨h1,h2,h3⟩ hg;exact⟨gr,gr,gr⟩
    case j=>
     rintro x τ τ' ⟨h1,h2,h3,h4⟩ hg;exact⟨h1,gr,gr,gr⟩
    case y=>
     rintro τ ⟨hyt,hot,hgt⟩ hBt
     obtain⟨lk,kk,hT⟩:∃lk kk,T=.node lk kk:=by cases T;grind
     have ot:∀σ,Cv 125 [.agg [sV lk,slV eT 2 kk]] σ (.agg [sV lk,slV eT 2 kk]):=fun σ=>by
      have:=f125 hkb σ
      rwa[hT,Cg]at this
     have hsl:slV eT 2 [T]=.sv [sV lk,slV eT 2 kk] 2 1 none:=by
      show AV.sv ([T].flatMap eT) 2 1 none=_
      rw[bs_,fk_,bh_,hT,Cl]
     have hbt:AV.beq (.agg [sV lk,slV eT 2 kk]) (.agg [sV lk,slV eT 2 kk])=true:=by
      have:=Z8 T;rw[hT,Cl]at this;exact this
     have hut:∀N,AV.unds N [sV lk,slV eT 2 kk]=true:=fun N=>by
      have:=Es (N:=N) T
      rwa[hT,Cl]at this
     have htv:En T=.agg [sV lk,slV eT 2 kk]:=by rw[hT,Cg]
     rw[hTT,htv];obtain⟨τ1,hτ1⟩:∃τ1,τ.set aY (.loop .busy)=τ1:=⟨_,rfl⟩;have nt1:nx τ1=nx τ:=gr;have gt1:∀b,b≠aY->τ1.get b=τ.get b:=gr;have yt1:τ1.get aY=some (.loop .busy):=gr;have ot1:τ1.get aO=some (.cells [nS]):=gr;obtain⟨aN,haN⟩:∃aN,nx τ1=aN:=⟨_,rfl⟩;obtain⟨τ2,hτ2⟩:∃τ2,τ1.new (.cells [.str [],nS])=τ2:=⟨_,rfl⟩;have nt2:nx τ2=aN+1:=gr;have gt2:∀b,b<aN->τ2.get b=τ1.get b:=gr;have et2:τ2.get aN=some (.cells [.str [],nS]):=gr;have ot2:τ2.get aO=some (.cells [nS]):=gr
     have hap:B6 τ1 2 40 nS 1 [.str [],nS]=some (.sr aN 0 2 1 none,τ2):=by rw[←hτ2,←haN];rfl
     obtain⟨τ5,hτ5⟩:∃τ5,(τ2.set aN (.cells [sV lk,slV eT 2 kk])).set aO (.cells [.sr aN 0 2 1 none])=τ5:=⟨_,rfl⟩;have nt5:nx τ5=aN+1:=gr;have ot5:τ5.get aO=some (.cells [.sr aN 0 2 1 none]):=gr;have et5:τ5.get aN=some (.cells [sV lk,slV eT 2 kk]):=gr;have gt5:∀b,b<aN->b≠aO->τ5.get b=τ2.get b:=gr;obtain⟨τ6,hτ6⟩:∃τ6,(τ5.kill aN).set aO (.cells [slV eT 2 [T]])=τ6:=⟨_,rfl⟩;have nt6:nx τ6=aN+1:=gr;have ot6:τ6.get aO=some (.cells [slV eT 2 [T]]):=gr;have gt6:∀b,b<aN->b≠aO->τ6.get b=τ5.get b:=gr;refine Tk htm rfl Kr Kr Kr hyt gr ?_
     iterate  3 refine G ?_
     refine⟨hyt,?_⟩;rw[show τ.set aY (.loop .busy)=τ1 from hτ1]
     iterate  2 refine G ?_
     refine Dy fun df=>?_
     refine Avd (Rr:=Dk [(125,[.agg [sV lk,slV eT 2 kk]],τ1,.agg [sV lk,slV eT 2 kk],τ1)]) (a:=aN) (b:=aO) (p:=0) (q:=0) [nS,.agg [sV lk,slV eT 2 kk],.agg [sV lk,slV eT 2 kk],nV 0,.sv [.str [],nS] 2 1 (some 1),.sr aN 0 2 1 none,.pr aN 0,An,An] 2 5 7 8 Di (Bw ⟨ot τ1,trivial⟩) rfl rfl Kr Kr rfl rfl rfl rfl Kr Kr Kr rfl rfl rfl rfl rfl rfl rfl Om (by decide) (by decide) (by decide) (by decide) (Bq rfl rfl Bv) (Av elC rfl slC rfl rfl rfl (new:=[.str [],nS]) rfl hap) (G1 (cs':=[sV lk,slV eT 2 kk]) et2 ldC rfl rfl rfl rfl) (G1 (cs':=[.sr aN 0 2 1 none]) ot2 ldC rfl rfl rfl rfl) (G1 (cs':=[.sr aN 0 2 1 none]) (by rw[aa_,if_neg Om];exact ot2) ldC rfl rfl rfl rfl) rfl rfl rfl hbt rfl Asw rfl rfl ?_ (fun _ _ _ _ _ _=>by kernel_rfl) (fun _ _ _ _ _=>by kernel_rfl) ?_
     ·intro k hk hc υ hυ
      match k,hk,hc with
      |0,_,_=>
       have hυ:υ=τ1:=by
        rcases hυ with h|h|h
        ·exact h
        ·exact h
        ·exact(hno _ Kr h).elim
       subst hυ;exact⟨_,_,_,rfl,rfl,E8 ot1 (ldC (t:=37)) rfl rfl,rfl,rfl⟩
      |1,_,_=>exact⟨_,_,_,rfl,rfl,Ac (ldC (t:=39)) rfl rfl rfl,rfl,hbt⟩
      |2,_,h=>cases h
      |3,_,_=>exact⟨_,_,_,rfl,rfl,Bf (slC (t:=37)) rfl rfl rfl,rfl,rfl⟩
      |4,_,_=>exact⟨_,_,_,rfl,rfl,Ai (elC (t:=37)) byW rfl rfl rfl,rfl,rfl⟩
      |5,_,h=>cases h
      |6,_,_=>exact⟨_,_,_,rfl,rfl,Br (elC (t:=37)) rfl rfl (by decide),rfl,Axv⟩
      |7,_,h=>cases h
      |8,_,h=>cases h
      |k+9,hk,_=>exact absurd hk (by simp)
     rw[hτ5];refine G ?_;refine Dy fun df=>?_
     refine Bo fun hw8=>?_
     refine Aby τ6 [(5,.pv [nV 1]),(17,.pr aO 0)] (by rw[←hτ6];exact Ds.cell hw8 ot5 Om fun υ hn hk=>.cons (by rw[hsl];exact .sr et5 hk (by rfl) (dj_ (hut _))) .nil) Om ⟨⟨_,rfl,.same rfl⟩,⟨_,rfl,.same (Jr Om)⟩,trivial⟩ ?_
     refine G ?_;refine O1 (lO ot6) ?_
     iterate  2 refine G ?_
     refine O1 (H4 (p:=1) (q:=1) okC rfl rfl) ?_;refine G ?_;refine A0 rfl (fun h8=>?_) gr
     refine G ?_
     refine⟨gr,by simp,⟨rfl,gr,gr,gr⟩,gr,gr⟩
    case post=>
     rintro u σ' ⟨⟨x,_,rfl,hy9,ho9,hg9⟩,n9,g9⟩;refine⟨.exit 4,hy9,?_⟩
     iterate  2 refine G ?_
     refine O1 (E8 (by rw[bf_,if_neg Om];exact ho9) ldC rfl rfl) ?_
     iterate  4 refine G ?_
     exact⟨_,rfl,_,σ,am_ hw ⟨gr,gr⟩,nl,.same (by
      show((AV.und (nx σ) (slV eT 2 [T]))&&(true&&true))=true
      rw[Fv Es];rfl),by unfold Xg;rw[if_neg hb1,if_neg hd1];rfl,rfl⟩
theorem Aj1:∀(l:List (Nat×List Sp)) {P Q:Pk},Pj l P=some Q->P.ways.length<=P.total->P.total<=40000->Q.ways.length<=Q.total/\Q.total<=40000
 |[],P,Q,h,h1,h2=>by cases h;grind
 |x::r,P,Q,h,h1,h2=>by
  unfold Pj at h
  split at h
  ·cases h
  ·rename_i P' hP
   unfold F7 at hP
   split at hP
   ·cases hP
   ·rename_i hn
    cases hP;exact Aj1 r h gr gr
theorem Aj2{g:Gr}{D:List Sp}{text:List Str}:∀(f i total:Nat) (L:List Sp) (nodes F:List Nde),total<=40000->(∀x∈nodes,x.ways.length<=40000)->Pf g D text f i total L nodes=some F->∀x∈F,x.ways.length<=40000
 |0,_,_,_,_,_,_,_,h=>by cases h
 |f+1,i,total,L,nodes,F,ht,hn,h=>by
  unfold Pf at h
  split at h
  ·grind
  ·split at h
   ·cases h
   ·rename_i s _ P hP
    obtain⟨b1,b2⟩:=Aj1 _ hP (aq_ _) ht;refine Aj2 f (i+1) P.total P.list _ F b2 (fun x hx=>?_) h
    grind
theorem Aj3{g:Gr}{D:List Sp}{text:List Str}{w:Sp}{F:List Nde}(hp:∀r∈g.rules,r.parts.length<=200)(h:Im g D text w=some F):FB F:=by
 obtain⟨h1,h2,h3⟩:=Acl h;refine⟨h3,fun x hx=>⟨Aj2 4002 0 0 [w] [] F (aq_ _) gr h x hx,fun v hv=>?_⟩⟩
 have ok:=h1 x hx v hv;rw[ok.len];obtain⟨rl,hrl⟩:=Ar ok.rule;unfold nPt rPt
 grind
theorem Vt{g:Gr}{s:Str}{t:List Str}:(∃e,Fj g s t=(none,e)/\e≠0)∨∃F D w,Fj g s t=(some F,0)/\Im g D t w=some F:=by
 unfold Fj
 by_cases h1:Eb g≠0
 ·rw[if_pos h1];grind
 ·rw[if_neg h1]
  by_cases h2:s∉g.sorts
  ·rw[if_pos h2];grind
  ·rw[if_neg h2]
   by_cases h3:t.length>200
   ·rw[if_pos h3];grind
   ·rw[if_neg h3]
    by_cases h4:(Ej g s t).sets.length<=t.length∨(s,0,t.length)∉(Ej g s t).done
    ·rw[if_pos h4];grind
    ·rw[if_neg h4];cases hp:Im g (Ej g s t).done t (s,0,t.length)with
     |none=>exact .inl ⟨_,rfl,by decide⟩
     |some F=>exact .inr ⟨F,_,_,rfl,hp⟩
theorem Ap5{g:Gr}{F:List Nde}(h:∀c,Yx F=some c->c.2.getD 0 0≠1):Mu g F=(Ek,191):=by
 unfold Mu
 grind
theorem f26(d:Db)(l:List Str)(σ:Sto)(hD:DbB d)(hvf:d.vars.length+d.frames.length<1000000)(hl:l.length<1000000):Cv 26 [dbV d,Af l] σ (.tup [En (B1 d l).1,iV (B1 d l).2]):=by
 have hG:=Yc d;have hGB:=Asj d;refine Aj Tryz.func26 rfl rfl fun hw hu0=>?_
 refine G3 ?_;refine O1 (Bu ziC) ?_;refine G2 ?_;obtain⟨σ1,hσ1⟩:∃σ1,σ.new (.cells [.str [],nS])=σ1:=⟨_,rfl⟩;rw[hσ1];have n1:nx σ1=nx σ+1:=gr;have g1:∀b,b<nx σ->σ1.get b=σ.get b:=gr;have r1:σ1.get (nx σ)=some (.cells [.str [],nS]):=gr;refine G3 ?_;refine Ca (f66 d _ hD hvf) ?_;refine G12 ?_;refine Ab rfl ?_ ?_<;>intro h1
 ·have he:(ofF d).2≠0:=gr
  have hr:B1 d l=(Ek,(ofF d).2):=by unfold B1;rw[if_pos he]
  refine G4 ?_;refine O1 (sO (cs':=[.str [],nS]) r1) ?_;refine G3 ?_
  exact⟨[.agg [.str [],nS],_],Am (vs:=[.str [],nS]) (ldC (t:=39)) rfl (by simp only[Sto.cells];grind) rfl (Ba rfl rfl),.tup [.agg [sV [],.sv [] 2 0 none],_],σ,am_ hw ⟨gr,gr⟩,nl,.tup (.cons (.agg (.cons (.same rfl) (.cons (.nils gr) .nil))) (.cons (.same rfl) .nil)),by rw[hr];rfl,rfl⟩
 have he:(ofF d).2=0:=gr;refine G8 ?_;cases l with
 |nil=>
  have hr:B1 d []=(Ek,2):=by unfold B1;grind
  refine Ab rfl (fun h2=>?_) gr
  refine G3 ?_;refine O1 (sO (cs':=[.str [],nS]) r1) ?_;refine G3 ?_
  exact⟨[.agg [.str [],nS],_],Am (vs:=[.str [],nS]) (ldC (t:=39)) rfl (by simp only[Sto.cells];grind) rfl (Ba rfl rfl),.tup [.agg [sV [],.sv [] 2 0 none],_],σ,am_ hw ⟨gr,gr⟩,nl,.tup (.cons (.agg (.cons (.same rfl) (.cons (.nils gr) .nil))) (.cons (.same rfl) .nil)),by rw[hr];rfl,rfl⟩
 |cons t text=>
  have hr0:B1 d (t::text)=if D7 t∉(ofF d).1.sorts then(Ek,11)else match Fj (ofF d).1 (D7 t) text with
   |(none,e)=>(Ek,if e=160 then 190 else e)
   |(some F,_)=>Mu (ofF d).1 F:=by conv=>{ lhs;unfold B1 };grind
  have hl0:text.length+1<1000000:=hl;refine Ab rfl ?_ ?_<;>intro h2
  ·grind
  refine G2 ?_;refine XS (l:=[(67,[sV t],σ1,sV (D7 t),σ1)]) ⟨f67 t σ1,trivial⟩ ?_;refine G ?_;refine DF (A1 (i:=0) elC (fun _=>rfl) rfl rfl rfl) ?_
  refine G3 ?_
  refine DF (Uu (enc:=e1) (l:=t::text) elC (fun _=>rfl) rfl rfl (by simp)) ?_
  refine G9 ?_
  refine Ca (f15 (ofF d).1.sorts (D7 t) _ (by have:=hGB.s;omega)) ?_
  refine G2 ?_;refine Ab rfl ?_ ?_<;>intro h3
  ·have hs:D7 t∉(ofF d).1.sorts:=gr;have hr:B1 d (t::text)=(Ek,11):=gr;refine G3 ?_;refine O1 (sO (cs':=[.str [],nS]) r1) ?_;refine G3 ?_
   exact⟨[.agg [.str [],nS],_],Am (vs:=[.str [],nS]) (ldC (t:=39)) rfl (by simp only[Sto.cells];grind) rfl (Ba rfl rfl),.tup [.agg [sV [],.sv [] 2 0 none],_],σ,am_ hw ⟨gr,gr⟩,nl,.tup (.cons (.agg (.cons (.same rfl) (.cons (.nils gr) .nil))) (.cons (.same rfl) .nil)),by rw[hr];rfl,rfl⟩
  have hs:D7 t∈(ofF d).1.sorts:=gr;rw[if_neg (fun q=>q hs)]at hr0
  refine G6 ?_;refine Ca (f68 (ofF d).1 (D7 t) text _ hGB Om) ?_;refine G3 ?_
  rcases Vt (g:=(ofF d).1) (s:=D7 t) (t:=text)with⟨e,hp,hne⟩|⟨F,D,w,hp,hpk⟩
  ·rw[hp]at hr0⊢;have hr0:B1 d (t::text)=(Ek,if e=160 then 190 else e):=hr0
   iterate 14 refine G ?_
   refine Ab rfl (fun h4=>absurd (of_decide_eq_true h4) hne) (fun h4=>?_)
   refine G5 ?_;refine Ab rfl ?_ ?_<;>intro h5
   ·have hr:B1 d (t::text)=(Ek,190):=gr;refine G3 ?_;refine O1 (sO (cs':=[.str [],nS]) r1) ?_;refine G3 ?_
    exact⟨[.agg [.str [],nS],_],Am (vs:=[.str [],nS]) (ldC (t:=39)) rfl (by simp only[Sto.cells];grind) rfl (Ba rfl rfl),.tup [.agg [sV [],.sv [] 2 0 none],_],σ,am_ hw ⟨gr,gr⟩,nl,.tup (.cons (.agg (.cons (.same rfl) (.cons (.nils gr) .nil))) (.cons (.same rfl) .nil)),by rw[hr];rfl,rfl⟩
   ·have hr:B1 d (t::text)=(Ek,e):=gr;refine G4 ?_;refine O1 (sO (cs':=[.str [],nS]) r1) ?_;refine G3 ?_
    exact⟨[.agg [.str [],nS],_],Am (vs:=[.str [],nS]) (ldC (t:=39)) rfl (by simp only[Sto.cells];grind) rfl (Ba rfl rfl),.tup [.agg [sV [],.sv [] 2 0 none],_],σ,am_ hw ⟨gr,gr⟩,nl,.tup (.cons (.agg (.cons (.same rfl) (.cons (.nils gr) .nil))) (.cons (.same rfl) .nil)),by rw[hr];rfl,rfl⟩
  ·rw[hp]at hr0⊢;have hr0:B1 d (t::text)=Mu (ofF d).1 F:=hr0;obtain⟨hF,h0,hF4⟩:=Acl hpk;have hFB:=Aj3 hG.prt hpk
   iterate 14 refine G ?_
   refine Ab rfl (fun h4=>?_) gr
   refine G5 ?_;refine Ca (f69 hF hFB h0 _) ?_;refine G11 ?_;refine TOr 2 ?_ (fun hg=>?_) ?_
   rotate_left
   ·iterate 2 refine Gn hg ?_
    exact Ez
   refine G ?_;refine Ab rfl ?_ ?_<;>intro h5
   ·have hr:B1 d (t::text)=(Ek,191):=by
     rw[hr0];refine Ap5 fun c hc h1=>?_
     unfold Ad4 at h5
     grind
    refine G3 ?_;refine O1 (sO (cs':=[.str [],nS]) r1) ?_;refine G3 ?_
    exact⟨[.agg [.str [],nS],_],Am (vs:=[.str [],nS]) (ldC (t:=39)) rfl (by simp only[Sto.cells];grind) rfl (Ba rfl rfl),.tup [.agg [sV [],.sv [] 2 0 none],_],σ,am_ hw ⟨gr,gr⟩,nl,.tup (.cons (.agg (.cons (.same rfl) (.cons (.nils gr) .nil))) (.cons (.same rfl) .nil)),by rw[hr];rfl,rfl⟩
   have dv:∃c,Yx F=some c/\c.2.getD 0 0=1:=by
    rw[bv_]at h5;have h6:(Ad4 F).2=0:=gr;have h7:Int.ofNat (Ad4 F).1=1:=gr;have h7:(Ad4 F).1=1:=ci_ h7;unfold Ad4 at h6 h7
    grind
   obtain⟨c,hc,h1c⟩:=dv;obtain⟨T,hT⟩:∃T,fT (ofF d).1 F c 0=T:=⟨_,rfl⟩
   have h70:∀σ,Cv 70 [grV (ofF d).1,fV F,nV 1] σ (Xg T):=fun σ=>by
    have:=f70 hGB Asi hF hFB h0 hc h1c (by have:=hG.len;omega) σ
    grind
   have hr1:B1 d (t::text)=if M6 T>4000 then(Ek,4)else if dpT T 1>100 then(Ek,9)else(T,0):=by
    rw[hr0,Mu,hc];simp only[h1c];rw[show Yy (ofF d).1 F c.2 (F.length+1) 0=T from hT]
    rfl
   refine G5 ?_;refine Ca (h70 _) ?_;unfold Xg
   by_cases hb1:4000<M6 T
   ·rw[if_pos hb1];have hr:B1 d (t::text)=(Ek,4):=gr;refine G12 ?_;refine Ab rfl (fun h6=>?_) gr
    refine G4 ?_;refine O1 (sO (cs':=[.str [],nS]) r1) ?_;refine G3 ?_
    exact⟨[.agg [.str [],nS],_],Am (vs:=[.str [],nS]) (ldC (t:=39)) rfl (by simp only[Sto.cells];grind) rfl (Ba rfl rfl),.tup [.agg [sV [],.sv [] 2 0 none],_],σ,am_ hw ⟨gr,gr⟩,nl,.tup (.cons (.agg (.cons (.same rfl) (.cons (.nils gr) .nil))) (.cons (.same rfl) .nil)),by rw[hr];rfl,rfl⟩
   ·by_cases hd1:100<dpT T 1
    ·rw[if_neg hb1,if_pos hd1];have hr:B1 d (t::text)=(Ek,9):=gr;refine G12 ?_;refine Ab rfl (fun h6=>?_) gr
     refine G4 ?_;refine O1 (sO (cs':=[.str [],nS]) r1) ?_;refine G3 ?_
     exact⟨[.agg [.str [],nS],_],Am (vs:=[.str [],nS]) (ldC (t:=39)) rfl (by simp only[Sto.cells];grind) rfl (Ba rfl rfl),.tup [.agg [sV [],.sv [] 2 0 none],_],σ,am_ hw ⟨gr,gr⟩,nl,.tup (.cons (.agg (.cons (.same rfl) (.cons (.nils gr) .nil))) (.cons (.same rfl) .nil)),by rw[hr];rfl,rfl⟩
    ·rw[if_neg hb1,if_neg hd1];have hr:B1 d (t::text)=(T,0):=gr;refine G12 ?_;refine Ab rfl gr (fun h6=>?_)
     refine G ?_
     obtain⟨lk,kk,hTn⟩:∃lk kk,T=.node lk kk:=by cases T;grind
     have hek:eT T=[sV lk,slV eT 2 kk]:=by rw[hTn];exact Cl lk kk
     refine G3 ?_
     refine O1 (A1 (i:=0) elC Dh rfl rfl rfl) (O1 (Ac ldC rfl rfl (show Cz 2 true (eT T++_)=some (.agg [sV lk,slV eT 2 kk])from by rw[←hek];exact A6 (Dh _) _)) ?_)
     refine O1 (sO (cs':=[sV lk,slV eT 2 kk]) r1) ?_;refine G3 ?_
     exact⟨[.agg [sV lk,slV eT 2 kk],iV 0],Am (vs:=[sV lk,slV eT 2 kk]) (ldC (t:=39)) rfl (by simp only[Sto.cells];grind) rfl (Ba rfl rfl),_,σ,am_ hw ⟨gr,gr⟩,nl,.same (by
      have:=Es (N:=nx σ) T;rw[hek]at this
      show(AV.unds (nx σ) [sV lk,slV eT 2 kk]&&(true&&true))=true
      rw[this];rfl),by rw[hr];show _=AV.tup [.agg (eT T),iV 0];rw[hek];rfl,rfl⟩
structure Rs where
 equal:List Str
 bound:List Str
def eRs(r:Rs):List AV:=[Af r.equal,Af r.bound]
def bkC(d:Db)(r:Rs)(mT:Nat):List AV:=[.mp mT,Af d.consts,Af d.vars,slV eF 8 d.frames,Af (ofF d).1.sorts,slV eR 4 (ofF d).1.rules,Af r.equal,Af r.bound]
def Nv(l:List Str):Bool:=decide (l[0]? =some [124,45])
def rlD(d:Db)(s:Str):Rl:=(F4 (ofF d).1.rules s).getD zRl
def rlB(d:Db)(s:Str):Bool:=(F4 (ofF d).1.rules s).isSome
def vrD(d:Db)(s:Str):Bool:=rlB d s&&(rlD d s).var
theorem f106(l:List Str)(σ:Sto):Cv 106 [Af l] σ (.bool (Nv l)):=by
 refine Aj Tryz.func106 rfl rfl fun hw hu0=>?_
 refine G4 ?_;cases l with
 |nil=>
  refine G6 ?_;refine Co rfl rfl rfl rfl rfl rfl (Co rfl rfl rfl rfl rfl rfl (Co rfl rfl rfl rfl rfl rfl (Co rfl rfl rfl rfl rfl rfl (O1 (Au rfl rfl rfl) ?_))));refine G3 ?_;exact⟨_,rfl,_,_,a_ hw nl (fun _ _=>rfl),nl,.same rfl,rfl,rfl⟩
 |cons a l=>
  have hgt:decide ((0:Int)<Int.ofNat (a::l).length)=true:=decide_eq_true gr;refine G5 ?_;rw[hgt];refine G ?_;refine Bi rfl rfl rfl rfl rfl noR rfl rfl (Ag rfl) (Bi rfl rfl rfl rfl rfl noR rfl rfl (A1 (i:=0) elC (fun _=>rfl) rfl rfl rfl) ?_)
  refine Bi rfl rfl rfl rfl rfl noR rfl rfl (Ac ldC rfl rfl rfl) (Bi rfl rfl rfl rfl rfl noR rfl rfl (H5 (q:=[124,45]) okC rfl rfl) (O1 (A3 rfl rfl rfl) ?_));refine G3 ?_
  exact⟨_,rfl,_,_,a_ hw nl (fun _ _=>rfl),nl,.same rfl,(by unfold Nv;rw[List.getElem?_cons_zero];simp;rfl),rfl⟩
theorem f107(h:Hp)(σ:Sto):Cv 107 [.agg (eH h)] σ (.bool (!h.floating)):=by
 refine Aj Tryz.func107 rfl rfl fun hw hu0=>?_
 iterate 13 refine G ?_
 exact⟨_,rfl,_,_,a_ hw nl (fun _ _=>rfl),nl,.same rfl,rfl,rfl⟩
theorem f144{d:Db}{r:Rs}{P mT:Nat}{σ:Sto}(hP:σ.get P=some (.cells (bkC d r mT)))(s:Str):Cv 144 [.pr P 0,sV s] σ (.tup [.agg (eR (rlD d s)),.bool (rlB d s)]):=by
 refine Aj Tryz.func144 rfl rfl fun hw hu0=>?_
 refine G2 ?_;refine O1 (Bu ziC) ?_;refine G2 ?_;obtain⟨σ1,hσ1⟩:∃σ1,σ.new (.cells [.str [],.str [],nS,.bool false])=σ1:=⟨_,rfl⟩;rw[hσ1];have n1:nx σ1=nx σ+1:=gr;have g1:∀b,b<nx σ->σ1.get b=σ.get b:=gr;have r1:σ1.get (nx σ)=some (.cells [.str [],.str [],nS,.bool false]):=gr;have p1:σ1.get P=some (.cells (bkC d r mT)):=(g1 P (hw _ _ hP).1).trans hP;refine G5 ?_;refine O1 (lO p1) ?_;refine G ?_
 refine Ca (f126 (ofF d).1 s _ (by have:=(Yc d).len;omega)) ?_
 refine G2 ?_
 rcases L9 (l:=(ofF d).1.rules) (s:=s)with⟨hf,hro⟩|⟨n,rl,hf,hat,hro⟩
 ·rw[hf];refine G6 ?_;refine Ab rfl (fun h1=>?_) gr
  refine G3 ?_;refine O1 (sO (cs':=[.str [],.str [],nS,.bool false]) r1) ?_;refine G3 ?_
  exact⟨[.agg [.str [],.str [],nS,.bool false],_],Am (vs:=[.str [],.str [],nS,.bool false]) (ldC (t:=202)) rfl (by simp only[Sto.cells];grind) rfl (Ba rfl rfl),.tup [.agg (eR zRl),.bool false],σ,am_ hw ⟨gr,gr⟩,nl,.tup (.cons (.agg (.cons (.same rfl) (.cons (.same rfl) (.cons (.nils gr) (.cons (.same rfl) .nil))))) (.cons (.same rfl) .nil)),by unfold rlD rlB;rw[hro];rfl,rfl⟩
 ·rw[hf];have hnn:¬(Int.ofNat n<0):=gr;refine G6 ?_;refine Ab rfl (fun h1=>absurd (of_decide_eq_true h1) hnn) (fun h1=>?_)
  refine G7 ?_;refine O1 (lO p1) ?_;refine G ?_;refine O1 (A1 elC Qy rfl rfl hat) (O1 (Ac ldC rfl rfl (A6 (Qy rl) _)) (O1 (sO (cs':=eR rl) r1) ?_));refine G3 ?_
  exact⟨[.agg (eR rl),_],Am (vs:=eR rl) (ldC (t:=202)) rfl (by simp only[Sto.cells];grind) rfl (Ba rfl rfl),.tup [.agg (eR rl),.bool true],σ,am_ hw ⟨gr,gr⟩,nl,.same (by
    show(AV.unds (nx σ) (eR rl)&&(true&&true))=true
    rw[Vj];rfl),by unfold rlD rlB;rw[hro];rfl,rfl⟩
theorem f109{d:Db}{r:Rs}{P mT:Nat}{σ:Sto}(hP:σ.get P=some (.cells (bkC d r mT)))(s:Str)(ks:List Ax):Cv 109 [.pr P 0,.agg [sV s,slV eT 2 ks]] σ (.bool (vrD d s)):=by
 refine Aj Tryz.func109 rfl rfl fun hw hu0=>?_
 refine G10 ?_;refine Ca (f144 hP s) ?_;refine G10 ?_;refine TAn 2 ?_ (fun hg=>?_) ?_
 rotate_left
 ·iterate 2 refine Gn hg ?_
  exact Ez
 refine G3 ?_;exact⟨_,rfl,_,_,a_ hw nl (fun _ _=>rfl),nl,.same rfl,rfl,rfl⟩
theorem f104{g:Gr}(hB:GrB g)(s:Str)(σ:Sto):Cv 104 [sV s,.pv [Af g.sorts,slV eR 4 g.rules]] σ (.bool (!(g.sorts.any fun x=>decide (s=x)))):=by
 refine Aj Tryz.func104 rfl rfl fun hw hu0=>?_
 refine G9 ?_
 refine Ca (f15 g.sorts s _ (by have:=hB.s;omega)) ?_
 refine G4 ?_;exact⟨_,rfl,_,_,a_ hw nl (fun _ _=>rfl),nl,.same rfl,rfl,rfl⟩
def Io(ps:List Pt):List Str:=(ps.filter fun p=>decide (p.sort≠[])).map (·.sort)
def Ap6:List Str->Bool
 |[a,b]=>decide (a=b)
 |_=>false
def eqD(d:Db)(s:Str):Bool:=(rlB d s&& !(rlD d s).var)&&Ap6 (Io (rlD d s).parts)
theorem Ap7{ps:List Pt}{i:Nat}{p:Pt}(h:ps[i]? =some p):Io (ps.take (i+1))=if p.sort≠[]then Io (ps.take i)++[p.sort]else Io (ps.take i):=by
 have e:ps.take (i+1)=ps.take i++[p]:=by rw[List.take_add_one,h];rfl
 unfold Io
 grind
theorem As8{ps:List Pt}:(Io ps).length<=ps.length:=by unfold Io;grind
theorem Ave{d:Db}{s:Str}:(rlD d s).parts.length<=200:=by
 unfold rlD;cases h:F4 (ofF d).1.rules s with
 |none=>exact aq_ _
 |some r=>
  have hm:r∈(ofF d).1.rules:=by
   rcases L9 (l:=(ofF d).1.rules) (s:=s)with⟨_,hro⟩|⟨n,rl,_,hat,hro⟩
   ·grind
   grind
  exact(Yc d).prt r hm
theorem f103{d:Db}{r:Rs}{P mT:Nat}{σ:Sto}(hP:σ.get P=some (.cells (bkC d r mT)))(s:Str):Cv 103 [.pr P 0,sV s] σ (.bool (eqD d s)):=by
 refine Aj Tryz.func103 rfl rfl fun hw hu0=>?_
 refine G8 ?_;refine Ca (f144 hP s) ?_;refine G3 ?_;refine Ho ziC ldC rfl (fun _=>rfl) rfl (A7 (Qy _)) rfl rfl ?_
 refine G8 ?_;refine TOr 2 ?_ (fun hg=>?_) ?_
 rotate_left
 ·iterate 2 refine Gn hg ?_
  exact Ez
 refine G ?_;refine Ab rfl ?_ ?_<;>intro h1
 ·have hf:eqD d s=false:=by
   unfold eqD
   grind
  refine G5 ?_
  exact⟨_,rfl,_,σ,a_ hw nl (fun _ _=>rfl),nl,.same rfl,(by rw[hf];rfl),rfl⟩
 ·have hbv:rlB d s=true/\(rlD d s).var=false:=gr
  have heq:eqD d s=Ap6 (Io (rlD d s).parts):=by unfold eqD;grind
  have hpl:=Ave (d:=d) (s:=s);obtain⟨ps,hps⟩:∃ps,(rlD d s).parts=ps:=⟨_,rfl⟩;rw[hps]at hpl heq;refine G9 ?_;refine O1 (Ac ldC rfl rfl (hps▸Z7 (rlD d s) _)) ?_;refine G4 ?_;refine Ci (fun q:Nat×AV=>[(7,q.2),(23,slV ePt 3 ps),(24,nV ps.length),(25,nV q.1)]) (fun q σ0=>q.1<=ps.length/\Own σ0 (nx σ) e1 1 (Io (ps.take q.1)) q.2/\nx σ<=nx σ0/\∀b,b<nx σ->σ0.get b=σ.get b) (fun q=>ps.length-q.1) (0,nS) SL ⟨aq_ _,.nil,nl,fun _ _=>rfl⟩ ?_
  rintro⟨i0,v0⟩ σ0 ⟨hi0,bf,n0,g0⟩;have hi0:i0<=ps.length:=hi0;have bf:Own σ0 (nx σ) e1 1 (Io (ps.take i0)) v0:=bf
  have hsl:(Io (ps.take i0)).length<=200:=by have:=As8 (ps:=ps.take i0);grind
  refine G5 ?_;refine Ab rfl ?_ ?_<;>intro h2
  ·have bc:i0<ps.length:=Int.ofNat_lt.1 (of_decide_eq_true h2);obtain⟨p,hp⟩:=Ar bc;have htk:=Ap7 hp;refine G5 ?_;refine O1 (A1 elC Jy rfl rfl hp) (O1 (Ac ldC rfl rfl (A6 (Jy p) _)) (Ho ziC ldC rfl (fun _=>rfl) rfl (A7 (Jy p)) rfl rfl ?_))
   refine G4 ?_;refine O1 (Ac ldC rfl rfl (Tt p)) (O1 (Ko (q:=[]) okC rfl rfl) ?_);refine G ?_;refine Ab rfl ?_ ?_<;>intro h3
   ·have cg:p.sort≠[]:=gr;rw[if_pos cg]at htk
    obtain⟨σ1,hap,n1,cn,g1⟩:=dn_ (enc:=e1) (sz:=1) (by':=16) (fun _=>rfl) n0 bf p.sort (by simp only[sizeLim];omega)
    refine G3 ?_;refine O1 (Ac ldC rfl rfl (Tt p)) (Cx (Ai elC byW rfl rfl rfl) (Dv (len:=1)) rfl rfl (O1 (Av elC rfl slC rfl rfl rfl (new:=e1 p.sort) rfl hap) ?_));refine G6 ?_
    refine⟨(i0+1,_),gr,SL,gr,gr,by omega,fun b hb=>by rw[g1 b Om (fun e=>by have:=(bf.adr_lt e).1;omega)];exact g0 b hb⟩
   ·have cg:p.sort=[]:=gr;rw[if_neg (fun q=>q cg)]at htk
    refine G5 ?_;refine⟨(i0+1,v0),gr,SL,gr,gr,n0,g0⟩
  ·have bj:ps.length<=i0:=bm_.1 (Int.not_lt.1 (fun q=>of_decide_eq_false h2 q))
   rw[at_ bj]at bf hsl;have hl0:=bf.lenA;refine G ?_;rw[heq]
   by_cases hg0:∃a b,Io ps=[a,b]
   ·obtain⟨a,b,hab⟩:=hg0;rw[hab]at bf hl0⊢;have hg3:decide (Int.ofNat [a,b].length=2)=true:=rfl
    obtain⟨aa,tl,_,_,rfl,hga⟩:=bf.sr (i:=0) (by simp)
    refine G ?_;refine X0 ?_;refine G ?_;refine DF (Bf slC rfl hl0.1 hl0.2) ?_;refine G3 ?_
    refine Xn (Br elC rfl rfl (by simp)) ?_
    refine Xn (Dg (enc:=e1) (fun _=>rfl) ldC rfl hga (show[a,b][0]? =some a from rfl) fun _=>rfl) ?_
    refine G ?_
    refine Xn (Br elC rfl rfl (by simp)) ?_
    refine Xn (Dg (enc:=e1) (fun _=>rfl) ldC rfl hga (show[a,b][1]? =some b from rfl) fun _=>rfl) ?_
    refine G4 ?_;refine⟨rfl,rfl,?_⟩;refine G ?_;exact⟨_,rfl,_,σ,am_ hw ⟨n0,g0⟩,nl,.same rfl,rfl,rfl⟩
   ·have hg3:decide (Int.ofNat (Io ps).length=2)=false:=decide_eq_false fun h=>hg0 (by
     have h:(Io ps).length=2:=ci_ h
     match hq:Io ps,h with
     |[a,b],_=>exact⟨a,b,rfl⟩)
    have htw:Ap6 (Io ps)=false:=by
     unfold Ap6
     grind
    rw[htw];refine G ?_;refine X0 ?_;refine G ?_;refine DF (Bf slC rfl hl0.1 hl0.2) (DF (H4 (q:=2) okC rfl rfl) (DF (Ag rfl) (Wx (w:=R1 hg3) (Wx (w:=R1 hg3) (Wx (w:=R1 hg3) (Wx (w:=R1 hg3) (Wx (w:=R1 hg3) ?_)))))));refine Wx (w:=R1 hg3) (Wx (w:=R1 hg3) (DF (Au rfl (R1 hg3) rfl) (DF (Gd rfl) (C1 ?_))));refine⟨rfl,rfl,?_⟩;refine Amj ?_;exact⟨_,rfl,_,σ,am_ hw ⟨n0,g0⟩,nl,.same rfl,rfl,rfl⟩
theorem f102{d:Db}{r:Rs}{P mT:Nat}{σ:Sto}(hP:σ.get P=some (.cells (bkC d r mT)))(s:Str):Cv 102 [sV s,.pv [.pr P 0]] σ (.bool (!eqD d s)):=by
 refine Aj Tryz.func102 rfl rfl fun hw hu0=>?_
 refine G8 ?_;refine Ca (f103 hP s) ?_;refine G4 ?_;exact⟨_,rfl,_,_,a_ hw nl (fun _ _=>rfl),nl,.same rfl,rfl,rfl⟩
end Go.AM
