/- A part of the proof; shortened by program. -/
import Derived.Test.YtmkaboegdoadhaaGreatDoorP22
set_option maxRecDepth 100000
set_option maxHeartbeats 4000000
set_option linter.unusedSimpArgs false
set_option linter.unusedVariables false
namespace Go.AM
open Go Go.Proofs
def nPs(ps:List Pt):Nat:=(ps.filter fun p=>decide (p.sort≠[])).length
theorem Ahj{ps:List Pt}:nPs ps<=ps.length:=ee_ _ _
theorem Ajr{ps:List Pt}{i:Nat}{p:Pt}(h:ps[i]? =some p):nPs (ps.take (i+1))=if p.sort=[]then nPs (ps.take i)else nPs (ps.take i)+1:=by
 have e:ps.take (i+1)=ps.take i++[p]:=by rw[List.take_add_one,h];rfl
 unfold nPs
 grind
theorem Au2(n:Nat):rep [.str [],.int .i64 0,.int .i64 0] n=(List.replicate n zSp).flatMap eSp:=by
 induction n with
 |zero=>rfl
 |succ n ih=>rw[List.replicate_succ,bs_,←ih];rfl
theorem O3{ρ:Ad}{σ:Sto}{Rr:Rec}{t n sz by':Nat}{x y:Operand}{z:List AV}(hi:elI Ew.P t=some (sz,by',some z))(hx:Ah Ew ρ x=some (nV n))(hy:Ah Ew ρ y=some (nV n))(hl:n*(by'+1)<=sizeLim)(hz:Nat.beq z.length sz=true:=by rfl):As Ew Rr (.makeSlice t x y) ρ σ (.sr (nx σ) 0 sz n (some n)) (σ.new (.cells (rep z n))):=fun tm h=>by
 unfold elI at hi
 split at hi
 ·rename_i ti hti
  split at hi
  ·rename_i e he
   split at hi
   ·rename_i te hte
    simp only[af_,ba_]at hi;obtain⟨rfl,rfl,hz0⟩:=hi
    have hb:(Nat.ble n n&&Nat.ble (n*(te.bytes+1)) sizeLim)=true:=by
     rw[ar_ (Nat.le_refl n),ar_ hl];rfl
    have hx':opd Ew tm x=nV n:=h.opd hx;have hy':opd Ew tm y=nV n:=h.opd hy;simp only[opA,Aw,hti,he,hte,hz0,hz,hx',hy']
    show cond (Nat.ble n n&&Nat.ble (n*(te.bytes+1)) sizeLim) _ _=_
    rw[hb];rfl
   ·cases hi
  ·cases hi
 ·cases hi
theorem Acs{N:Nat}(ps:List Pt):AV.unds N [slV ePt 3 ps]=true:=by
 have:=Vj (N:=N) ⟨[],[],ps,false⟩;simp only[eR,AV.unds,ad_]at this⊢
 grind
def Awf(P r t n aK a:Nat)(parts:List Pt):AV:=.fn (.func 190) [] [.pv [.pr P 0],.pv [nV r],.pv [nV t],.pv [slV ePt 3 parts],.pv [.sr aK 0 3 n (some n)],.pv [nV a]]
theorem Apz{N P r t n aK a:Nat}{parts:List Pt}(hP:P<N)(hK:aK<N):AV.und N (Awf P r t n aK a parts)=true:=by
 have h1:(AV.und N (slV ePt 3 parts)&&true)=true:=Acs parts;rw[Bool.and_true]at h1
 show(true&&((Nat.blt P N&&true)&&(true&&(true&&((AV.und N (slV ePt 3 parts)&&true)&&((Nat.blt aK N&&true)&&(true&&true)))))))=true
 rw[h1,Ce hP,Ce hK];rfl
theorem f156{g:Gr}{text:List Str}{D:List Sp}{X:Cp}{P mN mT:Nat}{lv:AV}{σ:Sto}{r:Nat}{rl:Rl}(h:PkB g text D X P mN mT lv σ)(hrl:g.rules[r]? =some rl)(hR:g.rules.length<=1000000)(hpl:rl.parts.length<1000000)(a t:Nat):Al Ew 156 [.pr P 0,nV r,nV a,nV t] σ fun v σ'=>v=Awf P r t (nPs rl.parts) (nx σ) a rl.parts/\σ'.get (nx σ)=some (.cells ((List.replicate (nPs rl.parts) zSp).flatMap eSp))/\nx σ'=nx σ+1/\∀b,b<nx σ->σ'.get b=σ.get b:=by
 obtain⟨σ1,hσ1⟩:∃σ1,σ.new (.cells (rep [.str [],.int .i64 0,.int .i64 0] (nPs rl.parts)))=σ1:=⟨_,rfl⟩;have n1:nx σ1=nx σ+1:=gr;have g1:∀b,b<nx σ->σ1.get b=σ.get b:=gr
 have hk1:σ1.get (nx σ)=some (.cells ((List.replicate (nPs rl.parts) zSp).flatMap eSp)):=by rw[←hσ1,ag_,if_pos rfl,Au2]
 refine Aj Tryz.func156 rfl rfl fun hw hu0=>?_
 refine G8 ?_;refine Gz 9 [nS] [slV ePt 3 rl.parts] [] (Acs rl.parts) rfl (fun hw0=>?_) ?_
 ·refine XX 1 (l:=[]) trivial ?_;refine G3 ?_;refine DF (lO h.pk) ?_;refine G3 ?_;refine DF (lO h.cl) ?_;refine G3 ?_
  refine DF (Ac ldC rfl rfl (Z7 rl _)) (DT (Bu ziC) (DT (sO (cs:=[nS]) (cs':=[slV ePt 3 rl.parts]) (by rw[ag_,if_pos rfl])) ?_))
  refine G ?_
  exact⟨(by intro e he;simp at he;rcases he with rfl|rfl<;>first|exact .refl|exact K4 hw0),trivial,sb,rfl,rfl⟩
 refine G12 ?_;refine Bz rl.parts.length (fun i0=>[(4,.pv [.pr P 0]),(5,.pv [nV r]),(6,.pv [nV a]),(7,.pv [nV t]),(9,.pv [slV ePt 3 rl.parts]),(10,nV (nPs (rl.parts.take i0))),(26,slV ePt 3 rl.parts),(27,nV rl.parts.length),(28,nV i0)]) (fun i0 σ0=>σ0=σ) SL rfl ?_
 rintro i0 σ0 hi0 hσ0;subst hσ0;refine G5 ?_;refine Ab rfl ?_ ?_<;>intro h1
 ·have bc:i0<rl.parts.length:=gr;obtain⟨p,hp⟩:=Ar bc;have qa:=Ahj (ps:=rl.parts.take i0);rw[cb_]at qa;refine G6 ?_;refine O1 (Ac ldC rfl rfl (A6 (Jy p) _)) (Ho ziC ldC rfl (fun _=>rfl) rfl (A7 (Jy p)) rfl rfl ?_)
  refine G4 ?_;refine O1 (Ac ldC rfl rfl (Tt p)) (O1 (Ko (q:=[]) okC rfl rfl) ?_);refine G ?_;refine Ab rfl ?_ ?_<;>intro h2
  ·have cg:p.sort≠[]:=gr;refine G9 ?_
   refine⟨bc,⟨rfl,rfl,rfl,rfl,rfl,by rw[Ajr hp,if_neg cg];rfl,rfl,rfl,rfl,trivial⟩,rfl⟩
  ·have cg:p.sort=[]:=gr;refine G5 ?_
   refine⟨bc,⟨rfl,rfl,rfl,rfl,rfl,by rw[Ajr hp,if_pos cg];rfl,rfl,rfl,rfl,trivial⟩,rfl⟩
 ·have bj:rl.parts.length<=i0:=gr;have htk:rl.parts.take i0=rl.parts:=at_ bj;rw[htk];have hnl:=Ahj (ps:=rl.parts);refine G4 ?_
  refine O1 (O3 (n:=nPs rl.parts) elC rfl rfl (by simp only[sizeLim];omega)) ?_
  refine G2 ?_;rw[hσ1];refine G5 ?_;refine Bo fun hw9=>?_
  refine G ?_
  exact⟨_,rfl,_,_,a_ hw9 nl (fun _ _=>rfl),by omega,.same (Apz (by have:=h.lt.1;omega) Om),rfl,hk1,n1,g1⟩
theorem f190{Ls:List RF}{L:RF}(hL:L∈Ls){g:Gr}{text:List Str}{D:List Sp}{X:Cp}{P mN mT aK r t:Nat}{rl:Rl}{α:Type}{I:α->(Nat->Prop)->Sto->Prop}{J:XE->Sto->Prop}{st:α->List Sp->Option α}(hC:Cons Ls L g text D X P mN mT aK (nPs rl.parts) I J st)(hrl:g.rules[r]? =some rl)(hG:∀p∈rl.parts,p.sort≠[]->∃j:Nat,p.arg=Int.ofNat j/\j<nPs rl.parts)(hR:g.rules.length<=1000000)(hpl:rl.parts.length<=1000000-1)(htl:text.length<=1000000)(ht:t<=text.length)(hKT:aK≠mT)(a:Nat)(acc:α)(F:Nat->Prop)(σ:Sto)(ha:a<=text.length)(hI:I acc F σ)(hF:∀b,F b->b<nx σ)(hlt:aK<nx σ)(hk:σ.get aK=some (.cells ((List.replicate (nPs rl.parts) zSp).flatMap eSp))):
  Hl Ew Ls 190 (.yl L.aY::[.pv [.pr P 0],.pv [nV r],.pv [nV t],.pv [slV ePt 3 rl.parts],.pv [.sr aK 0 3 (nPs rl.parts) (some (nPs rl.parts))],.pv [nV a]]) σ fun _ σ'=>match foM st (Qx g D text r a t) acc with
   |some acc'=>∃F',I acc' F' σ'/\Con mT aK F σ F' σ'
   |none=>nx σ<=nx σ'/\∃x,x≠.normal/\J x σ':=by
 have hpr:rPt g r=rl.parts:=by unfold rPt;rw[hrl]
 have qe:Qx g D text r a t=wyP D text t rl.parts a (List.replicate (nPs rl.parts) zSp):=by unfold Qx;rw[hpr];rfl
 obtain⟨lv,hpk⟩:=hC.pk _ _ _ hI;obtain⟨l1,l2,l3,l4⟩:=hpk.lt;have hnl:=Ahj (ps:=rl.parts);obtain⟨σ2,hσ2⟩:∃σ2,(σ.bump.new (.cells [.nil .nilFunc])).set (nx σ+1) (.cells [Acr P r t (nPs rl.parts) aK rl.parts L (nx σ+1)])=σ2:=⟨_,rfl⟩;have n2:nx σ2=nx σ+2:=gr;have g2:∀b,b<nx σ->σ2.get b=σ.get b:=gr;have hf2:σ2.get (nx σ+1)=some (.cells [Acr P r t (nPs rl.parts) aK rl.parts L (nx σ+1)]):=gr;have hI2:I acc F σ2:=hC.stb _ _ _ _ hI Om (fun b hb _ _=>g2 b hb) (hpk.rs.of_get (g2 mT l4))
 refine Mo Tryz.func190 (Ke _ _ Tryz.func190) rfl rfl fun hw hu0=>?_
 iterate  6 refine G ?_
 refine O1 (Bj (n:=nx σ+1) ziC (Bm σ)) ?_
 iterate  4 refine G ?_
 refine O1 (sO (cs:=[.nil .nilFunc]) (cs':=[Acr P r t (nPs rl.parts) aK rl.parts L (nx σ+1)]) (by rw[ag_,if_pos (Bm σ).symm])) ?_
 refine G ?_;rw[hσ2];refine Oo ?_;refine Er ?_;refine Gm 2 fun df=>?_
 refine O1 (lO hf2) ?_
 iterate  2 refine G ?_
 refine L5 (fun _ _=>rfl) rfl rfl rfl rfl rfl (f191 (aF:=nx σ+1) hL hC hrl hG hR Om htl ht Om ⟨by omega,by omega,hKT⟩ rl.parts 0 a _ acc F σ2 rfl (aq_ _) ha (fi_ ..) hI2 gr ⟨by omega,by omega⟩ ((g2 aK hlt).trans hk) hf2) fun u σ3 hp hn=>?_
 refine G ?_;intro hw9
 refine⟨[],rfl,_,_,a_ hw9 nl (fun _ _=>rfl),by omega,.same rfl,?_⟩
 rw[qe];unfold Tu at hp;cases hfm:foM st (wyP D text t rl.parts a (List.replicate (nPs rl.parts) zSp)) acc with
 |none=>
  rw[hfm]at hp
  exact⟨by omega,hp.2.2⟩
 |some acc'=>
  rw[hfm]at hp;obtain⟨_,F',K',h1,h2,_⟩:=hp;exact⟨F',h1,(Con.of Om fun b hb _ _=>g2 b hb).trans h2⟩
def eWy(w:Wy):List AV:=[nV w.rule,slV eN 1 w.kids]
def eNd(x:Nde):List AV:=[sV x.sp.1,nV x.sp.2.1,nV x.sp.2.2,slV eWy 2 x.ways]
def fV(F:List Nde):AV:=.agg [slV eNd 4 F]
theorem Gq(w:Wy):(eWy w).length=2:=rfl
theorem Mw(w:Nde):(eNd w).length=4:=rfl
theorem Ajs{N:Nat}(w:Wy):AV.unds N (eWy w)=true:=by
 have:AV.unds N (w.kids.flatMap eN)=true:=A2 (fun x=>Ajp x) _
 simp only[eWy,AV.unds,AV.und,slV,this,be_,Bool.and_true];rfl
theorem Vp{N:Nat}(x:Nde):AV.unds N (eNd x)=true:=by
 have:AV.unds N (x.ways.flatMap eWy)=true:=A2 Ajs _;simp only[eNd,AV.unds,AV.und,slV,this,be_,Bool.and_true,sV];rfl
inductive Pg where
 |r1
 |r2
 |f
 |tot
 |nd
 |w
 |lv
 |wv
 |nv
 |kv
 deriving DecidableEq
structure Px where
 r1:Nat
 r2:Nat
 f:Nat
 tot:Nat
 nd:Option Nat
 w:Option Nat
 lv:AV
 wv:AV
 nv:AV
 kv:AV
def Px.loc(Y:Px):Pg->Option Nat
 |.r1=>some Y.r1
 |.r2=>some Y.r2
 |.f=>some Y.f
 |.tot=>some Y.tot
 |.nd=>Y.nd
 |.w=>Y.w
 |.lv=>adr Y.lv
 |.wv=>adr Y.wv
 |.nv=>adr Y.nv
 |.kv=>adr Y.kv
structure Pc where
 g:Gr
 text:List Str
 D:List Sp
 X:Cp
 P:Nat
 mN:Nat
 mT:Nat
 N0:Nat
 M:Nat
 rv:SM AV
 σ0:Sto
structure Xe (c:Pc):Prop where
 lt:c.P<c.N0/\c.X.c<c.N0/\c.X.mD<c.N0/\c.mT<c.N0
 ne:c.mN≠c.X.mD/\c.mN≠c.mT
 M:c.M<=c.P/\c.M<=c.mN/\c.M<=c.mT/\c.M<=c.N0
 rl:∀a,(a=c.X.mR∨∃s v,c.rv.get s=some v/\adr v=some a)->a<c.N0/\a≠c.P/\a≠c.mN/\a≠c.mT
structure RlG (g:Gr)(rv:SM AV)(mR:Nat)(σ:Sto):Prop where
 map:B8 (fun v:AV=>v) σ mR rv
 get:∀s,match rv.get s with|none=>E5 g s=[]|some v=>Own σ 0 eN 1 (E5 g s) v
theorem RlG.of_get{g:Gr}{rv:SM AV}{mR:Nat}{σ τ:Sto}(h:RlG g rv mR σ)(hn:nx σ<=nx τ)(hg:∀a,(a=mR∨∃s v,rv.get s=some v/\adr v=some a)->τ.get a=σ.get a):RlG g rv mR τ:=by
 refine⟨h.map.of_get (hg _ (.inl rfl)),fun s=>?_⟩
 have:=h.get s;cases hs:rv.get s with
 |none=>rw[hs]at this;exact this
 |some v=>rw[hs]at this;exact this.of_get hn fun a ha=>hg a (.inr ⟨s,v,hs,ha⟩)
structure PS (c:Pc)(Y:Px)(L:List Sp)(total:Nat)(nodes:List Nde)(s:Sp)(ws:List Wy)(r:Nat)(ks:List Nat)(σ:Sto):Prop where
 inj:∀t u a,Y.loc t=some a->Y.loc u=some a->t=u
 lo:∀t a,Y.loc t=some a->c.N0<=a/\a<nx σ
 pkb:PkB c.g c.text c.D c.X c.P c.mN c.mT Y.lv σ
 pkl:PkL L c.N0 c.mN Y.lv σ
 rl:RlG c.g c.rv c.X.mR σ
 r1:σ.get Y.r1=some (.cells [nS])
 r2:σ.get Y.r2=some (.cells [.bool false])
 f:σ.get Y.f=some (.cells [Y.nv])
 nv:Own σ c.N0 eNd 4 nodes Y.nv
 tot:σ.get Y.tot=some (.cells [nV total])
 nd:∀a,Y.nd=some a->σ.get a=some (.cells [sV s.1,nV s.2.1,nV s.2.2,Y.wv])
 wv:Own σ c.N0 eWy 2 ws Y.wv
 w:∀a,Y.w=some a->σ.get a=some (.cells [nV r,Y.kv])
 kv:Own σ c.N0 eN 1 ks Y.kv
 blw:Below c.M c.σ0 σ
theorem Ry{loc loc':Pg->Option Nat}{t0:Pg}{N:Nat}(inj:∀t u a,loc t=some a->loc u=some a->t=u)(lo:∀t a,loc t=some a->a<N)(h:∀t,t≠t0->loc' t=loc t)(h0:∀a,loc' t0=some a->loc t0=some a∨N<=a):∀t u a,loc' t=some a->loc' u=some a->t=u:=by
 intro t u a ht hu
 by_cases e1:t=t0
 ·grind
 grind
section
variable {c:Pc}{Y:Px}{L:List Sp}{total:Nat}{nodes:List Nde}{s:Sp}{ws:List Wy}{r:Nat}{ks:List Nat}{σ τ:Sto}
theorem PS.ltn(h:PS c Y L total nodes s ws r ks σ):c.N0<=nx σ:=h.pkl.lt.2
theorem PS.keep(h:PS c Y L total nodes s ws r ks σ)(ok:Xe c)(hn:nx σ<=nx τ)(hg:∀b,b<c.N0->b≠c.mT->τ.get b=σ.get b)(ht:∀t a,Y.loc t=some a->τ.get a=σ.get a)(hr:Vo c.g c.D c.text τ c.mT):PS c Y L total nodes s ws r ks τ:=by
 have h1:=h.pkb.ne;have hl:=ok.lt;have hM:=ok.M;refine⟨h.inj,fun t a hta=>⟨(h.lo t a hta).1,ak_ (h.lo t a hta).2 hn⟩,⟨(hg _ hl.1 h1.1).trans h.pkb.pk,(hg _ hl.2.1 h1.2.1).trans h.pkb.cl,h.pkb.dn.of_get (hg _ hl.2.2.1 h1.2.2),hr,?_⟩,h.pkl.of_get hn (hg _ h.pkl.lt.1 ok.ne.2) (fun a ha=>ht .lv a ha),h.rl.of_get hn (fun a ha=>hg a (ok.rl a ha).1 (ok.rl a ha).2.2.2),(ht .r1 _ rfl).trans h.r1,(ht .r2 _ rfl).trans h.r2,(ht .f _ rfl).trans h.f,h.nv.of_get hn (fun a ha=>ht .nv a ha),(ht .tot _ rfl).trans h.tot,fun a ha=>(ht .nd a ha).trans (h.nd a ha),h.wv.of_get hn (fun a ha=>ht .wv a ha),fun a ha=>(ht .w a ha).trans (h.w a ha),h.kv.of_get hn (fun a ha=>ht .kv a ha),ai_ h.blw.1 hn,fun b hb=>(hg b Om Om).trans (h.blw.2 b hb)⟩
 have:=h.pkb.lt;omega
theorem PS.news(h:PS c Y L total nodes s ws r ks σ)(ok:Xe c)(hn:nx σ<=nx τ)(hg:∀b,b<nx σ->τ.get b=σ.get b):PS c Y L total nodes s ws r ks τ:=
 h.keep ok hn (fun b hb _=>hg b (ak_ hb h.ltn)) (fun t a ha=>hg a (h.lo t a ha).2) (h.pkb.rs.of_get (hg _ h.pkb.lt.2.2.2))
theorem PS.meet(h:PS c Y L total nodes s ws r ks σ)(ok:Xe c)(x:Sp)(bn:L.length<=30000000):
  ∃lv' τ,Al Ew 155 [.pr c.P 0,.agg (eSp x)] σ (fun u υ=>u=nV (D2 L x).1/\υ=τ)/\PS c { Y with lv:=lv' } (D2 L x).2 total nodes s ws r ks τ/\nx σ<=nx τ/\(∀b,b<nx σ->b≠c.P->b≠c.mN->(∀t,Y.loc t≠some b)->τ.get b=σ.get b)/\(∀t a,({ Y with lv:=lv' }:Px).loc t=some a->(∃u,Y.loc u=some a)∨nx σ<=a):=by
 obtain⟨lv',τ,hc,hb,hl,hm⟩:=f155 h.pkb h.pkl ok.lt ok.ne x bn;have hP:=ok.lt.1;have hN:=h.pkl.lt.1;have hg:∀b,b<nx σ->c.N0<=b->adr Y.lv≠some b->τ.get b=σ.get b:=fun b h1 h2 h3=>hm.g b h1 Om Om h3
 have nu:∀t a,({ Y with lv:=lv' }:Px).loc t=some a->(∃u,Y.loc u=some a)∨nx σ<=a:=fun t a q=>by
  by_cases e:t=.lv
  ·subst e
   rcases hm.a a q with q|q
   ·exact .inl ⟨.lv,q⟩
   grind
  ·exact .inl ⟨t,by cases t<;>first|exact q|exact absurd rfl e⟩
 refine⟨lv',τ,hc,?_,hm.n,fun b h1 h2 h3 h4=>hm.g b h1 h2 h3 (h4 .lv),nu⟩
 have ht:∀t a,t≠.lv->Y.loc t=some a->τ.get a=σ.get a:=fun t a n hta=>hg a (h.lo t a hta).2 (h.lo t a hta).1 fun e=>n (h.inj t .lv a hta e)
 have hb0:∀b,b<c.N0->b≠c.P->b≠c.mN->τ.get b=σ.get b:=fun b h1 h2 h3=>hm.g b (ak_ h1 h.ltn) h2 h3 fun e=>by have:=(h.lo .lv b e).1;omega
 have bk:∀t,t≠Pg.lv->({ Y with lv:=lv' }:Px).loc t=Y.loc t:=fun t n=>by cases t<;>first|rfl|exact absurd rfl n
 have hM:=ok.M
 refine⟨Ry (t0:=.lv) (N:=nx σ) h.inj (fun t a q=>(h.lo t a q).2) bk (fun a q=>hm.a a q),fun t a q=>?_,hb,hl,h.rl.of_get hm.n (fun a q=>hb0 a (ok.rl a q).1 (ok.rl a q).2.1 (ok.rl a q).2.2.1),(ht .r1 _ (by simp) rfl).trans h.r1,(ht .r2 _ (by simp) rfl).trans h.r2,(ht .f _ (by simp) rfl).trans h.f,h.nv.of_get hm.n (fun a q=>ht .nv a (by simp) q),(ht .tot _ (by simp) rfl).trans h.tot,fun a q=>(ht .nd a (by simp) q).trans (h.nd a q),h.wv.of_get hm.n (fun a q=>ht .wv a (by simp) q),fun a q=>(ht .w a (by simp) q).trans (h.w a q),h.kv.of_get hm.n (fun a q=>ht .kv a (by simp) q),ai_ h.blw.1 hm.n,fun b q=>(hb0 b Om Om Om).trans (h.blw.2 b q)⟩
 by_cases e:t=.lv
 ·subst e;exact hl.lst.adr_lt q
 ·rw[bk t e]at q;have:=h.lo t a q;have:=hm.n;omega
theorem PS.kid(h:PS c Y L total nodes s ws r ks σ)(ok:Xe c){a:Nat}(hw:Y.w=some a)(k:Nat)(bn:ks.length<=30000000):
  ∃σ2,B6 σ 1 8 Y.kv 1 (eN k)=some (.sr (nx σ) 0 1 (ks.length+1) none,σ2)/\σ2.get a=some (.cells [nV r,Y.kv])/\nx σ2=nx σ+1/\
   PS c { Y with kv:=.sr (nx σ) 0 1 (ks.length+1) none } L total nodes s ws r (ks++[k]) (σ2.set a (.cells [nV r,.sr (nx σ) 0 1 (ks.length+1) none]))/\(∀b,b<nx σ->b≠a->adr Y.kv≠some b->(σ2.set a (.cells [nV r,.sr (nx σ) 0 1 (ks.length+1) none])).get b=σ.get b):=by
 obtain⟨σ2,hap,n2,ho2,g2⟩:=dn_ (by':=8) Ep h.ltn h.kv k (by simp only[sizeLim];omega)
 have haw:Y.loc .w=some a:=hw;have hal:=h.lo .w a haw
 have hak:adr Y.kv≠some a:=fun e=>by cases h.inj .kv .w a e haw
 have hg:∀b,b<nx σ->b≠a->adr Y.kv≠some b->(σ2.set a (.cells [nV r,.sr (nx σ) 0 1 (ks.length+1) none])).get b=σ.get b:=gr;refine⟨σ2,hap,(g2 a hal.2 hak).trans (h.w a hw),n2,?_,hg⟩;have hn:nx σ<=nx (σ2.set a (.cells [nV r,.sr (nx σ) 0 1 (ks.length+1) none])):=gr;have ht:∀t b,t≠.kv->t≠.w->Y.loc t=some b->(σ2.set a (.cells [nV r,.sr (nx σ) 0 1 (ks.length+1) none])).get b=σ.get b:=fun t b n1 n2 hta=>hg b (h.lo t b hta).2 (fun e=>n2 (h.inj t .w b hta gr)) fun e=>n1 (h.inj t .kv b hta e)
 have hb0:∀b,b<c.N0->(σ2.set a (.cells [nV r,.sr (nx σ) 0 1 (ks.length+1) none])).get b=σ.get b:=fun b h1=>hg b (ak_ h1 h.ltn) Om fun e=>by have:=(h.lo .kv b e).1;omega
 have bk:∀t,t≠Pg.kv->({ Y with kv:=.sr (nx σ) 0 1 (ks.length+1) none }:Px).loc t=Y.loc t:=fun t n=>by cases t<;>first|rfl|exact absurd rfl n
 have hM:=ok.M;have hl:=ok.lt
 refine⟨Ry (t0:=.kv) (N:=nx σ) h.inj (fun t a q=>(h.lo t a q).2) bk (fun b q=>.inr (by cases q;grind)),fun t b q=>?_,h.pkb.of_get hn (fun b q=>hb0 b gr),h.pkl.of_get hn (hb0 _ h.pkl.lt.1) (fun b q=>ht .lv b (by simp) (by simp) q),h.rl.of_get hn (fun b q=>hb0 b (ok.rl b q).1),(ht .r1 _ (by simp) (by simp) rfl).trans h.r1,(ht .r2 _ (by simp) (by simp) rfl).trans h.r2,(ht .f _ (by simp) (by simp) rfl).trans h.f,h.nv.of_get hn (fun b q=>ht .nv b (by simp) (by simp) q),(ht .tot _ (by simp) (by simp) rfl).trans h.tot,fun b q=>(ht .nd b (by simp) (by simp) q).trans (h.nd b q),h.wv.of_get hn (fun b q=>ht .wv b (by simp) (by simp) q),fun b q=>?_,ho2.of_get gr (fun b q=>?_),ai_ h.blw.1 hn,fun b q=>(hb0 b Om).trans (h.blw.2 b q)⟩
 ·by_cases e:t=.kv
  ·subst e;cases q;grind
  ·rw[bk t e]at q;have:=h.lo t b q;omega
 ·grind
 ·cases q;grind
theorem PS.noway(h:PS c Y L total nodes s ws r ks σ)(ok:Xe c)(hn:nx τ=nx σ)(hg:∀b,Y.w≠some b->adr Y.kv≠some b->τ.get b=σ.get b):PS c { Y with w:=none,kv:=nS } L total nodes s ws 0 [] τ:=by
 have bk:∀t a,({ Y with w:=none,kv:=nS }:Px).loc t=some a->Y.loc t=some a/\t≠.w/\t≠.kv:=fun t a q=>by cases t<;>first|exact⟨q,by simp,by simp⟩|cases q
 have ht:∀t a,t≠.w->t≠.kv->Y.loc t=some a->τ.get a=σ.get a:=fun t a n1 n2 q=>hg a (fun e=>n1 (h.inj t .w a q e)) (fun e=>n2 (h.inj t .kv a q e))
 have hb0:∀b,b<c.N0->τ.get b=σ.get b:=fun b hb=>hg b (fun e=>by have:=(h.lo .w b e).1;omega) (fun e=>by have:=(h.lo .kv b e).1;omega)
 have hM:=ok.M;have hl:=ok.lt
 have hn':nx σ<=nx τ:=by omega
 exact⟨fun t u a q1 q2=>h.inj t u a (bk t a q1).1 (bk u a q2).1,fun t a q=>by have:=h.lo t a (bk t a q).1;omega,h.pkb.of_get hn' (fun b q=>hb0 b gr),h.pkl.of_get hn' (hb0 _ h.pkl.lt.1) (fun b q=>ht .lv b (by simp) (by simp) q),h.rl.of_get hn' (fun b q=>hb0 b (ok.rl b q).1),(ht .r1 _ (by simp) (by simp) rfl).trans h.r1,(ht .r2 _ (by simp) (by simp) rfl).trans h.r2,(ht .f _ (by simp) (by simp) rfl).trans h.f,h.nv.of_get hn' (fun b q=>ht .nv b (by simp) (by simp) q),(ht .tot _ (by simp) (by simp) rfl).trans h.tot,fun b q=>(ht .nd b (by simp) (by simp) q).trans (h.nd b q),h.wv.of_get hn' (fun b q=>ht .wv b (by simp) (by simp) q),fun b q=>(by cases q),.nil,ai_ h.blw.1 hn',fun b q=>(hb0 b Om).trans (h.blw.2 b q)⟩
theorem PS.nonode(h:PS c Y L total nodes s ws r ks σ)(ok:Xe c)(hn:nx τ=nx σ)(hg:∀b,Y.nd≠some b->adr Y.wv≠some b->τ.get b=σ.get b)(s':Sp):PS c { Y with nd:=none,wv:=nS } L total nodes s' [] r ks τ:=by
 have bk:∀t a,({ Y with nd:=none,wv:=nS }:Px).loc t=some a->Y.loc t=some a/\t≠.nd/\t≠.wv:=fun t a q=>by cases t<;>first|exact⟨q,by simp,by simp⟩|cases q
 have ht:∀t a,t≠.nd->t≠.wv->Y.loc t=some a->τ.get a=σ.get a:=fun t a n1 n2 q=>hg a (fun e=>n1 (h.inj t .nd a q e)) (fun e=>n2 (h.inj t .wv a q e))
 have hb0:∀b,b<c.N0->τ.get b=σ.get b:=fun b hb=>hg b (fun e=>by have:=(h.lo .nd b e).1;omega) (fun e=>by have:=(h.lo .wv b e).1;omega)
 have hM:=ok.M;have hl:=ok.lt
 have hn':nx σ<=nx τ:=by omega
 exact⟨fun t u a q1 q2=>h.inj t u a (bk t a q1).1 (bk u a q2).1,fun t a q=>by have:=h.lo t a (bk t a q).1;omega,h.pkb.of_get hn' (fun b q=>hb0 b gr),h.pkl.of_get hn' (hb0 _ h.pkl.lt.1) (fun b q=>ht .lv b (by simp) (by simp) q),h.rl.of_get hn' (fun b q=>hb0 b (ok.rl b q).1),(ht .r1 _ (by simp) (by simp) rfl).trans h.r1,(ht .r2 _ (by simp) (by simp) rfl).trans h.r2,(ht .f _ (by simp) (by simp) rfl).trans h.f,h.nv.of_get hn' (fun b q=>ht .nv b (by simp) (by simp) q),(ht .tot _ (by simp) (by simp) rfl).trans h.tot,fun b q=>(by cases q),.nil,fun b q=>(ht .w b (by simp) (by simp) q).trans (h.w b q),h.kv.of_get hn' (fun b q=>ht .kv b (by simp) (by simp) q),ai_ h.blw.1 hn',fun b q=>(hb0 b Om).trans (h.blw.2 b q)⟩
theorem PS.way(h:PS c Y L total nodes s ws r ks σ)(ok:Xe c){a:Nat}(hw:Y.nd=some a)(k:Wy)(bn:ws.length<=30000000):
  ∃σ2,B6 σ 2 32 Y.wv 1 (eWy k)=some (.sr (nx σ) 0 2 (ws.length+1) none,σ2)/\σ2.get a=some (.cells [sV s.1,nV s.2.1,nV s.2.2,Y.wv])/\nx σ2=nx σ+1/\
   PS c { Y with wv:=.sr (nx σ) 0 2 (ws.length+1) none } L total nodes s (ws++[k]) r ks (σ2.set a (.cells [sV s.1,nV s.2.1,nV s.2.2,.sr (nx σ) 0 2 (ws.length+1) none]))/\(∀b,b<nx σ->b≠a->adr Y.wv≠some b->(σ2.set a (.cells [sV s.1,nV s.2.1,nV s.2.2,.sr (nx σ) 0 2 (ws.length+1) none])).get b=σ.get b):=by
 obtain⟨σ2,hap,n2,ho2,g2⟩:=dn_ (by':=32) Gq h.ltn h.wv k (by simp only[sizeLim];omega)
 have haw:Y.loc .nd=some a:=hw;have hal:=h.lo .nd a haw
 have hak:adr Y.wv≠some a:=fun e=>by cases h.inj .wv .nd a e haw
 generalize hC:AO.cells [sV s.1,nV s.2.1,nV s.2.2,.sr (nx σ) 0 2 (ws.length+1) none]=C
 have hg:∀b,b<nx σ->b≠a->adr Y.wv≠some b->(σ2.set a C).get b=σ.get b:=gr;refine⟨σ2,hap,(g2 a hal.2 hak).trans (h.nd a hw),n2,?_,hg⟩;have hn:nx σ<=nx (σ2.set a C):=gr;have ht:∀t b,t≠.wv->t≠.nd->Y.loc t=some b->(σ2.set a C).get b=σ.get b:=fun t b n1 n2 hta=>hg b (h.lo t b hta).2 (fun e=>n2 (h.inj t .nd b hta gr)) fun e=>n1 (h.inj t .wv b hta e)
 have hb0:∀b,b<c.N0->(σ2.set a C).get b=σ.get b:=fun b h1=>hg b (ak_ h1 h.ltn) Om fun e=>by have:=(h.lo .wv b e).1;omega
 have bk:∀t,t≠Pg.wv->({ Y with wv:=.sr (nx σ) 0 2 (ws.length+1) none }:Px).loc t=Y.loc t:=fun t n=>by cases t<;>first|rfl|exact absurd rfl n
 have hM:=ok.M;have hl:=ok.lt
 refine⟨Ry (t0:=.wv) (N:=nx σ) h.inj (fun t a q=>(h.lo t a q).2) bk (fun b q=>.inr (by cases q;grind)),fun t b q=>?_,h.pkb.of_get hn (fun b q=>hb0 b gr),h.pkl.of_get hn (hb0 _ h.pkl.lt.1) (fun b q=>ht .lv b (by simp) (by simp) q),h.rl.of_get hn (fun b q=>hb0 b (ok.rl b q).1),(ht .r1 _ (by simp) (by simp) rfl).trans h.r1,(ht .r2 _ (by simp) (by simp) rfl).trans h.r2,(ht .f _ (by simp) (by simp) rfl).trans h.f,h.nv.of_get hn (fun b q=>ht .nv b (by simp) (by simp) q),(ht .tot _ (by simp) (by simp) rfl).trans h.tot,fun b q=>?_,ho2.of_get gr (fun b q=>?_),fun b q=>(ht .w b (by simp) (by simp) q).trans (h.w b q),h.kv.of_get hn (fun b q=>ht .kv b (by simp) (by simp) q),ai_ h.blw.1 hn,fun b q=>(hb0 b Om).trans (h.blw.2 b q)⟩
 ·by_cases e:t=.wv
  ·subst e;cases q;grind
  ·rw[bk t e]at q;have:=h.lo t b q;omega
 ·grind
 ·cases q;grind
theorem PS.node(h:PS c Y L total nodes s ws r ks σ)(ok:Xe c)(k:Nde)(bn:nodes.length<=30000000):
  ∃σ2,B6 σ 4 56 Y.nv 1 (eNd k)=some (.sr (nx σ) 0 4 (nodes.length+1) none,σ2)/\σ2.get Y.f=some (.cells [Y.nv])/\nx σ2=nx σ+1/\
   PS c { Y with nv:=.sr (nx σ) 0 4 (nodes.length+1) none } L total (nodes++[k]) s ws r ks (σ2.set Y.f (.cells [.sr (nx σ) 0 4 (nodes.length+1) none])):=by
 obtain⟨σ2,hap,n2,ho2,g2⟩:=dn_ (by':=56) Mw h.ltn h.nv k (by simp only[sizeLim];omega)
 have hal:=h.lo .f _ rfl
 have hak:adr Y.nv≠some Y.f:=fun e=>by cases h.inj .nv .f Y.f e rfl
 generalize hC:AO.cells [AV.sr (nx σ) 0 4 (nodes.length+1) none]=C
 have hg:∀b,b<nx σ->b≠Y.f->adr Y.nv≠some b->(σ2.set Y.f C).get b=σ.get b:=gr;refine⟨σ2,hap,(g2 _ hal.2 hak).trans h.f,n2,?_⟩;have hn:nx σ<=nx (σ2.set Y.f C):=gr
 have ht:∀t b,t≠.nv->t≠.f->Y.loc t=some b->(σ2.set Y.f C).get b=σ.get b:=fun t b n1 n2 hta=>hg b (h.lo t b hta).2 (fun e=>n2 (h.inj t .f b hta (by rw[e];rfl))) fun e=>n1 (h.inj t .nv b hta e)
 have hb0:∀b,b<c.N0->(σ2.set Y.f C).get b=σ.get b:=fun b h1=>hg b (ak_ h1 h.ltn) Om fun e=>by have:=(h.lo .nv b e).1;omega
 have bk:∀t,t≠Pg.nv->({ Y with nv:=.sr (nx σ) 0 4 (nodes.length+1) none }:Px).loc t=Y.loc t:=fun t n=>by cases t<;>first|rfl|exact absurd rfl n
 have hM:=ok.M;have hl:=ok.lt
 refine⟨Ry (t0:=.nv) (N:=nx σ) h.inj (fun t a q=>(h.lo t a q).2) bk (fun b q=>.inr (by cases q;grind)),fun t b q=>?_,h.pkb.of_get hn (fun b q=>hb0 b gr),h.pkl.of_get hn (hb0 _ h.pkl.lt.1) (fun b q=>ht .lv b (by simp) (by simp) q),h.rl.of_get hn (fun b q=>hb0 b (ok.rl b q).1),(ht .r1 _ (by simp) (by simp) rfl).trans h.r1,(ht .r2 _ (by simp) (by simp) rfl).trans h.r2,gr,ho2.of_get gr (fun b q=>?_),(ht .tot _ (by simp) (by simp) rfl).trans h.tot,fun b q=>(ht .nd b (by simp) (by simp) q).trans (h.nd b q),h.wv.of_get hn (fun b q=>ht .wv b (by simp) (by simp) q),fun b q=>(ht .w b (by simp) (by simp) q).trans (h.w b q),h.kv.of_get hn (fun b q=>ht .kv b (by simp) (by simp) q),ai_ h.blw.1 hn,fun b q=>(hb0 b Om).trans (h.blw.2 b q)⟩
 ·by_cases e:t=.nv
  ·subst e;cases q;grind
  ·rw[bk t e]at q;have:=h.lo t b q;omega
 ·cases q;grind
theorem PS.tota(h:PS c Y L total nodes s ws r ks σ)(ok:Xe c)(n:Nat):PS c Y L n nodes s ws r ks (σ.set Y.tot (.cells [nV n])):=by
 have hal:=h.lo .tot _ rfl;have hn:nx σ<=nx (σ.set Y.tot (.cells [nV n])):=gr
 have ht:∀t b,t≠.tot->Y.loc t=some b->(σ.set Y.tot (.cells [nV n])).get b=σ.get b:=fun t b n1 hta=>by rw[aa_,if_neg (fun e=>n1 (h.inj t .tot b hta (by rw[e];rfl)))]
 have hb0:∀b,b<c.N0->(σ.set Y.tot (.cells [nV n])).get b=σ.get b:=gr;have hM:=ok.M;have hl:=ok.lt
 exact⟨h.inj,fun t b q=>by have:=h.lo t b q;grind,h.pkb.of_get hn (fun b q=>hb0 b gr),h.pkl.of_get hn (hb0 _ h.pkl.lt.1) (fun b q=>ht .lv b (by simp) q),h.rl.of_get hn (fun b q=>hb0 b (ok.rl b q).1),(ht .r1 _ (by simp) rfl).trans h.r1,(ht .r2 _ (by simp) rfl).trans h.r2,(ht .f _ (by simp) rfl).trans h.f,h.nv.of_get hn (fun b q=>ht .nv b (by simp) q),gr,fun b q=>(ht .nd b (by simp) q).trans (h.nd b q),h.wv.of_get hn (fun b q=>ht .wv b (by simp) q),fun b q=>(ht .w b (by simp) q).trans (h.w b q),h.kv.of_get hn (fun b q=>ht .kv b (by simp) q),ai_ h.blw.1 hn,fun b q=>(hb0 b Om).trans (h.blw.2 b q)⟩
theorem PS.nway(h:PS c Y L total nodes s ws 0 [] σ)(ok:Xe c)(hw:Y.w=none)(hk:Y.kv=nS)(hn:nx τ=nx σ+1)(hg:∀b,b<nx σ->τ.get b=σ.get b)(r:Nat)(hc:τ.get (nx σ)=some (.cells [nV r,nS])):PS c { Y with w:=some (nx σ) } L total nodes s ws r [] τ:=by
 have h':=h.news ok Om hg
 have bk:∀t,t≠Pg.w->({ Y with w:=some (nx σ) }:Px).loc t=Y.loc t:=fun t n=>by cases t<;>first|rfl|exact absurd rfl n
 have hlt:=h.ltn
 refine⟨Ry (t0:=.w) (N:=nx σ) h.inj (fun t a q=>(h.lo t a q).2) bk (fun b q=>.inr (by cases q;grind)),fun t b q=>?_,h'.pkb,h'.pkl,h'.rl,h'.r1,h'.r2,h'.f,h'.nv,h'.tot,h'.nd,h'.wv,fun b q=>?_,by rw[show({ Y with w:=some (nx σ) }:Px).kv=Y.kv from rfl,hk];exact .nil,h'.blw⟩
 ·by_cases e:t=.w
  ·subst e;cases q;omega
  ·rw[bk t e]at q;exact h'.lo t b q
 grind
theorem PS.nnode(h:PS c Y L total nodes s [] r ks σ)(ok:Xe c)(hw:Y.nd=none)(hk:Y.wv=nS)(hn:nx τ=nx σ+1)(hg:∀b,b<nx σ->τ.get b=σ.get b)(s':Sp)(hc:τ.get (nx σ)=some (.cells [sV s'.1,nV s'.2.1,nV s'.2.2,nS])):PS c { Y with nd:=some (nx σ) } L total nodes s' [] r ks τ:=by
 have h':=h.news ok Om hg
 have bk:∀t,t≠Pg.nd->({ Y with nd:=some (nx σ) }:Px).loc t=Y.loc t:=fun t n=>by cases t<;>first|rfl|exact absurd rfl n
 have hlt:=h.ltn
 refine⟨Ry (t0:=.nd) (N:=nx σ) h.inj (fun t a q=>(h.lo t a q).2) bk (fun b q=>.inr (by cases q;grind)),fun t b q=>?_,h'.pkb,h'.pkl,h'.rl,h'.r1,h'.r2,h'.f,h'.nv,h'.tot,fun b q=>?_,by rw[show({ Y with nd:=some (nx σ) }:Px).wv=Y.wv from rfl,hk];exact .nil,h'.w,h'.kv,h'.blw⟩
 ·by_cases e:t=.nd
  ·subst e;cases q;omega
  ·rw[bk t e]at q;exact h'.lo t b q
 grind
end
theorem Acu:∀(a b L:List Sp) (o:List Nat),True->Ct L (a++b) o=Ct (Ct L a o).2 b (Ct L a o).1
 |[],b,L,o,_=>rfl
 |x::a,b,L,o,_=>by
  show Ct (D2 L x).2 (a++b) (o++[(D2 L x).1])=_
  rw[Acu a b _ _ trivial];rfl
def FPk(c:Pc)(Y:Px)(aY:Nat):Nat->Prop:=fun b=>b=c.P∨b=c.mN∨b=aY∨∃t,Y.loc t=some b
structure Fx (Z Y:Px):Prop where
 r1:Y.r1=Z.r1
 r2:Y.r2=Z.r2
 f:Y.f=Z.f
 tot:Y.tot=Z.tot
 nd:Y.nd=Z.nd
structure IPk (c:Pc)(Z:Px)(nodes:List Nde)(s:Sp)(aY aK:Nat)(acc:Pk)(F:Nat->Prop)(τ:Sto)(Y:Px):Prop where
 ps:PS c Y acc.list acc.total nodes s acc.ways 0 [] τ
 fx:Fx Z Y
 w:Y.w=none
 kv:Y.kv=nS
 F:F=FPk c Y aY
 y:τ.get aY=some (.loop .ready)
 dj:∀t a,Y.loc t=some a->a≠aY/\a≠aK
 lt:aY≠aK/\c.N0<=aY/\c.N0<=aK/\aY<nx τ/\aK<nx τ
 b1:acc.list.length<=4000
 b2:acc.total<=40000
 b3:acc.ways.length<=acc.total
def JPk(c:Pc)(Z:Px)(aY:Nat)(x:XE)(τ:Sto):Prop:=x=.ret/\τ.get aY=some (.loop (H2 .ret))/\τ.get Z.r1=some (.cells [nS])/\τ.get Z.r2=some (.cells [.bool false])/\Below c.M c.σ0 τ/\Z.r1≠aY/\Z.r2≠aY/\c.M<=aY
structure PRx (c:Pc)(Y:Px)(aY:Nat)(τ:Sto)(Y':Px)(σ:Sto):Prop where
 n:nx τ<=nx σ
 f:∀t a,Y'.loc t=some a->(∃u,Y.loc u=some a)∨nx τ<=a
 g:∀b,b<nx τ->b≠c.P->b≠c.mN->b≠aY->(∀t,Y.loc t≠some b)->σ.get b=τ.get b
 y:σ.get aY=some (.loop .busy)
theorem PRx.step{c:Pc}{Y Y' Y'':Px}{aY:Nat}{τ σ υ:Sto}(h:PRx c Y aY τ Y' σ)(hP:c.P<c.N0/\c.mN<c.N0)(hy:c.N0<=aY/\aY<nx τ/\∀t,Y.loc t≠some aY)(hn:nx σ<=nx υ)(hf:∀t a,Y''.loc t=some a->(∃u,Y'.loc u=some a)∨nx σ<=a)(hg:∀b,b<nx σ->b≠c.P->b≠c.mN->(∀t,Y'.loc t≠some b)->υ.get b=σ.get b):PRx c Y aY τ Y'' υ:=by
 have key:∀b,b<nx τ->(∀t,Y.loc t≠some b)->∀t,Y'.loc t≠some b:=fun b hb hn' t ht=>by
  rcases h.f t b ht with⟨u,hu⟩|hu
  ·exact hn' u hu
  ·omega
 refine⟨ai_ h.n hn,fun t a ht=>?_,fun b h1 h2 h3 h4 h5=>?_,?_⟩
 ·rcases hf t a ht with⟨u,hu⟩|hu
  ·grind
  ·exact .inr (ai_ h.n hu)
 ·rw[hg b (ak_ h1 h.n) h2 h3 (key b h1 h5),h.g b h1 h2 h3 h4 h5]
 ·rw[hg aY (ak_ hy.2.1 h.n) Om Om (key aY hy.2.1 hy.2.2)];exact h.y
def Pl(n:Nat)(l:List Sp):Prop:=∀x∈l,x.2.1<=n/\x.2.2<=n
theorem Alr{D:List Sp}{text:List Str}{to n:Nat}(ht:to<=n):∀(ps:List Pt) (a:Nat) (K:List Sp),Pl n K->∀l∈wyP D text to ps a K,Pl n l
 |[],a,K,hK,l,h=>by
  unfold wyP at h
  grind
 |p::ps,a,K,hK,l,h=>by
  unfold wyP at h
  split at h
  ·cases h
  ·split at h
   ·exact Alr ht ps _ _ hK l h
   ·obtain⟨e,he,h⟩:=List.mem_flatMap.1 h
    split at h
    ·simp only[List.mem_range'_1]at he;refine Alr ht ps _ _ (fun x hx=>?_) l h
     rcases List.mem_or_eq_of_mem_set hx with hx|rfl
     ·exact hK x hx
     grind
    ·cases h
theorem Asq{g:Gr}{D:List Sp}{text:List Str}{r a to n:Nat}(ht:to<=n):∀l∈Qx g D text r a to,Pl n l:=fun l h=>Alr ht _ _ _ (fun x hx=>by
 rw[List.eq_of_mem_replicate hx];exact⟨aq_ _,aq_ _⟩) l h
theorem Asr{n:Nat}{L:List Sp}{s:Sp}(h:Pl n L)(hs:s.2.1<=n/\s.2.2<=n):Pl n (D2 L s).2:=by
 unfold D2
 split
 ·exact h
 ·intro x hx
  rcases bb_.1 hx with hx|hx
  ·exact h x hx
  grind
theorem Afp{n:Nat}:∀{l L:List Sp} {o:List Nat},Pl n L->Pl n l->Pl n (Ct L l o).2
 |[],_,_,h,_=>h
 |x::l,_,_,h,hl=>Afp (l:=l) (Asr h (hl x (ap_ ..))) fun y hy=>hl y (aj_ _ hy)
theorem Ap0{n:Nat}{x:Nat×List Sp}{P Q:Pk}(h:Pl n P.list)(hx:Pl n x.2)(hw:F7 x P=some Q):Pl n Q.list:=by
 unfold F7 at hw
 split at hw
 ·cases hw
 ·cases hw;exact Afp h hx
theorem Ass{n r:Nat}:∀{l:List (List Sp)} {P Q:Pk},Pl n P.list->(∀x∈l,Pl n x)->foM (fun P l=>F7 (r,l) P) l P=some Q->Pl n Q.list
 |[],_,_,h,_,hq=>by cases hq;exact h
 |x::l,P,Q,h,hl,hq=>by
  rw[foM]at hq;cases hw:F7 (r,x) P with
  |none=>simp only[hw]at hq;cases hq
  |some P'=>simp only[hw]at hq;exact Ass (Ap0 h (hl x (ap_ ..)) hw) (fun y hy=>hl y (aj_ _ hy)) hq
theorem Ans{r:Nat}:∀{l:List (List Sp)} {P Q:Pk},foM (fun P l=>F7 (r,l) P) l P=some Q->P.list.length<=Q.list.length
 |[],_,_,hq=>by cases hq;grind
 |x::l,P,Q,hq=>by
  rw[foM]at hq;cases hw:F7 (r,x) P with
  |none=>simp only[hw]at hq;cases hq
  |some P'=>
   simp only[hw]at hq;refine ai_ ?_ (Ans hq);unfold F7 at hw
   split at hw
   ·cases hw
   ·cases hw;exact(Xa x P.list [] gr).2.1
theorem Ajt{r:Nat}{m:List (Nat×List Sp)}:∀{l:List (List Sp)} {P:Pk},Pj (l.map (fun x=>(r,x))++m) P=match foM (fun P l=>F7 (r,l) P) l P with|none=>none|some P'=>Pj m P'
 |[],P=>rfl
 |x::l,P=>by
  rw[cn_,ay_,Pj,foM];cases hw:F7 (r,x) P with
  |none=>simp only
  |some P'=>simp only;exact Ajt
theorem Aju{L:List Sp}{K:List Sp}{i:Nat}{x:Sp}(h:K[i]? =some x):Ct L (K.take (i+1)) []=((Ct L (K.take i) []).1++[(D2 (Ct L (K.take i) []).2 x).1],(D2 (Ct L (K.take i) []).2 x).2):=by
 have e:K.take (i+1)=K.take i++[x]:=by rw[List.take_add_one,h];rfl
 rw[e,Acu _ _ _ _ trivial];rfl
theorem Acv{L:List Sp}:∀{K:List Sp} {o:List Nat},(Ct L K o).2.length<=L.length+K.length/\(Ct L K o).1.length=o.length+K.length
 |[],o=>⟨nl,rfl⟩
 |x::K,o=>by
  have h1:(D2 L x).2.length<=L.length+1:=by unfold D2;split<;>simp
  obtain⟨h2,h3⟩:=Acv (L:=(D2 L x).2) (K:=K) (o:=o++[(D2 L x).1]);refine⟨?_,?_⟩
  ·show(Ct (D2 L x).2 K (o++[(D2 L x).1])).2.length<=_
   grind
  ·show(Ct (D2 L x).2 K (o++[(D2 L x).1])).1.length=_
   grind
end Go.AM
