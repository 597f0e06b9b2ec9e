/- A part. -/
import Derived.Test.YtmkaboegdoadhaaGreatDoorQ26
set_option maxRecDepth 100000
set_option maxHeartbeats 4000000
set_option linter.unusedSimpArgs false
set_option linter.unusedVariables false
namespace Go.AM
open Go Go.Proofs
theorem Axx{E ρ σ Rr}{t ty:Nat}{x y l m a b}(hi:okI E.P t=true)(hx:Ah E ρ x=some (.agg l))(hy:Ah E ρ y=some (.agg m))(hcx:Cm x=false)(hcy:Cm y=false)(h1:D4 E.P t (.agg l)=some a)(h2:D4 E.P t (.agg m)=some b):
  As E Rr (.binOp .eql t x y ty) ρ σ (.bool (Key.eq a b)) σ:=fun tm h=>by
 obtain⟨ti,hti⟩:=Nl hi;simp only[opA,Aw,h.opd hx,h.opd hy,hcx,hcy,Wb,hti,Ir,Bool.or_self,cond_false,Pn,h1,h2,Sx]
def kP(p:Pr):Key:=.agg [kS p.a,kS p.b]
theorem pkey(p):D4 Ew.P 274 (.agg (eP p))=some (kP p):=Kr
theorem Awn(p q):Key.eq (kP p) (kP q)=decide (p=q):=by
 obtain⟨a,b⟩:=p;obtain⟨c,d⟩:=q;simp only[kP,Key.eq,Key.eqs,Abl,Pr.mk.injEq]
 by_cases h1:a=c<;>by_cases h2:b=d<;>simp[h1,h2]
def Q2(d:Db)(x y:Str):Pr:=⟨minS (Aj8 d x) (Aj8 d y),maxS (Aj8 d x) (Aj8 d y)⟩
def Pne(d:Db):Prop:=∀s,vrD d s=true->0<(rlD d s).parts.length
theorem f210{d r P mT σ}(hP:σ.get P=some (.cells (bkC d r mT)))(hne:Pne d)(x y):Cv 210 [.pr P 0,sV x,sV y] σ (.agg (eP (Q2 d x y))):=by
 refine Aj Tryz.func210 rfl rfl fun hw hu0=>?_
 refine G2 ?_;refine O1 (Bu ziC) ?_;refine G ?_;obtain⟨σ1,hσ1⟩:∃σ1,σ.new (.cells [.str [],.str []])=σ1:=⟨_,rfl⟩;rw[hσ1]
 have n1:nx σ1=nx σ+1:=by rw[←hσ1,Ao]
 have g1:∀b,b<nx σ->σ1.get b=σ.get b:=fun b hb=>by rw[←hσ1,ag_,if_neg Om]
 have r1:σ1.get (nx σ)=some (.cells [.str [],.str []]):=by rw[←hσ1,ag_,if_pos rfl]
 have p1:σ1.get P=some (.cells (bkC d r mT)):=(g1 P (hw _ _ hP).1).trans hP;refine G4 ?_;refine Ca (f243 p1 x (hne x)) ?_;refine G2 ?_;refine Ca (f243 p1 y (hne y)) ?_;refine G7 ?_;refine Avk rfl rfl rfl ?_;refine G2 ?_;refine Avl rfl rfl rfl ?_;refine G ?_;refine O1 (sO (cs':=eP (Q2 d x y)) r1) ?_;refine G2 ?_
 exact⟨[.agg (eP (Q2 d x y))],Am (vs:=eP (Q2 d x y)) (ldC (t:=274)) rfl (by simp only[Sto.cells];rw[aa_,if_pos rfl]) rfl rfl,_,σ,am_ hw ⟨by rw[Aq];omega,fun b hb=>by rw[aa_,if_neg Om];exact g1 b hb⟩,nl,.same rfl,rfl,rfl⟩
theorem f242(l p σ)(hl:l.length<=1000000):Al Ew 242 [slV eP 2 l,.agg (eP p)] σ fun v σ'=>∃n:Int,v=iV n/\decide (0<=n)=decide (p∈l)/\σ'=σ:=by
 refine Aj Tryz.func242 rfl rfl fun hw hu0=>?_
 iterate 13 refine G ?_
 refine Bz l.length (fun i0=>[(0,slV eP 2 l),(3,.pv (eP p)),(7,nV l.length),(8,nV i0)]) (fun i0 σ0=>σ0=σ/\∀q∈l.take i0,q≠p) SL ⟨rfl,fun q h=>by simp at h⟩ ?_
 rintro i0 σ0 hi0 ⟨rfl,hz0⟩;refine G5 ?_;refine Ab rfl ?_ ?_<;>intro h1
 ·have bc:i0<l.length:=Int.ofNat_lt.1 (of_decide_eq_true h1);obtain⟨q,hq⟩:=Ar bc;have htk:=List.take_add_one (l:=l) (i:=i0);rw[hq]at htk;refine G9 ?_;refine X0 ?_;refine G5 ?_;refine DF (Axx okC rfl rfl rfl rfl (pkey p) (pkey q)) ?_;refine G ?_;refine⟨rfl,rfl,?_⟩;refine Ab rfl ?_ ?_<;>intro h2
  ·have hpq:p=q:=of_decide_eq_true (by rw[←Awn];exact h2)
   have hm:p∈l:=hpq▸ab_ hq;refine G6 ?_
   exact⟨_,rfl,_,_,a_ hw nl (fun _ _=>rfl),nl,.same rfl,Int.ofNat i0,rfl,by rw[decide_eq_true hm];exact decide_eq_true (Int.natCast_nonneg i0),rfl⟩
  ·have hpq:p≠q:=of_decide_eq_false (by rw[←Awn];exact h2)
   refine G5 ?_;refine⟨bc,SL,rfl,fun u hu=>?_⟩
   rw[htk]at hu
   rcases bb_.1 hu with hu|hu
   ·exact hz0 u hu
   ·simp at hu;subst hu;exact fun e=>hpq e.symm
 ·have bj:l.length<=i0:=bm_.1 (Int.not_lt.1 (fun q=>of_decide_eq_false h1 q))
  rw[at_ bj]at hz0;have hm:p∉l:=fun h=>hz0 p h rfl
  refine G6 ?_
  exact⟨_,rfl,_,_,a_ hw nl (fun _ _=>rfl),nl,.same rfl,-1,rfl,by rw[decide_eq_false hm];rfl,rfl⟩
theorem f209(l p σ)(hl:l.length<=1000000):Cv 209 [slV eP 2 l,.agg (eP p)] σ (.bool (decide (p∈l))):=by
 refine Aj Tryz.func209 rfl rfl fun hw hu0=>?_
 refine G9 ?_;refine Az rfl rfl rfl rfl (f242 l p σ hl) ?_;rintro _ _ ⟨n,rfl,hn,rfl⟩;refine G4 ?_;exact⟨_,rfl,_,_,a_ hw nl (fun _ _=>rfl),nl,.same rfl,(congrArg AV.bool hn),rfl⟩
abbrev eLs(l:List Str):List AV:=[slV e1 1 l]
theorem e1L:∀s:Str,(e1 s).length=1:=fun _=>rfl
theorem f241(n σ)(hn:n<1000000):Al Ew 241 [nS,iV (.ofNat n)] σ fun v σ'=>Own σ' (nx σ) e1 1 [] v/\Below (nx σ) σ σ':=by
 refine Aj Tryz.func241 rfl rfl fun hw hu0=>?_
 refine G10 ?_;refine Ab rfl ?_ ?_<;>intro h1
 ·exact absurd h1 (by simp)
 ·refine G6 ?_;refine O1 (Zz slC rfl) ?_;refine G ?_;refine O1 (Bf slC rfl rfl rfl) (O1 (W2 (p:=0) (q:=0) okC rfl rfl Om Om) ?_);refine O1 (W2 (p:=n) (q:=0) okC rfl rfl Om Om) ?_;refine G7 ?_;refine Ab rfl ?_ ?_<;>intro h2
  ·obtain⟨n,rfl⟩:∃k,n=k+1:=⟨n-1,(by simp at h2;omega)⟩
   refine G3 ?_;refine O1 (Zz slC rfl) (O1 (Ams elC rfl rfl) ?_);refine G ?_
   refine O1 (Ain (n:=n) elC rfl in3 rfl rfl (by simp[sizeLim];omega)) ?_
   refine G ?_;refine O1 (Bf slC rfl rfl rfl) (O1 (Uv (b:=0) elC rfl rfl Om) ?_);refine G7 ?_;refine Bo fun hw'=>?_
   refine G ?_
   exact⟨_,rfl,_,_,a_ hw' nl (fun _ _=>rfl),by rw[Ao];omega,.same (Ce (by rw[Ao];omega)),.inr ⟨nx σ,rep [.str []] (n+1),nl,by rw[Ao];omega,rfl,by rw[ag_,if_pos rfl];rfl⟩,Below.rfl'.new nl _⟩
  ·refine G7 ?_;exact⟨_,rfl,_,_,a_ hw nl (fun _ _=>rfl),nl,.same rfl,.nil,.rfl'⟩
theorem f208(ls σ)(hb:ls.length<1000)(hb2:ls.flatten.length<1000000):Cv 208 [slV eLs 1 ls] σ (slV e1 1 ls.flatten):=by
 refine Aj Tryz.func208 rfl rfl fun hw hu0=>?_
 iterate 16 refine G ?_
 refine Ci (fun q:Nat×AV=>[(0,slV eLs 1 ls),(3,q.2),(9,slV eLs 1 ls),(10,iV (.ofNat ls.length)),(11,iV (.ofNat q.1))]) (fun q σ0=>q.1<=ls.length/\σ0=σ/\∃s,q.2=iV (.ofNat s)/\s=((ls.take q.1).flatten).length) (fun q=>ls.length-q.1) (0,iV (.ofNat 0)) SL ⟨aq_ _,rfl,0,rfl,rfl⟩ ?_
 rintro⟨i0,v0⟩ σ0 hP0;obtain⟨hi0,rfl,s,hvs,hs⟩:i0<=ls.length/\σ0=σ/\∃s,v0=iV (.ofNat s)/\s=((ls.take i0).flatten).length:=hP0;refine G5 ?_;refine Ab rfl ?_ ?_<;>intro h1
 ·have bc:i0<ls.length:=by simpa using h1
  obtain⟨a0,ha0⟩:=Ar bc;have hd0:=A4 ha0;subst hvs
  have hfl:((ls.take i0).flatten).length+a0.length<=ls.flatten.length:=by have:=K9 ls (i0+1);rwa[Np ha0,bx_]at this
  iterate 14 refine G ?_
  refine O1 (D3 (p:=s) (q:=a0.length) okC rfl rfl Om) ?_;refine G7 ?_;refine Ab rfl ?_ ?_<;>intro h2
  ·exact absurd h2 (by simp;omega)
  ·refine G5 ?_
   refine⟨(i0+1,iV (.ofNat (s+a0.length))),by show ls.length-(i0+1)<ls.length-i0;omega,SL,bc,rfl,_,rfl,by rw[Np ha0,bx_,hs]⟩
 ·have bj:ls.length<=i0:=by simpa using h1
  subst hvs;rw[at_ bj]at hs;subst hs;refine G4 ?_;refine Az rfl rfl rfl rfl (f241 ls.flatten.length _ hb2) fun v τ ⟨bf,cb⟩=>?_
  refine G10 ?_;refine Ci (fun q:Nat×AV=>[(6,q.2),(25,slV eLs 1 ls),(26,iV (.ofNat ls.length)),(27,iV (.ofNat q.1))]) (fun q σ2=>q.1<=ls.length/\Own σ2 (nx σ0) e1 1 ((ls.take q.1).flatten) q.2/\Below (nx σ0) σ0 σ2) (fun q=>ls.length-q.1) (0,v) SL ⟨aq_ _,bf,cb⟩ ?_
  rintro⟨i2,v2⟩ σ2 hP2;obtain⟨hi2,bw,b7⟩:i2<=ls.length/\Own σ2 (nx σ0) e1 1 ((ls.take i2).flatten) v2/\Below (nx σ0) σ0 σ2:=hP2;refine G5 ?_;refine Ab rfl ?_ ?_<;>intro h2
  ·have bv:i2<ls.length:=by simpa using h2
   obtain⟨a2,ha2⟩:=Ar bv;have hd2:=A4 ha2
   have bn:(((ls.take i2).flatten).length+a2.length)*(16+1)<=sizeLim:=by have:=K9 ls (i2+1);rw[Np ha2,bx_]at this;simp only[sizeLim];omega
   obtain⟨v,τ3,c5,gg,gp,_⟩:=bw.app (by':=16) e1L b7.1 a2 bn
   refine G12 ?_;refine O1 (Av elC rfl slC rfl rfl rfl (X7 e1L _ a2) c5) ?_;refine G6 ?_
   refine⟨(i2+1,v),by show ls.length-(i2+1)<ls.length-i2;omega,SL,bv,by rw[Np ha2];exact gg,b7.trans gp⟩
  ·have ba:ls.length<=i2:=by simpa using h2
   refine G6 ?_;rw[at_ ba]at bw;refine G ?_;exact⟨_,rfl,slV e1 1 ls.flatten,σ0,am_ hw b7,nl,bw.fz e1L (fun a ha=>hw.none ha) (A2 D9 _),rfl,rfl⟩
def Sv(d:Db)(f:Fr)(a b:Str):Bool:= !decide (a=b)&& !decide (Q2 d a b∈f.apart)
def Yf(d:Db)(f:Fr)(x:Df):Bool:=x.dummies.any fun a=>([x.args,x.dummies].flatten).any (Sv d f a)
theorem f174{d r P mT σ}(hP:σ.get P=some (.cells (bkC d r mT)))(hne:Pne d){i f}(hfr:d.frames[i]? =some f)(hap:f.apart.length<=1000000){x}(h1:x.args.length<=10000)(h2:x.dummies.length<=10000):Cv 174 [.pr P 0,nV i,.agg (eDf x)] σ (.bool (Yf d f x)):=by
 refine Aj Tryz.func174 rfl rfl fun hw hu0=>?_
 refine G2 ?_;refine Jv ldC rfl (A7 (F8 x)) rfl ?_;refine G8 ?_;refine Cx (Ai elC byW rfl rfl rfl) (Dv (len:=2)) rfl rfl ?_
 refine Ca (f208 [x.args,x.dummies] σ (by simp) (by simp;omega)) ?_
 refine G2 ?_;obtain⟨al,hal⟩:∃al,[x.args,x.dummies].flatten=al:=⟨_,rfl⟩;have hll:al.length<=20000:=gr;rw[hal];refine G9 ?_;refine Bz x.dummies.length (fun i0=>[(0,.pr P 0),(1,nV i),(7,Af al),(19,Af x.dummies),(20,nV x.dummies.length),(21,nV i0)]) (fun i0 σ0=>σ0=σ/\∀a∈x.dummies.take i0,al.any (Sv d f a)=false) SL ⟨rfl,gr⟩ ?_
 rintro i0 σ0 hi0 ⟨rfl,hz0⟩;refine G5 ?_;refine Ab rfl ?_ ?_<;>intro h1
 ·have bc:i0<x.dummies.length:=Int.ofNat_lt.1 (of_decide_eq_true h1);obtain⟨a,ha⟩:=Ar bc;have htk:=List.take_add_one (l:=x.dummies) (i:=i0);rw[ha]at htk
  iterate 16 refine G ?_
  refine Bz al.length (fun i2=>[(0,.pr P 0),(1,nV i),(7,Af al),(9,sV a),(19,Af x.dummies),(20,nV x.dummies.length),(21,nV i0),(25,Af al),(26,nV al.length),(27,nV i2)]) (fun i2 σ2=>σ2=σ0/\∀b∈al.take i2,Sv d f a b=false) SL ⟨rfl,gr⟩ ?_
  rintro i2 σ2 hi2 ⟨rfl,hz2⟩;refine G5 ?_;refine Ab rfl ?_ ?_<;>intro h2
  ·have bv:i2<al.length:=Int.ofNat_lt.1 (of_decide_eq_true h2);obtain⟨b,hb⟩:=Ar bv;have ri:=List.take_add_one (l:=al) (i:=i2);rw[hb]at ri;refine G9 ?_;refine Gg [(50,.bool (Sv d f a b))] ?_ ?_
   ·rcases av_ (!decide (a=b))with hg3|hg3
    ·refine XX 1 (l:=[(210,[.pr P 0,sV a,sV b],σ2,.agg (eP (Q2 d a b)),σ2),(209,[slV eP 2 f.apart,.agg (eP (Q2 d a b))],σ2,.bool (decide (Q2 d a b∈f.apart)),σ2)]) ⟨f210 hP hne a b,f209 f.apart _ σ2 hap,trivial⟩ ?_;refine G2 ?_;refine DF (Ko okC rfl rfl) ?_;refine G5 ?_;refine Xn (lO hP) ?_;refine G7 ?_
     refine Ol rfl rfl rfl rfl (R1 hg3) rfl rfl (Bq rfl rfl Bv) (Ol rfl rfl rfl rfl (R1 hg3) rfl rfl (Bq rfl rfl (Dw (by decide) Bv)) ?_)
     refine G3 ?_
     exact⟨(by intro e he;simp at he;first|(rcases he with rfl|rfl<;>exact .refl)|(subst he;exact .refl)),⟨⟨congrArg (fun b=>some (AV.bool b)) (by first|rfl|(unfold Sv;simp only[hg3];done)|(unfold Sv;simp only[hg3];rfl)|(unfold Sv;simp[hg3];done)),trivial⟩,sb,rfl⟩⟩
    ·refine XX 1 (l:=[(210,[.pr P 0,sV a,sV b],σ2,.agg (eP (Q2 d a b)),σ2),(209,[slV eP 2 f.apart,.agg (eP (Q2 d a b))],σ2,.bool (decide (Q2 d a b∈f.apart)),σ2)]) ⟨f210 hP hne a b,f209 f.apart _ σ2 hap,trivial⟩ ?_;refine G2 ?_;refine DF (Ko okC rfl rfl) ?_
     iterate 13 refine G ?_
     refine K5 rfl rfl rfl rfl (R1 hg3) rfl rfl (K5 rfl rfl rfl rfl (R1 hg3) rfl rfl (Wx (w:=R1 hg3) (DF (Au rfl (R1 hg3) rfl) (C1 ?_))))
     exact⟨(by intro e he;simp at he;first|(rcases he with rfl|rfl<;>exact .refl)|(subst he;exact .refl)),⟨⟨congrArg (fun b=>some (AV.bool b)) (by first|rfl|(unfold Sv;simp only[hg3];done)|(unfold Sv;simp only[hg3];rfl)|(unfold Sv;simp[hg3];done)),trivial⟩,sb,rfl⟩⟩
   refine Ab rfl ?_ ?_<;>intro h3
   ·have hc:Yf d f x=true:=by
     unfold Yf
     grind
    refine G5 ?_
    exact⟨_,rfl,_,_,a_ hw nl (fun _ _=>rfl),nl,.same rfl,(by rw[hc];rfl),rfl⟩
   ·skip
    refine G5 ?_;refine⟨bv,SL,rfl,fun u hu=>?_⟩
    grind
  ·have ba:al.length<=i2:=bm_.1 (Int.not_lt.1 (fun q=>of_decide_eq_false h2 q))
   rw[at_ ba]at hz2;refine G5 ?_;refine⟨bc,SL,rfl,fun u hu=>?_⟩
   grind
 ·have bj:x.dummies.length<=i0:=bm_.1 (Int.not_lt.1 (fun q=>of_decide_eq_false h1 q))
  rw[at_ bj]at hz0
  have hc:Yf d f x=false:=by
   unfold Yf
   grind
  refine G6 ?_
  exact⟨_,rfl,_,_,a_ hw nl (fun _ _=>rfl),nl,.same rfl,(by rw[hc];rfl),rfl⟩
theorem Aqa{d l T}(h:B1 d l=(T,0)):(ofF d).2=0/\∃F D t w,Im (ofF d).1 D t w=some F/\Mu (ofF d).1 F=(T,0):=by
 unfold B1 at h
 by_cases he:(ofF d).2≠0
 ·rw[if_pos he]at h;exact absurd (Prod.mk.inj h).2 he
 ·rw[if_neg he]at h;refine⟨Classical.byContradiction he,?_⟩;cases l with
  |nil=>exact absurd (Prod.mk.inj h).2 (by decide)
  |cons t text=>
   have h:(if D7 t∉(ofF d).1.sorts then(Ek,11)else match Fj (ofF d).1 (D7 t) text with
    |(none,e)=>(Ek,if e=160 then 190 else e)
    |(some F,_)=>Mu (ofF d).1 F)=(T,0):=h
   by_cases hs:D7 t∉(ofF d).1.sorts
   ·rw[if_pos hs]at h
    exact absurd (Prod.mk.inj h).2 (by decide)
   ·rw[if_neg hs]at h
    rcases Vt (g:=(ofF d).1) (s:=D7 t) (t:=text)with⟨e,hp,hne⟩|⟨F,D,w,hp,hpk⟩
    ·rw[hp]at h;have h2:(if e=160 then(190:Int)else e)=0:=(Prod.mk.inj h).2
     split at h2
     ·cases h2
     ·exact absurd h2 hne
    ·rw[hp]at h;exact⟨F,D,text,w,hpk,h⟩
theorem Atc{g F T}(hgr:g.rules.length<=1000000)(hF:FOk g F.length F)(hFB:FB F)(h0:0<F.length)(h:Mu g F=(T,0)):KB T/\M6 T<=4000:=by
 unfold Mu at h;cases hc:Yx F with
 |none=>rw[hc]at h;exact absurd (Prod.mk.inj h).2 (by decide)
 |some c=>
  rw[hc]at h;simp only at h
  by_cases h1:c.2.getD 0 0≠1
  ·rw[if_pos h1]at h;exact absurd (Prod.mk.inj h).2 (by decide)
  ·rw[if_neg h1]at h
   split at h
   ·exact absurd (Prod.mk.inj h).2 (by decide)
   ·rename_i h4
    split at h
    ·exact absurd (Prod.mk.inj h).2 (by decide)
    ·obtain⟨E,hci,h0E⟩:=Aho hF h0 hc;obtain⟨i0,hi0⟩:=au_.1 h0E;have hT:fT g F c 0=T:=(Prod.mk.inj h).1;have hL:Lst g F c E:=⟨hF,hFB,hci,hgr⟩;have hk:=hL.kb i0 0 hi0 Om;rw[hT]at hk;refine⟨hk,?_⟩;rw[show Yy g F c.2 (F.length+1) 0=T from hT]at h4
     omega
theorem Q3{d l T}(h:B1 d l=(T,0)):ArT (ofF d).1 T/\KB T/\M6 T<=4000:=by
 obtain⟨_,F,D,t,w,hpk,ht⟩:=Aqa h;obtain⟨hF,h0,_⟩:=Acl hpk;have hG:=Yc d
 have:=Atc (by have:=hG.len;omega) hF (Aj3 hG.prt hpk) h0 ht
 exact⟨Ash hF h0 ht,this.1,this.2⟩
theorem Atd:KB Ek:=.node (aq_ _) fun k h=>by cases h
theorem Aft:∀{l:List Rl} {n:Nat} {r:Rl},(l.map (·.label)).Nodup->l[n]? =some r->F4 l r.label=some r:=by
 intro l n r hnd hr
 rcases L9 (l:=l) (s:=r.label)with⟨hf,hro⟩|⟨m,rl,hf,hat,hro⟩
 ·exfalso
  rcases Ha (p:=fun x:Rl=>decide (x.label=r.label)) l 0 with⟨_,h⟩|⟨m,a,h1,_⟩
  ·have:=h r (ab_ hr);simp at this
  ·rw[hf]at h1;have:=Int.natCast_nonneg (0+m);have e:Int.ofNat (0+m)=((0+m:Nat):Int):=rfl;omega
 ·have hl:rl.label=r.label:=by
   rcases Ha (p:=fun x:Rl=>decide (x.label=r.label)) l 0 with⟨h,_⟩|⟨k,a,h1,h2,h3,_⟩
   ·rw[hf]at h;have:=Int.natCast_nonneg m;have e:Int.ofNat m=((m:Nat):Int):=rfl;omega
   ·rw[hf]at h1;have:m=0+k:=ci_ h1;rw[bn_]at this;subst this;rw[hat]at h2;cases h2;exact of_decide_eq_true h3
  have hmn:m=n:=by
   have a1:(l.map (·.label))[m]? =some r.label:=by rw[br_,hat];exact congrArg some hl
   have a2:(l.map (·.label))[n]? =some r.label:=by rw[br_,hr];rfl
   have b1:=(ae_.1 a1).1
   exact(List.getElem?_inj b1 hnd).1 (by rw[a1,a2])
  subst hmn;rw[hat]at hr;cases hr;exact hro
theorem Ate{g r rl}(h:g.rules[r]? =some rl):nPt g r=(Io rl.parts).length:=by
 unfold nPt rPt Io;rw[h,cx_]
theorem Aj9{d lab ks}(h:ArT (ofF d).1 (.node lab ks))(he:eqD d lab=true):∃a b,ks=[a,b]:=by
 generalize hT:Ax.node lab ks=T at h
 cases h with
 |@node r ks' hr hl _=>
  obtain⟨rfl,rfl⟩:=Ax.node.inj hT;obtain⟨rl,hrl⟩:=Ar hr
  have iq:Md (ofF d).1 r=rl.label:=by unfold Md;rw[hrl]
  have hro:F4 (ofF d).1.rules (Md (ofF d).1 r)=some rl:=by rw[iq];exact Aft (Yc d).nd hrl
  have hrd:rlD d (Md (ofF d).1 r)=rl:=by unfold rlD;rw[hro];rfl
  unfold eqD at he;rw[ad_]at he;have htw:=he.2;rw[hrd]at htw
  have h2:(Io rl.parts).length=2:=by
   unfold Ap6 at htw
   split at htw
   ·rename_i a b hq;rw[hq];rfl
   ·cases htw
  rw[Ate hrl,h2]at hl
  match ks,hl with
  |[a,b],_=>exact⟨a,b,rfl⟩
theorem Aka{ρ σ Rr α enc t sz by' n zz}{l:List α}{x hi}(hel:elI Ew.P t=some (sz,by',zz))(he:∀a,(enc a).length=sz)(hx:Ah Ew ρ x=some (slV enc sz l))(h2:Iz Ew ρ hi=some (some (nV n)))(hn:n<=l.length):
  As Ew Rr (.slice t x none hi none) ρ σ (slV enc sz (l.take n)) σ:=by
 have h0:Nat.ble 0 n=true:=ar_ (aq_ _);have h1:Nat.ble n l.length=true:=ar_ hn
 have hb:Do l.length none none (some (nV n)) none=some (0,n,none):=by
  show cond (Nat.ble 0 n&&Li l.length none n) (some (0,n,Mz none 0)) none=_
  simp only[Li,h0,h1,be_,cond_true,Mz]
 have:=Ag0 (Rr:=Rr) (σ:=σ) (lo:=none) (hi:=hi) (mx:=none) hel he hx rfl h2 rfl hb (aq_ _) hn;rw[db_,es_]at this
 show As Ew Rr _ ρ σ (.sv ((l.take n).flatMap enc) sz (l.take n).length none) σ
 grind
def hyF(hs:List Hp):List (List Str):=(hs.filter fun h=> !h.floating&&Nv h.text).map (·.text)
def fmF(f:Fr):List (List Str):=hyF f.hyps++(if Nv f.text=true then[f.text]else[])
def Vv(fs:List Fr):List (List Str):=fs.flatMap fmF
structure FCons (Ls:List RF)(L:RF)(mT:Nat){α:Type}(I:α->(Nat->Prop)->Sto->Prop)(J:XE->Sto->Prop)(st:α->List Str->Option α)(ok:List Str->Prop):Prop where
 ext:∀a F τ τ',I a F τ->nx τ<=nx τ'->(∀b,b<nx τ->τ'.get b=τ.get b)->I a F τ'
 y:∀a F l τ,ok l->I a F τ->YX Ew Ls L [Af l] τ fun x τ'=>match st a l with
  |some a'=>x=.normal/\∃F',I a' F' τ'/\Con mT mT F τ F' τ'
  |none=>x≠.normal/\J x τ'
def Awo(P i:Nat):AV:=.fn (.func 240) [] [.pv [.pr P 0],.pv [nV i]]
theorem f205{P}(i){σ}(hP:P<nx σ):Cv 205 [.pr P 0,nV i] σ (Awo P i):=by
 refine Aj Tryz.func205 rfl rfl fun hw hu0=>?_
 refine G12 ?_
 exact⟨_,rfl,_,_,a_ hw nl (fun _ _=>rfl),nl,.same (show AV.und (nx σ) (Awo P i)=true from by show(true&&((Nat.blt P (nx σ)&&true)&&((true&&true)&&true)))=true;rw[Ce hP];rfl),rfl,rfl⟩
theorem f240{Ls L}(hL:L∈Ls){d r P mT i α I J st ok}(hC:FCons Ls L mT I J st ok)(hok:∀f∈d.frames.take i,ok f.text/\∀h∈f.hyps,ok h.text)(acc:α)(F σ)(hP:σ.get P=some (.cells (bkC d r mT)))(hi:i<=d.frames.length)(hD:d.frames.length<1000000)(hh:∀f∈d.frames,f.hyps.length<=1000000)(hI:I acc F σ):
  Hl Ew Ls 240 (.yl L.aY::[.pv [.pr P 0],.pv [nV i]]) σ fun _ σ'=>match foM st (Vv (d.frames.take i)) acc with
   |some a'=>∃F',I a' F' σ'/\Con mT mT F σ F' σ'
   |none=>nx σ<=nx σ'/\∃x,x≠.normal/\J x σ':=by
 have hIb:I acc F σ.bump:=hC.ext _ _ _ _ hI gr fun _ _=>Fe
 have hPb:σ.bump.get P=some (.cells (bkC d r mT)):=Fe.trans hP;refine Mo Tryz.func240 (Ke _ _ Tryz.func240) rfl rfl fun hw hu0=>?_
 refine Oo ?_;refine G ?_;refine Dy fun df=>X0 ?_
 iterate  4 refine G ?_
 refine DF (lO hPb) ?_;refine G ?_;refine DF (Aka (n:=i) elC (fun _=>rfl) rfl rfl hi) ?_
 iterate  3 refine G ?_
 refine⟨rfl,rfl,?_⟩;obtain⟨fs,hfs⟩:∃fs,d.frames.take i=fs:=⟨_,rfl⟩;rw[hfs]at hok⊢;have hfl:fs.length<=1000000:=gr;have hfh:∀f∈fs,f.hyps.length<=1000000:=fun f hf=>hh f gr
 refine G ?_;refine Hz (fun q:Nat×α=>[(0,.yl L.aY),(14,slV eF 8 fs),(15,nV fs.length),(16,nV q.1)]) (fun q σ0=>q.1<=fs.length/\∃F0,I q.2 F0 σ0/\Con mT mT F σ F0 σ0/\nx σ+1<=nx σ0/\foM st (Vv (fs.drop q.1)) q.2=foM st (Vv fs) acc) (fun q=>fs.length-q.1) (0,acc) SL ⟨aq_ _,F,hIb,.of gr (fun _ _ _ _=>Fe),gr,rfl⟩ ?_
 rintro⟨i0,a0⟩ σ0 ⟨hi0,F0,hI0,hc0,n0,bu⟩;have hi0:i0<=fs.length:=hi0;have hI0:I a0 F0 σ0:=hI0;have bu:foM st (Vv (fs.drop i0)) a0=foM st (Vv fs) acc:=bu
 iterate  5 refine G ?_
 refine A0 rfl ?_ ?_<;>intro h1
 ·have bc:i0<fs.length:=Int.ofNat_lt.1 (of_decide_eq_true h1);obtain⟨f,hf⟩:=Ar bc;have hhl:=hfh f (ab_ hf);obtain⟨tl,htl⟩:∃tl,(if Nv f.text=true then[f.text]else[])++Vv (fs.drop (i0+1))=tl:=⟨_,rfl⟩
  have hsp:Vv (fs.drop i0)=hyF f.hyps++tl:=by
   rw[A4 hf,←htl]
   show fmF f++Vv (fs.drop (i0+1))=_
   unfold fmF
   grind
  rw[hsp]at bu
  iterate  18 refine G ?_
  refine Hz (fun q:Nat×α=>[(0,.yl L.aY),(5,.pv (eF f)),(14,slV eF 8 fs),(15,nV fs.length),(16,nV i0),(21,slV eH 3 f.hyps),(22,nV f.hyps.length),(23,nV q.1)]) (fun q σ2=>q.1<=f.hyps.length/\∃F2,I q.2 F2 σ2/\Con mT mT F σ F2 σ2/\nx σ+1<=nx σ2/\foM st (hyF (f.hyps.drop q.1)++tl) q.2=foM st (Vv fs) acc) (fun q=>f.hyps.length-q.1) (0,a0) SL ⟨aq_ _,F0,hI0,hc0,n0,bu⟩ ?_
  rintro⟨i2,a2⟩ σ2 ⟨hi2,F2,hI2,hc2,n2,cx⟩;have hi2:i2<=f.hyps.length:=hi2;have hI2:I a2 F2 σ2:=hI2;have cx:foM st (hyF (f.hyps.drop i2)++tl) a2=foM st (Vv fs) acc:=cx
  iterate  5 refine G ?_
  refine A0 rfl ?_ ?_<;>intro h2
  ·have bv:i2<f.hyps.length:=Int.ofNat_lt.1 (of_decide_eq_true h2);obtain⟨h,hhh⟩:=Ar bv
   have r6:hyF (f.hyps.drop i2)=(if(!h.floating&&Nv h.text)=true then[h.text]else[])++hyF (f.hyps.drop (i2+1)):=by
    rw[A4 hhh];unfold hyF
    grind
   rw[r6,ca_]at cx;refine Jw ?_;refine Cf ?_;refine Qn ?_;refine Cf ?_;refine Dy fun df=>B7 ?_
   refine O1 (A1 elC (fun _=>rfl) rfl rfl hhh) ?_
   refine O1 (Ac ldC rfl rfl rfl) (Mp ziC ldC rfl (fun _=>rfl) rfl rfl rfl ?_)
   refine Dd ?_;refine Cf ?_;refine Er ?_;refine Gm 8 fun df=>?_
   refine G ?_;refine Ca (f107 h _) ?_;refine G ?_;refine TAn 3 ?_ (fun hg=>?_) ?_
   rotate_left
   ·iterate  2 refine Gn hg ?_
    refine Bh rfl rfl rfl (by rw[hg];rfl) rfl rfl rfl rfl (f106 h.text _) ?_
    exact Ez
   iterate  2 refine G ?_
   cases hb:(!h.floating&&Nv h.text)with
   |false=>
    rw[hb]at cx;refine TOp 6 ?_;refine Co rfl rfl rfl rfl rfl rfl (Co rfl rfl rfl rfl rfl rfl (Co rfl rfl rfl rfl rfl rfl (Co rfl rfl rfl rfl rfl rfl (Co rfl rfl rfl rfl rfl rfl (O1 (Au rfl rfl rfl) ?_)))))
    iterate  2 refine G ?_
    refine A0 rfl gr (fun h3=>?_)
    iterate  5 refine G ?_
    exact⟨(i2+1,a2),gr,SL,gr,F2,hI2,hc2,n2,cx⟩
   |true=>
    rw[hb]at cx;refine TOp 3 ?_;refine Bi rfl rfl rfl rfl rfl noR rfl rfl (Ag rfl) (Bi rfl rfl rfl rfl rfl noR rfl rfl (Ae fdC rfl rfl) (Bi rfl rfl rfl rfl rfl noR rfl rfl (Ac ldC rfl rfl rfl) ?_));refine G ?_;refine Lg hL (fun tm ht=>Ft rfl rfl rfl rfl rfl _ Hy.refl tm ht) rfl rfl rfl rfl (hC.y a2 F2 h.text σ2 ((hok f (ab_ hf)).2 h (ab_ hhh)) hI2) fun x σ5 hp5 hn5=>?_
    cases hst:st a2 h.text with
    |none=>
     rw[hst]at hp5;obtain⟨hx5,hJ5⟩:=hp5
     have hgo:Iu x=false:=by cases x<;>first|exact absurd rfl hx5|rfl
     rw[hgo];refine TOp 2 ?_;refine Bi rfl rfl rfl rfl rfl noR rfl rfl (Dc rfl) (O1 (A3 rfl rfl rfl) ?_)
     iterate  2 refine G ?_
     refine A0 rfl (fun h3=>?_) gr
     refine G ?_;intro hw9
     refine⟨[],rfl,_,_,a_ hw9 nl (fun _ _=>rfl),by omega,.same rfl,?_⟩
     rw[←cx];simp only[if_true,ay_,bd_,foM,hst]
     exact⟨by omega,x,hx5,hJ5⟩
    |some a5=>
     rw[hst]at hp5;obtain⟨rfl,F5,hI5,hc5⟩:=hp5;refine TOp 2 ?_;refine Bi rfl rfl rfl rfl rfl noR rfl rfl (Dc rfl) (O1 (A3 rfl rfl rfl) ?_)
     iterate  2 refine G ?_
     refine A0 rfl (fun h3=>by cases h3) (fun h3=>?_)
     iterate  5 refine G ?_
     refine⟨(i2+1,a5),gr,SL,gr,F5,hI5,hc2.trans hc5,by omega,?_⟩
     rw[←cx];simp only[if_true,ay_,bd_,foM,hst]
  ·have ba:f.hyps.length<=i2:=bm_.1 (Int.not_lt.1 (fun q=>of_decide_eq_false h2 q))
   rw[ah_ ba,show hyF []=[]from rfl,bd_,←htl]at cx
   refine Ux ?_;refine Cf ?_;refine Er ?_;refine Gm 4 fun df=>?_
   iterate  2 refine G ?_
   refine Ca (f106 f.text _) ?_
   iterate  2 refine G ?_
   cases hb:(Nv f.text)with
   |false=>
    rw[hb]at cx;refine TOp 6 ?_;refine Co rfl rfl rfl rfl rfl rfl (Co rfl rfl rfl rfl rfl rfl (Co rfl rfl rfl rfl rfl rfl (Co rfl rfl rfl rfl rfl rfl (Co rfl rfl rfl rfl rfl rfl (O1 (Au rfl rfl rfl) ?_)))))
    iterate  2 refine G ?_
    refine A0 rfl gr (fun h3=>?_)
    iterate  5 refine G ?_
    refine⟨(i0+1,a2),gr,SL,gr,F2,hI2,hc2,n2,?_⟩;rw[←cx]
    simp
   |true=>
    rw[hb]at cx;refine TOp 3 ?_;refine Bi rfl rfl rfl rfl rfl noR rfl rfl (Ag rfl) (Bi rfl rfl rfl rfl rfl noR rfl rfl (Ae fdC rfl rfl) (Bi rfl rfl rfl rfl rfl noR rfl rfl (Ac ldC rfl rfl rfl) ?_));refine G ?_;refine Lg hL (fun tm ht=>Ft rfl rfl rfl rfl rfl _ Hy.refl tm ht) rfl rfl rfl rfl (hC.y a2 F2 f.text σ2 (hok f (ab_ hf)).1 hI2) fun x σ5 hp5 hn5=>?_
    cases hst:st a2 f.text with
    |none=>
     rw[hst]at hp5;obtain⟨hx5,hJ5⟩:=hp5
     have hgo:Iu x=false:=by cases x<;>first|exact absurd rfl hx5|rfl
     rw[hgo];refine TOp 2 ?_;refine Bi rfl rfl rfl rfl rfl noR rfl rfl (Dc rfl) (O1 (A3 rfl rfl rfl) ?_)
     iterate  2 refine G ?_
     refine A0 rfl (fun h3=>?_) gr
     refine G ?_;intro hw9
     refine⟨[],rfl,_,_,a_ hw9 nl (fun _ _=>rfl),by omega,.same rfl,?_⟩
     rw[←cx];simp only[if_true,ay_,bd_,foM,hst]
     exact⟨by omega,x,hx5,hJ5⟩
    |some a5=>
     rw[hst]at hp5;obtain⟨rfl,F5,hI5,hc5⟩:=hp5;refine TOp 2 ?_;refine Bi rfl rfl rfl rfl rfl noR rfl rfl (Dc rfl) (O1 (A3 rfl rfl rfl) ?_)
     iterate  2 refine G ?_
     refine A0 rfl (fun h3=>by cases h3) (fun h3=>?_)
     iterate  5 refine G ?_
     refine⟨(i0+1,a5),gr,SL,gr,F5,hI5,hc2.trans hc5,by omega,?_⟩
     rw[←cx];simp only[if_true,ay_,bd_,foM,hst]
 ·have bj:fs.length<=i0:=bm_.1 (Int.not_lt.1 (fun q=>of_decide_eq_false h1 q))
  rw[ah_ bj]at bu;have bu:some a0=foM st (Vv fs) acc:=bu;refine G ?_;intro hw9
  refine⟨[],rfl,_,_,a_ hw9 nl (fun _ _=>rfl),by omega,.same rfl,?_⟩
  grind
def usF(d:Db)(s:Str)(l:List Str):Bool:=decide ((B1 d l).2=0)&&Hk (B1 d l).1 s
def Ad5(d:Db)(s:Str)(_:Unit)(l:List Str):Option Unit:=if usF d s l=true then none else some ()
theorem Atf{d s}:∀(l:List (List Str)),foM (Ad5 d s) l ()=if l.any (usF d s)=true then none else some ()
 |[]=>rfl
 |n::l=>by
  simp only[foM];cases h:usF d s n with
  |true=>rw[show Ad5 d s () n=none from if_pos h,dh_,h];rfl
  |false=>
   rw[show Ad5 d s () n=some ()from if_neg gr,dh_,h,Bool.false_or]
   exact Atf l
def I8(d:Db)(x:Df)(i:Nat):Bool:=((d.frames.drop (i+1)).any fun f=>decide (f.label=x.label))||(Vv (d.frames.take i)).any (usF d x.label)
theorem f171{d r P mT σ}(hD:DbB d)(hvf:d.vars.length+d.frames.length<1000000)(hok:∀f∈d.frames,Acx f.text/\∀h∈f.hyps,Acx h.text)(h:BkS d r P mT σ){i}(hi:i<d.frames.length)(x):Al Ew 171 [.pr P 0,nV i,.agg (eDf x)] σ fun v σ'=>v=.bool (I8 d x i)/\BkS d r P mT σ'/\PkF mT σ σ':=by
 have hfn:=hD.n;refine gm_ ?_;have hPl:=fun hw:WFS σ=>(hw _ _ h.ob).1
 refine Mo Tryz.func171 (Ke _ _ Tryz.func171) rfl rfl fun hw hu0=>?_
 have hPl:=(hw _ _ h.ob).1
 have hml:mT<nx σ:=by
  obtain⟨M,⟨v,hM⟩,_⟩:=h.mp;exact(hw _ _ hM).1
 have hPm:=h.ne
 iterate  3 refine G ?_
 refine Jv ldC rfl (A7 (F8 x)) rfl (O1 (Bj (n:=nx σ+1) ziC (Bm σ)) ?_);refine G ?_;obtain⟨σ1,hσ1⟩:∃σ1,σ.bump.new (.cells [.bool false])=σ1:=⟨_,rfl⟩;rw[hσ1];have n1:nx σ1=nx σ+2:=gr;have g1:∀b,b<nx σ->σ1.get b=σ.get b:=gr;have r1:σ1.get (nx σ+1)=some (.cells [.bool false]):=gr;have h1:BkS d r P mT σ1:=h.of_get (g1 P hPl) (g1 mT hml)
 iterate  7 refine G ?_
 refine O1 (lO h1.ob) ?_
 iterate  2 refine G ?_
 refine O1 (Uu (enc:=eF) (a:=i+1) elC (fun _=>rfl) rfl rfl Om) ?_
 refine G ?_;refine Ca (f42 (fun f=>decide (f.label=x.label)) (d.frames.drop (i+1)) 204 [.pv (eDf x)] _ gr (fun a _=>f204 a x _)) ?_
 refine G ?_;refine A0 rfl ?_ ?_<;>intro h2
 ·have hu:I8 d x i=true:=by unfold I8;rw[h2];rfl
  iterate  2 refine G ?_
  refine O1 (sO (cs':=[.bool true]) r1) ?_
  iterate  2 refine G ?_
  exact⟨[.bool true],Am (vs:=[.bool true]) (ldC (t:=4)) rfl (by simp only[Sto.cells];grind) rfl rfl,_,σ,am_ hw ⟨gr,gr⟩,nl,.same rfl,by rw[hu];rfl,h,PkF.refl⟩
 ·have hu1:((d.frames.drop (i+1)).any fun f=>decide (f.label=x.label))=false:=h2
  obtain⟨aY,haY⟩:∃aY,nx σ1+1=aY:=⟨_,rfl⟩;obtain⟨σ7,hσ7⟩:∃σ7,σ1.bump.new (.loop .ready)=σ7:=⟨_,rfl⟩;have n7:nx σ7=nx σ+4:=gr;have g7:∀b,b<nx σ1->σ7.get b=σ1.get b:=gr;have y7:σ7.get aY=some (.loop .ready):=gr;have h7:BkS d r P mT σ7:=h1.of_get (g7 P Om) (g7 mT Om);refine G ?_;refine Oo ?_
  iterate  5 refine G ?_
  refine Nm rfl rfl rfl rfl (f205 i Om) ?_
  iterate  2 refine G ?_
  refine L6 rfl (fun tm htm=>?_)
  rw[hσ7,haY]
  refine et_ (f240 (L:=⟨aY,tm,Tryz.f171.ntmps,_,_,_⟩) (d:=d) (r:=r) (P:=P) (mT:=mT) (i:=i) (I:=fun(_:Unit) F τ=>F=(fun _=>False)/\τ.get aY=some (.loop .ready)/\τ.get (nx σ+1)=some (.cells [.bool false])/\aY<nx τ/\BkS d r P mT τ/\∀b,b<nx σ->b≠mT->τ.get b=σ.get b) (J:=fun z τ=>z=.ret/\τ.get aY=some (.loop (H2 .ret))/\τ.get (nx σ+1)=some (.cells [.bool true])/\nx σ+4<=nx τ/\BkS d r P mT τ/\∀b,b<nx σ->b≠mT->τ.get b=σ.get b) (st:=Ad5 d x.label) (ok:=Acx) (ap_ ..) ⟨?ext,?y⟩ (fun f hf=>hok f (cm_ hf)) () (fun _=>False) σ7 h7.ob Om hD.n (fun f hf=>by have:=(hD.f f hf).h;omega) ⟨rfl,y7,gr,by omega,h7,gr⟩) ?post
  case ext=>
   rintro _ F τ τ' ⟨h1,h2,h3,h4,h5,h6⟩ hn hg
   exact⟨h1,gr,gr,by omega,h5.of_get (hg P Om) (hg mT Om),gr⟩
  case y=>
   rintro _ F l τ hol ⟨rfl,hyt,hrt,hlt,hbt,hgt⟩;obtain⟨T,e,hTe⟩:∃T e,B1 d l=(T,e):=⟨_,_,rfl⟩
   obtain⟨lk,kk,hT⟩:∃lk kk,T=.node lk kk:=by cases T;grind
   have htv:En T=.agg [sV lk,slV eT 2 kk]:=by rw[hT];exact Cg lk kk
   have hkb:decide (e=0)=true->KB T:=fun hg=>(Q3 (by rw[hTe,of_decide_eq_true hg])).2.1
   obtain⟨τ1,hτ1⟩:∃τ1,τ.set aY (.loop .busy)=τ1:=⟨_,rfl⟩;have nt1:nx τ1=nx τ:=gr;have gt1:∀b,b≠aY->τ1.get b=τ.get b:=gr;have yt1:τ1.get aY=some (.loop .busy):=gr;have rt1:τ1.get (nx σ+1)=some (.cells [.bool false]):=gr;have hb1:BkS d r P mT τ1:=hbt.of_get (gt1 P Om) (gt1 mT Om)
   have h108:Al Ew 108 [.pr P 0,Af l] τ1 fun v σ'=>v=.tup [.agg [sV lk,slV eT 2 kk],iV e]/\BkS d r P mT σ'/\PkF mT τ1 σ':=by
    have:=f108 hD hvf hb1 hol
    grind
   refine Tk htm rfl Kr Kr Kr hyt gr ?_
   iterate  3 refine G ?_
   refine⟨hyt,?_⟩;rw[show τ.set aY (.loop .busy)=τ1 from hτ1]
   iterate  5 refine G ?_
   refine Az rfl rfl rfl rfl h108 ?_;rintro _ τ2 ⟨rfl,hb2,hf2⟩;have hn2:=hf2.n
   have yt2:τ2.get aY=some (.loop .busy):=by rw[hf2.g aY Om Om];exact yt1
   have rt2:τ2.get (nx σ+1)=some (.cells [.bool false]):=by rw[hf2.g _ Om Om];exact rt1
   have gt2:∀b,b<nx τ->b≠aY->b≠mT->τ2.get b=τ.get b:=fun b q1 q2 q3=>by rw[hf2.g b Om q3,gt1 b q2]
   iterate  11 refine G ?_
   have hus:usF d x.label l=(decide (e=0)&&Hk T x.label):=by unfold usF;rw[hTe]
   cases hg0:decide (e=0)with
   |false=>
    have hl:Ad5 d x.label () l=some ():=by unfold Ad5;grind
    refine Co rfl rfl rfl rfl rfl rfl (Co rfl rfl rfl rfl rfl rfl (Co rfl rfl rfl rfl rfl rfl (Co rfl rfl rfl rfl rfl rfl (O1 (Au rfl rfl rfl) ?_))));refine G ?_;refine A0 rfl gr (fun h3=>?_)
    refine G ?_;refine⟨yt2,?_⟩;rw[hl]
    exact⟨rfl,fun _=>False,⟨rfl,by rw[aa_,if_pos rfl];rfl,gr,gr,hb2.of_get gr gr,gr⟩,⟨gr,fun b h=>.inl h,fun b hb _ h2 _=>by
     rw[aa_]
     split
     ·rename_i e;rw[e];exact hyt.symm
     grind⟩⟩
   |true=>
    have h206:∀σ,Cv 206 [.agg [sV lk,slV eT 2 kk],sV x.label] σ (.bool (Hk T x.label)):=fun σ=>by
     have:=f206 (hkb hg0) x.label σ
     grind
    refine Bi rfl rfl rfl rfl rfl noR rfl rfl (Ac ldC rfl rfl rfl) (Bi rfl rfl rfl rfl rfl noR rfl rfl (Ae fdC rfl rfl) (Bi rfl rfl rfl rfl rfl noR rfl rfl (Ac ldC rfl rfl rfl) (Bh rfl rfl rfl rfl rfl rfl rfl rfl (h206 _) (O1 (A3 rfl rfl rfl) ?_))));refine G ?_;refine A0 rfl ?_ ?_<;>intro h3
    ·have hl:Ad5 d x.label () l=none:=by unfold Ad5;grind
     iterate  2 refine G ?_
     refine O1 (sO (cs':=[.bool true]) rt2) ?_
     iterate  2 refine G ?_
     refine⟨gr,?_⟩;rw[hl]
     exact⟨by simp,rfl,gr,gr,gr,hb2.of_get gr gr,gr⟩
    ·have hl:Ad5 d x.label () l=some ():=by unfold Ad5;grind
     refine G ?_;refine⟨yt2,?_⟩;rw[hl]
     exact⟨rfl,fun _=>False,⟨rfl,by rw[aa_,if_pos rfl];rfl,gr,gr,hb2.of_get gr gr,gr⟩,⟨gr,fun b h=>.inl h,fun b hb _ h2 _=>by
      rw[aa_]
      split
      ·rename_i e;rw[e];exact hyt.symm
      grind⟩⟩
  case post=>
   intro u σ' bh;rw[Atf]at bh
   by_cases hh:(Vv (d.frames.take i)).any (usF d x.label)=true
   ·rw[if_pos hh]at bh;obtain⟨hn,z,_,rfl,hy9,hr9,hn9,hb9,hg9⟩:=bh
    have hu:I8 d x i=true:=by unfold I8;grind
    refine⟨.ret,hy9,fun hw9=>?_⟩
    exact⟨[.bool true],Am (vs:=[.bool true]) (ldC (t:=4)) rfl (by simp only[Sto.cells];grind) rfl rfl,_,_,a_ hw9 nl (fun _ _=>rfl),gr,.same rfl,by rw[hu];rfl,hb9.of_get gr gr,gr,gr⟩
   ·rw[if_neg hh]at bh;obtain⟨F',⟨_,hy9,hr9,hl9,hb9,hg9⟩,ig⟩:=bh
    have hu:I8 d x i=false:=by
     unfold I8
     grind
    have hk9:(σ'.kill aY).get (nx σ+1)=some (.cells [.bool false]):=gr;refine⟨.normal,hy9,?_⟩
    iterate  2 refine G ?_
    refine O1 (sO (cs':=[.bool false]) hk9) ?_
    iterate  2 refine G ?_
    intro hw9
    exact⟨[.bool false],Am (vs:=[.bool false]) (ldC (t:=4)) rfl (by simp only[Sto.cells];grind) rfl rfl,_,_,a_ hw9 nl (fun _ _=>rfl),gr,.same rfl,by rw[hu];rfl,hb9.of_get gr gr,gr,gr⟩
def ftV:AV:=.sv [.fn (.func 171) [] [],iV 213,.fn (.func 172) [] [],iV 214,.fn (.func 173) [] [],iV 215,.fn (.func 174) [] [],iV 216] 2 4 none
theorem f143(σ):Cv 143 [] σ ftV:=by
 refine Aj Tryz.func143 rfl rfl fun hw hu0=>?_
 refine G10 ?_;refine Cx (Ai elC byW rfl rfl rfl) (Dv (len:=4)) rfl rfl ?_;refine G3 ?_;exact⟨_,rfl,_,_,a_ hw nl (fun _ _=>rfl),nl,.same rfl,rfl,rfl⟩
def zDf:Df:=⟨[],[],[],Ek⟩
def Ki(l:List Str)(s:Str):Bool:=l.any fun x=>decide (s=x)
def Mc(d:Db):List Ax->List Str->Option (List Str)
 |[],a=>some a
 |k::r,a=>if(!vrD d (Mb k)||Ki a (Mb k))=true then none else Mc d r (a++[Mb k])
def Sw(d:Db)(args:List Str)(a:List Str)(n:Ax):List Str:=if((vrD d (Mb n)&& !Ki args (Mb n))&& !Ki a (Mb n))=true then a++[Mb n]else a
def Xh(d:Db)(args:List Str)(t:Ax):List Str:=(Sh t).foldl (Sw d args) []
def Afu:Ax->List Ax
 |.node _ ks=>ks
def M7(d:Db)(left right:Ax):Df×Int:=
 if vrD d (Mb left)=true then(zDf,212)else match Mc d (Afu left) []with
 |none=>(zDf,212)
 |some args=>(⟨Mb left,args,Xh d args right,right⟩,0)
def Vw(d:Db)(r:Rs)(t:Ax):Df×Int:=if(!Ki r.equal (Mb t))=true then(zDf,211)else match Afu t with
 |left::right::_=>M7 d left right
 |_=>(zDf,0)
def Bb(d:Db)(r:Rs)(i:Nat):Df×Int:=match d.frames[i]? with
 |none=>(zDf,5)
 |some f=>if(f.thm|| !Nv f.text)=true then(zDf,13)else if(f.hyps.any fun h=> !h.floating)=true then(zDf,210)else
  if(B1 d f.text).2≠0 then(zDf,(B1 d f.text).2)else Vw d r (B1 d f.text).1
def Ck(d:Db)(r:Rs)(i:Nat):Df×Int:=if(Bb d r i).2≠0 then(zDf,(Bb d r i).2)else
 if I8 d (Bb d r i).1 i=true then(zDf,213)else if Hk (Bb d r i).1.right (Bb d r i).1.label=true then(zDf,214)else
 if(Bb d r i).1.dummies.any (Alv d r)=true then(zDf,215)else match d.frames[i]? with
 |none=>(zDf,5)
 |some f=>if Yf d f (Bb d r i).1=true then(zDf,216)else((Bb d r i).1,0)
def Ip(d:Db)(r:Rs):List (Nat×Df):=(List.range d.frames.length).filterMap fun i=>if(Ck d r i).2=0 then some (i,(Ck d r i).1)else none
theorem Afv{d}:∀(l:List Ax) (a b:List Str),Mc d l a=some b->b.length=a.length+l.length
 |[],a,b,h=>by cases h;simp
 |k::r,a,b,h=>by
  unfold Mc at h
  split at h
  ·cases h
  ·have:=Afv r _ b h;rw[this];simp;omega
theorem An0{d args}:∀(l:List Ax) (a:List Str),(l.foldl (Sw d args) a).length<=a.length+l.length
 |[],a=>by simp
 |n::l,a=>by
  have:=An0 (d:=d) (args:=args) l (Sw d args a n)
  have h2:(Sw d args a n).length<=a.length+1:=by
   unfold Sw
   split
   ·simp
   ·omega
  rw[ct_,as_];omega
mutual
theorem An1:∀t:Ax,(Sh t).length=M6 t
 |.node _ ks=>by rw[Sh,M6,as_,Akb ks];omega
theorem Akb:∀l:List Ax,(Vu l).length=Ach l
 |[]=>rfl
 |t::r=>by rw[Vu,Ach,bx_,An1 t,Akb r]
end
theorem R0{l s ks}:Hk (.node l ks) s=(decide (l=s)||ks.any fun k=>Hk k s):=by
 have h:∀ks:List Ax,(Vu ks).any (fun n=>decide (Mb n=s))=ks.any fun k=>Hk k s:=by
  intro ks
  induction ks with
  |nil=>rfl
  |cons k r ih=>rw[Vu,List.any_append,dh_,ih];rfl
 unfold Hk;rw[Sh,dh_,h];rfl
theorem Xi{d r i x}(h:Ck d r i=(x,0)):Bb d r i=(x,0)/\I8 d x i=false/\Hk x.right x.label=false:=by
 unfold Ck at h
 by_cases h1:(Bb d r i).2≠0
 ·rw[if_pos h1]at h;exact absurd (Prod.mk.inj h).2 h1
 ·rw[if_neg h1]at h;have h1:(Bb d r i).2=0:=Classical.byContradiction h1
  by_cases h2:I8 d (Bb d r i).1 i=true
  ·rw[if_pos h2]at h;exact absurd (Prod.mk.inj h).2 (by decide)
  ·rw[if_neg h2]at h
   by_cases h3:Hk (Bb d r i).1.right (Bb d r i).1.label=true
   ·rw[if_pos h3]at h;exact absurd (Prod.mk.inj h).2 (by decide)
   ·rw[if_neg h3]at h
    by_cases h4:(Bb d r i).1.dummies.any (Alv d r)=true
    ·rw[if_pos h4]at h;exact absurd (Prod.mk.inj h).2 (by decide)
    ·rw[if_neg h4]at h
     split at h
     ·exact absurd (Prod.mk.inj h).2 (by decide)
     ·split at h
      ·exact absurd (Prod.mk.inj h).2 (by decide)
      ·have hx:=(Prod.mk.inj h).1;rw[hx]at h2 h3;refine⟨Prod.ext hx h1,?_,?_⟩
       ·cases hq:I8 d x i with
        |false=>rfl
        |true=>exact absurd hq h2
       ·cases hq:Hk x.right x.label with
        |false=>rfl
        |true=>exact absurd hq h3
def eFt(x:Nat×Int):List AV:=[.fn (.func x.1) [] [],iV x.2]
def fts:List (Nat×Int):=[(171,213),(172,214),(173,215),(174,216)]
theorem f143s(σ):Cv 143 [] σ (slV eFt 2 fts):=f143 σ
theorem f101{d r P mT σ}(hD:DbB d)(hvf:d.vars.length+d.frames.length<1000000)(hok:∀f∈d.frames,Acx f.text/\∀h∈f.hyps,Acx h.text)(hne:Pne d)(hrb:r.bound.length<=1000000)(h:BkS d r P mT σ){i f}(hfr:d.frames[i]? =some f)(hi:i<d.frames.length)(hap:f.apart.length<=1000000)
  (hxb:∀x,Bb d r i=(x,0)->KB x.right/\x.args.length<=10000/\x.dummies.length<=10000)(h53:∀σ,BkS d r P mT σ->Al Ew 53 [.pr P 0,nV i] σ fun v σ'=>v=.tup [.agg (eDf (Bb d r i).1),iV (Bb d r i).2]/\BkS d r P mT σ'/\PkF mT σ σ'):
  Al Ew 101 [.pr P 0,nV i] σ fun v σ'=>v=.tup [.agg (eDf (Ck d r i).1),iV (Ck d r i).2]/\BkS d r P mT σ'/\PkF mT σ σ':=by
 have hiN:i<1000000:=gr;refine Aj Tryz.func101 rfl rfl fun hw hu0=>?_
 have hPl:=(hw _ _ h.ob).1
 have hml:mT<nx σ:=by
  obtain⟨M,⟨v,hM⟩,_⟩:=h.mp;exact(hw _ _ hM).1
 refine G2 ?_;refine O1 (Bu ziC) ?_;refine G2 ?_;obtain⟨σ1,hσ1⟩:∃σ1,σ.new (.cells z5)=σ1:=⟨_,rfl⟩;rw[hσ1];have n1:nx σ1=nx σ+1:=gr;have g1:∀b,b<nx σ->σ1.get b=σ.get b:=gr;have r1:σ1.get (nx σ)=some (.cells z5):=gr;have h1:BkS d r P mT σ1:=h.of_get (g1 P hPl) (g1 mT hml);obtain⟨x,e,hx⟩:∃x e,Bb d r i=(x,e):=⟨_,_,rfl⟩;have h53:=h53 σ1 h1;rw[hx]at h53;refine G4 ?_;refine Az rfl rfl rfl rfl h53 ?_;rintro _ σ2 ⟨rfl,h2,f2⟩;have n2:=f2.n
 have r2:σ2.get (nx σ)=some (.cells z5):=by rw[f2.g _ Om Om];exact r1
 refine G3 ?_;refine Ho ziC ldC rfl (fun _=>rfl) rfl (A7 (F8 x)) rfl rfl ?_
 refine G2 ?_
 have key:∀τ:Sto,BkS d r P mT τ->PkF mT σ1 τ->BkS d r P mT (τ.set (nx σ) (.cells z5))/\PkF mT σ (τ.set (nx σ) (.cells z5)):=fun τ hb hf=>by
  have hn:=hf.n
  exact⟨hb.of_get gr gr,gr,fun b q1 q2=>by rw[aa_,if_neg Om,hf.g b Om q2];exact g1 b q1⟩
 have hc0:Ck d r i=if e≠0 then(zDf,e)else if I8 d x i=true then(zDf,213)else if Hk x.right x.label=true then(zDf,214)else
   if x.dummies.any (Alv d r)=true then(zDf,215)else if Yf d f x=true then(zDf,216)else(x,0):=by
  unfold Ck;rw[hx,hfr]
 refine G6 ?_;refine Ab rfl ?_ ?_<;>intro h3
 ·have he:e≠0:=gr;have hr:Ck d r i=(zDf,e):=gr;refine G4 ?_;refine O1 (sO (cs':=z5) r2) ?_;refine G2 ?_;refine Bo fun hw9=>?_
  refine G ?_
  exact⟨[.agg z5,_],Am (vs:=z5) (ldC (t:=41)) rfl (by simp only[Sto.cells];grind) rfl (Ba rfl rfl),.tup [.agg [sV [],.sv [] 1 0 none,.sv [] 1 0 none,sV [],.sv [] 2 0 none],_],_,a_ hw9 nl (fun _ _=>rfl),gr,.tup (.cons (.agg (.cons (.same rfl) (.cons (.nils gr) (.cons (.nils gr) (.cons (.same rfl) (.cons (.nils gr) .nil)))))) (.cons (.same rfl) .nil)),by rw[hr];rfl,(key σ2 h2 f2).1,(key σ2 h2 f2).2⟩
 ·have he:e=0:=gr;rw[if_neg (fun q=>q he)]at hc0
  obtain⟨hkb,hal,hdl⟩:=hxb x (by rw[hx,he])
  refine G4 ?_;refine Ca (f143s _) ?_;refine G4 ?_
  refine Ci (fun q:Nat=>[(0,.pr P 0),(1,nV i),(4,.pr (nx σ) 0),(6,.pv (eDf x)),(20,slV eFt 2 fts),(21,nV 4),(22,nV q)]) (fun q τ=>q<=4/\BkS d r P mT τ/\PkF mT σ1 τ/\(1<=q->I8 d x i=false)/\(2<=q->Hk x.right x.label=false)/\(3<=q->x.dummies.any (Alv d r)=false)/\(4<=q->Yf d f x=false)) (fun q=>4-q) 0 SL ⟨by omega,h2,f2,gr,gr,gr,gr⟩ ?_
  rintro q τ ⟨hq,hb,hf,k1,k2,k3,k4⟩;have hnf:=hf.n
  have rτ:τ.get (nx σ)=some (.cells z5):=by rw[hf.g _ Om Om];exact r1
  refine G5 ?_;refine Ab rfl ?_ ?_<;>intro h4
  ·have hq4:q<4:=Int.ofNat_lt.1 (of_decide_eq_true h4);refine G3 ?_
   match q,hq4,k1,k2,k3,k4 with
   |0,_,k1,k2,k3,k4=>
    refine G2 ?_;refine O1 (A1 elC (fun _=>rfl) rfl rfl (show fts[0]? =some (171,213)from rfl)) ?_
    refine G9 ?_
    refine O1 (Ac ldC rfl rfl (show Cz 5 true (eDf x)=some (.agg (eDf x))from by have:=A6 (F8 x) [];grind)) ?_
    refine Az rfl rfl rfl rfl (f171 hD hvf hok hb hi x) ?_;rintro _ τ' ⟨rfl,hb',hf3⟩;refine G ?_;have hf':=hf.trans hf3
    have r':τ'.get (nx σ)=some (.cells z5):=by rw[hf'.g _ Om Om];exact r1
    refine Ab rfl ?_ ?_<;>intro h5
    ·have hr:Ck d r i=(zDf,213):=gr;refine G ?_;refine L4 (Rr:=Dk []) (anns:=[⟨.pure,0,0⟩,⟨.pure,0,1⟩,⟨.read,0,1⟩,⟨.eff,0,1⟩,⟨.pure,1,1⟩]) Di (Bw (l:=[]) trivial) Kr ?_;refine G3 ?_;refine DT (sO (cs':=z5) r') ?_;refine G2 ?_;refine⟨⟨trivial,trivial,(fun s hs=>⟨_,Ac (ldC (t:=32)) rfl rfl rfl⟩),trivial,trivial,trivial⟩,?_⟩
     refine Bo fun hw9=>?_
     refine G ?_
     exact⟨[.agg z5,_],Am (vs:=z5) (ldC (t:=41)) rfl (by simp only[Sto.cells];grind) rfl (Ba rfl rfl),.tup [.agg [sV [],.sv [] 1 0 none,.sv [] 1 0 none,sV [],.sv [] 2 0 none],_],_,a_ hw9 nl (fun _ _=>rfl),by rw[Aq];have:=hf'.n;omega,.tup (.cons (.agg (.cons (.same rfl) (.cons (.nils gr) (.cons (.nils gr) (.cons (.same rfl) (.cons (.nils gr) .nil)))))) (.cons (.same rfl) .nil)),by rw[hr];rfl,(key τ' hb' hf').1,(key τ' hb' hf').2⟩
    ·refine G5 ?_
     exact⟨1,by omega,SL,by omega,hb',hf',fun _=>h5,gr,gr,gr⟩
   |1,_,k1,k2,k3,k4=>
    refine G2 ?_;refine O1 (A1 elC (fun _=>rfl) rfl rfl (show fts[1]? =some (172,214)from rfl)) ?_
    refine G9 ?_
    refine O1 (Ac ldC rfl rfl (show Cz 5 true (eDf x)=some (.agg (eDf x))from by have:=A6 (F8 x) [];grind)) ?_
    refine Az rfl rfl rfl rfl (f172 P i hkb _) ?_;rintro _ τ' ⟨rfl,rfl⟩;refine G ?_;have hb':=hb;have hf':=hf;have r':=rτ;refine Ab rfl ?_ ?_<;>intro h5
    ·have hr:Ck d r i=(zDf,214):=gr;refine G ?_;refine L4 (Rr:=Dk []) (anns:=[⟨.pure,0,0⟩,⟨.pure,0,1⟩,⟨.read,0,1⟩,⟨.eff,0,1⟩,⟨.pure,1,1⟩]) Di (Bw (l:=[]) trivial) Kr ?_;refine G3 ?_;refine DT (sO (cs':=z5) r') ?_;refine G2 ?_;refine⟨⟨trivial,trivial,(fun s hs=>⟨_,Ac (ldC (t:=32)) rfl rfl rfl⟩),trivial,trivial,trivial⟩,?_⟩
     refine Bo fun hw9=>?_
     refine G ?_
     exact⟨[.agg z5,_],Am (vs:=z5) (ldC (t:=41)) rfl (by simp only[Sto.cells];grind) rfl (Ba rfl rfl),.tup [.agg [sV [],.sv [] 1 0 none,.sv [] 1 0 none,sV [],.sv [] 2 0 none],_],_,a_ hw9 nl (fun _ _=>rfl),gr,.tup (.cons (.agg (.cons (.same rfl) (.cons (.nils gr) (.cons (.nils gr) (.cons (.same rfl) (.cons (.nils gr) .nil)))))) (.cons (.same rfl) .nil)),by rw[hr];rfl,(key τ' hb' hf').1,(key τ' hb' hf').2⟩
    ·refine G5 ?_
     exact⟨2,by omega,SL,by omega,hb',hf',fun _=>k1 Om,fun _=>h5,gr,gr⟩
   |2,_,k1,k2,k3,k4=>
    refine G2 ?_;refine O1 (A1 elC (fun _=>rfl) rfl rfl (show fts[2]? =some (173,215)from rfl)) ?_
    refine G9 ?_
    refine O1 (Ac ldC rfl rfl (show Cz 5 true (eDf x)=some (.agg (eDf x))from by have:=A6 (F8 x) [];grind)) ?_
    refine Az rfl rfl rfl rfl (f173 hb.ob hrb i Om) ?_;rintro _ τ' ⟨rfl,rfl⟩;refine G ?_;have hb':=hb;have hf':=hf;have r':=rτ;refine Ab rfl ?_ ?_<;>intro h5
    ·have hr:Ck d r i=(zDf,215):=gr;refine G ?_;refine L4 (Rr:=Dk []) (anns:=[⟨.pure,0,0⟩,⟨.pure,0,1⟩,⟨.read,0,1⟩,⟨.eff,0,1⟩,⟨.pure,1,1⟩]) Di (Bw (l:=[]) trivial) Kr ?_;refine G3 ?_;refine DT (sO (cs':=z5) r') ?_;refine G2 ?_;refine⟨⟨trivial,trivial,(fun s hs=>⟨_,Ac (ldC (t:=32)) rfl rfl rfl⟩),trivial,trivial,trivial⟩,?_⟩
     refine Bo fun hw9=>?_
     refine G ?_
     exact⟨[.agg z5,_],Am (vs:=z5) (ldC (t:=41)) rfl (by simp only[Sto.cells];grind) rfl (Ba rfl rfl),.tup [.agg [sV [],.sv [] 1 0 none,.sv [] 1 0 none,sV [],.sv [] 2 0 none],_],_,a_ hw9 nl (fun _ _=>rfl),gr,.tup (.cons (.agg (.cons (.same rfl) (.cons (.nils gr) (.cons (.nils gr) (.cons (.same rfl) (.cons (.nils gr) .nil)))))) (.cons (.same rfl) .nil)),by rw[hr];rfl,(key τ' hb' hf').1,(key τ' hb' hf').2⟩
    ·refine G5 ?_
     exact⟨3,by omega,SL,by omega,hb',hf',fun _=>k1 Om,fun _=>k2 Om,fun _=>h5,gr⟩
   |3,_,k1,k2,k3,k4=>
    refine G2 ?_;refine O1 (A1 elC (fun _=>rfl) rfl rfl (show fts[3]? =some (174,216)from rfl)) ?_
    refine G9 ?_
    refine O1 (Ac ldC rfl rfl (show Cz 5 true (eDf x)=some (.agg (eDf x))from by have:=A6 (F8 x) [];grind)) ?_
    refine Az rfl rfl rfl rfl (f174 hb.ob hne hfr hap hal Om) ?_;rintro _ τ' ⟨rfl,rfl⟩;refine G ?_;have hb':=hb;have hf':=hf;have r':=rτ;refine Ab rfl ?_ ?_<;>intro h5
    ·have hr:Ck d r i=(zDf,216):=gr;refine G ?_;refine L4 (Rr:=Dk []) (anns:=[⟨.pure,0,0⟩,⟨.pure,0,1⟩,⟨.read,0,1⟩,⟨.eff,0,1⟩,⟨.pure,1,1⟩]) Di (Bw (l:=[]) trivial) Kr ?_;refine G3 ?_;refine DT (sO (cs':=z5) r') ?_;refine G2 ?_;refine⟨⟨trivial,trivial,(fun s hs=>⟨_,Ac (ldC (t:=32)) rfl rfl rfl⟩),trivial,trivial,trivial⟩,?_⟩
     refine Bo fun hw9=>?_
     refine G ?_
     exact⟨[.agg z5,_],Am (vs:=z5) (ldC (t:=41)) rfl (by simp only[Sto.cells];grind) rfl (Ba rfl rfl),.tup [.agg [sV [],.sv [] 1 0 none,.sv [] 1 0 none,sV [],.sv [] 2 0 none],_],_,a_ hw9 nl (fun _ _=>rfl),gr,.tup (.cons (.agg (.cons (.same rfl) (.cons (.nils gr) (.cons (.nils gr) (.cons (.same rfl) (.cons (.nils gr) .nil)))))) (.cons (.same rfl) .nil)),by rw[hr];rfl,(key τ' hb' hf').1,(key τ' hb' hf').2⟩
    ·refine G5 ?_
     exact⟨4,by omega,SL,by omega,hb',hf',fun _=>k1 Om,fun _=>k2 Om,fun _=>k3 Om,fun _=>h5⟩
  ·have hq4:q=4:=gr;subst hq4;have hr:Ck d r i=(x,0):=gr;refine G3 ?_
   refine O1 (Ac ldC rfl rfl (show Cz 5 true (eDf x)=some (.agg (eDf x))from by have:=A6 (F8 x) [];grind)) ?_
   refine O1 (G1 (cs':=eDf x) rτ ldC rfl rfl (A7 (F8 x)) (Hh (F8 x))) ?_;refine G2 ?_;refine Bo fun hw9=>?_
   refine G ?_
   exact⟨[.agg (eDf x),_],Am (vs:=eDf x) (ldC (t:=41)) rfl (by simp only[Sto.cells];grind) (show Cz 5 true (eDf x)=some (.agg (eDf x))from by have:=A6 (F8 x) [];grind) (Ba rfl rfl),_,_,a_ hw9 nl (fun _ _=>rfl),gr,.same (by
    have h1:AV.unds (nx (τ.set (nx σ) (.cells (eDf x)))) (eDf x)=true:=Uz (by
     show(true&&(AV.und _ (Af x.args)&&(AV.und _ (Af x.dummies)&&true)))=true
     rw[show AV.und _ (Af x.args)=true from Fv D9 _,show AV.und _ (Af x.dummies)=true from Fv D9 _];rfl) (Es _)
    show(AV.unds _ (eDf x)&&(true&&true))=true
    rw[h1];rfl),by rw[hr];rfl,hb.of_get gr gr,gr,fun b q1 q2=>by rw[aa_,if_neg Om,hf.g b Om q2];exact g1 b q1⟩
theorem f56o{l s v N σ}(bf:Own σ N e1 1 l v)(hb:l.length<=1000000):Al Ew 56 [v,sV s] σ fun u σ'=>∃n:Int,u=iV n/\decide (0<=n)=Ki l s/\σ'=σ:=by
 refine Aj Tryz.func56 rfl rfl fun hw hu0=>?_
 refine G8 ?_;refine O1 (Bf slC rfl bf.lenA.1 bf.lenA.2) ?_;refine G3 ?_
 refine Bz l.length (fun i0=>[(0,v),(1,sV s),(7,nV l.length),(8,nV i0)]) (fun i0 σ0=>σ0=σ/\∀x∈l.take i0,s≠x) SL ⟨rfl,fun x h=>by simp at h⟩ ?_
 rintro i0 σ0 hi0 ⟨rfl,hz0⟩;refine G5 ?_;refine Ab rfl ?_ ?_<;>intro h1
 ·have bc:i0<l.length:=Int.ofNat_lt.1 (of_decide_eq_true h1);obtain⟨x,hx⟩:=Ar bc;have htk:=List.take_add_one (l:=l) (i:=i0);rw[hx]at htk;obtain⟨a,tl,_,_,rfl,hg⟩:=bf.sr bc
  iterate 13 refine G ?_
  refine O1 (Br elC rfl rfl bc) (O1 (Dg (enc:=e1) e1L ldC rfl hg hx fun _=>rfl) ?_)
  refine G2 ?_;refine Ab rfl ?_ ?_<;>intro h2
  ·have hm:Ki l s=true:=e_.2 ⟨x,ab_ hx,h2⟩;refine G6 ?_
   exact⟨_,rfl,_,_,a_ hw nl (fun _ _=>rfl),nl,.same rfl,Int.ofNat i0,rfl,by rw[hm];exact decide_eq_true (Int.natCast_nonneg i0),rfl⟩
  ·have hne:s≠x:=of_decide_eq_false h2;refine G5 ?_;refine⟨bc,SL,rfl,fun u hu=>?_⟩
   rw[htk]at hu
   rcases bb_.1 hu with hu|hu
   ·exact hz0 u hu
   ·simp at hu;subst hu;exact hne
 ·have bj:l.length<=i0:=bm_.1 (Int.not_lt.1 (fun q=>of_decide_eq_false h1 q))
  rw[at_ bj]at hz0
  have hm:Ki l s=false:=dv_.2 fun x hx=>by simp[hz0 x hx]
  refine G6 ?_
  exact⟨_,rfl,_,_,a_ hw nl (fun _ _=>rfl),nl,.same rfl,-1,rfl,by rw[hm];rfl,rfl⟩
theorem f15o{l s v N σ}(bf:Own σ N e1 1 l v)(hb:l.length<=1000000):Al Ew 15 [v,sV s] σ fun u σ'=>u=.bool (Ki l s)/\σ'=σ:=by
 refine Aj Tryz.func15 rfl rfl fun hw hu0=>?_
 refine G8 ?_;refine Az rfl rfl rfl rfl (f56o bf hb) ?_;rintro _ _ ⟨n,rfl,hn,rfl⟩;refine G4 ?_;exact⟨_,rfl,_,_,a_ hw nl (fun _ _=>rfl),nl,.same rfl,congrArg AV.bool hn,rfl⟩
theorem An2{ρ σ Rr t sz by' i len cap k zz cs x y}(hel:elI Ew.P t=some (sz,by',zz))(hx:Ah Ew ρ x=some (.sv cs sz len cap))(hy:Ah Ew ρ y=some (.int k (.ofNat i)))(hi:i<len):As Ew Rr (.indexAddr t x y) ρ σ (.pv (cs.drop (i*sz))) σ:=fun tm h=>by
 obtain⟨ti,e,te,k1,k2,k3,k4,k5,k6⟩:=Qc hel;have hb:Nat.blt i len=true:=Ce hi;subst k4;simp only[opA,Aw,k1,k2,k3,h.opd hx,h.opd hy,Gt,hb,cond_true]
theorem Avm{σ A B}(x):(Tw σ A B).get x=if x=nx σ+3 then some (.cells B)else if x=nx σ+2 then some (.cells A)else if x=nx σ∨x=nx σ+1 then none else σ.get x:=by
 have g1:∀(A B:List AV) x,((σ.new (.cells A)).new (.cells B)).get x=if x=nx σ+1 then some (.cells B)else if x=nx σ then some (.cells A)else σ.get x:=gr;unfold Tw
 grind
theorem Afw{α:Type}[DecidableEq α]:∀{l m:List α},l.Nodup->(∀x∈l,x∈m)->l.length<=m.length
 |[],_,_,_=>aq_ _
 |x::l,m,h,hs=>by
  have hx:=hs x (ap_ ..);have h:=ed_.1 h;have:=Afw (m:=m.erase x) h.2 fun y hy=>(List.mem_erase_of_ne (fun e:y=x=>h.1 gr)).2 (hs y (aj_ _ hy))
  grind
theorem Axy{d}{a:List Str}(h:a.Nodup)(hv:∀s∈a,vrD d s=true):a.length<=600:=by
 have:=Afw (m:=(ofF d).1.rules.map (·.label)) h fun s hs=>by
  have hv:=hv s hs;unfold vrD at hv;rw[ad_]at hv;unfold rlB at hv;obtain⟨r,hr⟩:=bg_.1 hv.1
  rcases L9 (l:=(ofF d).1.rules) (s:=s)with⟨_,hro⟩|⟨n,rl,_,hat,hro⟩
  ·grind
  ·exact bt_.2 ⟨rl,ab_ hat,by unfold F4 at hro;grind⟩
 have h2:=(Yc d).len
 grind
theorem Ahp{α β g}:∀(l:List β) (a:α),foM (fun a n=>some (g a n)) l a=some (l.foldl g a)
 |[],a=>rfl
 |x::l,a=>Ahp l (g a x)
theorem f53{d r P mT σ}(hD:DbB d)(hvf:d.vars.length+d.frames.length<1000000)(hok:∀f∈d.frames,Acx f.text/\∀h∈f.hyps,Acx h.text)(hre:∀s,Ki r.equal s=true->eqD d s=true)(hrl:r.equal.length<=1000000)(h:BkS d r P mT σ){i f}(hfr:d.frames[i]? =some f)(hi:i<d.frames.length):
  Al Ew 53 [.pr P 0,nV i] σ fun v σ'=>v=.tup [.agg (eDf (Bb d r i).1),iV (Bb d r i).2]/\BkS d r P mT σ'/\PkF mT σ σ':=by
 have hiN:i<1000000:=gr;refine gm_ ?_;refine Mo Tryz.func53 (Ke _ _ Tryz.func53) rfl rfl fun hw hu0=>?_
 have hPl:=(hw _ _ h.ob).1
 have hml:mT<nx σ:=by
  obtain⟨M,⟨v,hM⟩,_⟩:=h.mp;exact(hw _ _ hM).1
 iterate  3 refine G ?_
 refine O1 (Bj (n:=nx σ+1) ziC (Bm σ)) ?_
 iterate  2 refine G ?_
 obtain⟨σ1,hσ1⟩:∃σ1,σ.bump.new (.cells z5)=σ1:=⟨_,rfl⟩;rw[hσ1];have n1:nx σ1=nx σ+2:=gr;have g1:∀b,b<nx σ->σ1.get b=σ.get b:=gr;have r1:σ1.get (nx σ+1)=some (.cells z5):=gr;have h1:BkS d r P mT σ1:=h.of_get (g1 P hPl) (g1 mT hml);have f1:PkF mT σ1 σ1:=PkF.refl
 have key:∀τ:Sto,BkS d r P mT τ->PkF mT σ1 τ->BkS d r P mT (τ.set (nx σ+1) (.cells z5))/\PkF mT σ (τ.set (nx σ+1) (.cells z5)):=fun τ hb hf=>by
  have hn:=hf.n
  exact⟨hb.of_get gr gr,gr,fun b q1 q2=>by rw[aa_,if_neg Om,hf.g b Om q2];exact g1 b q1⟩
 have hp0:Bb d r i=if(f.thm|| !Nv f.text)=true then(zDf,13)else if(f.hyps.any fun h=> !h.floating)=true then(zDf,210)else
   if(B1 d f.text).2≠0 then(zDf,(B1 d f.text).2)else Vw d r (B1 d f.text).1:=by unfold Bb;rw[hfr]
 iterate  6 refine G ?_
 refine TOr 8 ?_ (fun hg=>?_) ?_
 rotate_left
 ·iterate  5 refine Gn hg ?_
  refine On hg (lO h1.ob) ?_
  iterate  2 refine Gn hg ?_
  exact Ez
 refine G ?_;refine A0 rfl ?_ ?_<;>intro h2
 ·grind
 ·skip
  iterate  7 refine G ?_
  refine O1 (lO h1.ob) ?_
  iterate  11 refine G ?_
  refine TOr 4 ?_ (fun hg=>?_) ?_
  rotate_left
  ·iterate  2 refine Gn hg ?_
   refine Bh rfl rfl rfl (by rw[hg];rfl) rfl rfl rfl rfl (f106 f.text _) ?_
   refine Gn hg ?_;exact Ez
  refine G ?_;refine A0 rfl ?_ ?_<;>intro h2
  ·have hr:Bb d r i=(zDf,13):=gr
   iterate  3 refine G ?_
   refine O1 (sO (cs':=z5) r1) ?_
   iterate  2 refine G ?_
   refine Gi fun hw9=>?_
   refine G ?_
   exact⟨[.agg z5,_],Am (vs:=z5) (ldC (t:=41)) rfl (by simp only[Sto.cells];grind) rfl (Ba rfl rfl),.tup [.agg [sV [],.sv [] 1 0 none,.sv [] 1 0 none,sV [],.sv [] 2 0 none],_],_,a_ hw9 nl (fun _ _=>rfl),gr,.tup (.cons (.agg (.cons (.same rfl) (.cons (.nils gr) (.cons (.nils gr) (.cons (.same rfl) (.cons (.nils gr) .nil)))))) (.cons (.same rfl) .nil)),by rw[hr];rfl,(key _ h1 f1).1,(key _ h1 f1).2⟩
  ·rw[if_neg gr]at hp0
   iterate  6 refine G ?_
   refine Ca (f45 (fun h=> !h.floating) f.hyps 107 [] _ (by have:=(hD.f f (ab_ hfr)).h;omega) (fun a _=>f107 a _)) ?_
   refine G ?_;refine A0 rfl ?_ ?_<;>intro h3
   ·have hr:Bb d r i=(zDf,210):=gr
    iterate  3 refine G ?_
    refine O1 (sO (cs':=z5) r1) ?_
    iterate  2 refine G ?_
    refine Gi fun hw9=>?_
    refine G ?_
    exact⟨[.agg z5,_],Am (vs:=z5) (ldC (t:=41)) rfl (by simp only[Sto.cells];grind) rfl (Ba rfl rfl),.tup [.agg [sV [],.sv [] 1 0 none,.sv [] 1 0 none,sV [],.sv [] 2 0 none],_],_,a_ hw9 nl (fun _ _=>rfl),gr,.tup (.cons (.agg (.cons (.same rfl) (.cons (.nils gr) (.cons (.nils gr) (.cons (.same rfl) (.cons (.nils gr) .nil)))))) (.cons (.same rfl) .nil)),by rw[hr];rfl,(key _ h1 f1).1,(key _ h1 f1).2⟩
   ·rw[if_neg gr]at hp0;obtain⟨T,e,hTe⟩:∃T e,B1 d f.text=(T,e):=⟨_,_,rfl⟩
    obtain⟨lk,kk,hT⟩:∃lk kk,T=.node lk kk:=by cases T;grind
    have htv:En T=.agg [sV lk,slV eT 2 kk]:=by rw[hT];exact Cg lk kk
    have h108:Al Ew 108 [.pr P 0,Af f.text] σ1 fun v σ'=>v=.tup [.agg [sV lk,slV eT 2 kk],iV e]/\BkS d r P mT σ'/\PkF mT σ1 σ':=by
     have:=f108 hD hvf h1 (hok f (ab_ hfr)).1
     grind
    rw[hTe]at hp0
    iterate  6 refine G ?_
    refine Az rfl rfl rfl rfl h108 ?_;rintro _ σ2 ⟨rfl,h2',f2⟩;have n2:=f2.n
    have r2:σ2.get (nx σ+1)=some (.cells z5):=by rw[f2.g _ Om Om];exact r1
    iterate  12 refine G ?_
    refine A0 rfl ?_ ?_<;>intro h4
    ·have he:e≠0:=gr;have hr:Bb d r i=(zDf,e):=gr;have h2:=h2'
     iterate  4 refine G ?_
     refine O1 (sO (cs':=z5) r2) ?_
     iterate  2 refine G ?_
     refine Gi fun hw9=>?_
     refine G ?_
     exact⟨[.agg z5,_],Am (vs:=z5) (ldC (t:=41)) rfl (by simp only[Sto.cells];grind) rfl (Ba rfl rfl),.tup [.agg [sV [],.sv [] 1 0 none,.sv [] 1 0 none,sV [],.sv [] 2 0 none],_],_,a_ hw9 nl (fun _ _=>rfl),gr,.tup (.cons (.agg (.cons (.same rfl) (.cons (.nils gr) (.cons (.nils gr) (.cons (.same rfl) (.cons (.nils gr) .nil)))))) (.cons (.same rfl) .nil)),by rw[hr];rfl,(key _ h2 f2).1,(key _ h2 f2).2⟩
    ·have he:e=0:=gr;rw[if_neg (fun q=>q he)]at hp0
     have hp0:Bb d r i=Vw d r T:=hp0
     iterate  3 refine G ?_
     refine Dy fun df=>XS (l:=[(15,[Af r.equal,sV lk],σ2,.bool (Ki r.equal lk),σ2)]) ⟨f15 r.equal lk σ2 Om,trivial⟩ ?_
     iterate  4 refine G ?_
     refine DF (lO h2'.ob) ?_
     iterate  5 refine G ?_
     refine A0 rfl ?_ ?_<;>intro h5
     ·have hr:Bb d r i=(zDf,211):=by rw[hp0,hT];exact if_pos h5
      have h2:=h2'
      iterate  3 refine G ?_
      refine O1 (sO (cs':=z5) r2) ?_
      iterate  2 refine G ?_
      refine Gi fun hw9=>?_
      refine G ?_
      exact⟨[.agg z5,_],Am (vs:=z5) (ldC (t:=41)) rfl (by simp only[Sto.cells];grind) rfl (Ba rfl rfl),.tup [.agg [sV [],.sv [] 1 0 none,.sv [] 1 0 none,sV [],.sv [] 2 0 none],_],_,a_ hw9 nl (fun _ _=>rfl),gr,.tup (.cons (.agg (.cons (.same rfl) (.cons (.nils gr) (.cons (.nils gr) (.cons (.same rfl) (.cons (.nils gr) .nil)))))) (.cons (.same rfl) .nil)),by rw[hr];rfl,(key _ h2 f2).1,(key _ h2 f2).2⟩
     ·have hin:Ki r.equal lk=true:=gr
      obtain⟨left,right,rfl⟩:=Aj9 (by have:=(Q3 (by rw[hTe,he])).1;rwa[hT]at this) (hre lk hin)
      have hp1:Bb d r i=M7 d left right:=by rw[hp0,hT];exact if_neg (by show ¬(!Ki r.equal lk)=true;grind)
      iterate  2 refine G ?_
      obtain⟨ll,lks,rfl⟩:∃ll lks,left=.node ll lks:=by cases left;grind
      obtain⟨rl,rks,rfl⟩:∃rl rks,right=.node rl rks:=by cases right;grind
      have hKT:KB (.node lk [.node ll lks,.node rl rks]):=by have:=(Q3 (by rw[hTe,he])).2.1;grind
      have hkL:lks.length<=100000:=by cases hKT with|node _ hk=>cases hk _ (ap_ ..)with|node hl _=>exact hl
      have hkR:KB (.node rl rks):=by cases hKT with|node _ hk=>exact hk _ (aj_ _ (ap_ ..))
      obtain⟨a9,ha9⟩:∃a9,nx σ2+2=a9:=⟨_,rfl⟩;obtain⟨a10,gq⟩:∃a10,nx σ2+3=a10:=⟨_,rfl⟩
      have hsl:slV eT 2 [.node ll lks,.node rl rks]=.sv [sV ll,slV eT 2 lks,sV rl,slV eT 2 rks] 2 2 none:=by
       show AV.sv ([Ax.node ll lks,Ax.node rl rks].flatMap eT) 2 2 none=_
       rw[bs_,bs_,fk_,Cl,Cl];rfl
      have hbl:AV.beqs [sV ll,slV eT 2 lks] [sV ll,slV eT 2 lks]=true:=by rw[←Cl];exact Z8 _
      have hbr:AV.beqs [sV rl,slV eT 2 rks] [sV rl,slV eT 2 rks]=true:=by rw[←Cl];exact Z8 _
      have hb4:AV.beqs [sV ll,slV eT 2 lks,sV rl,slV eT 2 rks] [sV ll,slV eT 2 lks,sV rl,slV eT 2 rks]=true:=Vq (a:=[sV ll,slV eT 2 lks]) (b:=[sV rl,slV eT 2 rks]) hbl hbr
      have hbs:AV.beq (.sv [sV ll,slV eT 2 lks,sV rl,slV eT 2 rks] 2 2 none) (.sv [sV ll,slV eT 2 lks,sV rl,slV eT 2 rks] 2 2 none)=true:=by
       simp only[AV.beq,hb4,aw_,Af8,be_]
      have hal:=Avm (σ:=σ2) (A:=[.str [],nS]) (B:=[.str [],nS]);obtain⟨τ0,hτ0⟩:∃τ0,Tw σ2 [.str [],nS] [.str [],nS]=τ0:=⟨_,rfl⟩;rw[hτ0]at hal
      have nτ0:nx τ0=nx σ2+4:=by rw[←hτ0];unfold Tw;grind
      rw[hsl];refine Dy fun df=>?_
      refine Avi [.pv [.sv [sV ll,slV eT 2 lks,sV rl,slV eT 2 rks] 2 2 none],.sv [sV ll,slV eT 2 lks,sV rl,slV eT 2 rks] 2 2 none,.pv [sV ll,slV eT 2 lks,sV rl,slV eT 2 rks],.agg [sV ll,slV eT 2 lks],.pv [.sv [sV ll,slV eT 2 lks,sV rl,slV eT 2 rks] 2 2 none],.sv [sV ll,slV eT 2 lks,sV rl,slV eT 2 rks] 2 2 none,.pv [sV rl,slV eT 2 rks],.agg [sV rl,slV eT 2 rks],.pr a9 0,.pr a10 0,An,An] 8 9 10 11 Di rfl rfl ⟨by kernel_rfl,by kernel_rfl⟩ Kr rfl rfl rfl rfl Kr rfl rfl ziC ziC rfl rfl rfl rfl (by decide) (by decide) (by decide) (by rw[←ha9];rfl) (by rw[←gq];rfl) (sO (a:=a9) (off:=0) (cs:=[.str [],nS]) (cs':=[sV ll,slV eT 2 lks]) gr) (sO (a:=a10) (off:=0) (cs:=[.str [],nS]) (cs':=[sV rl,slV eT 2 rks]) (by rw[aa_,if_neg Om,hτ0,hal,if_pos gq.symm])) rfl rfl ?_ (fun _ _ _ _ _ _ _ _=>by kernel_rfl) (fun _ _ _ _ _ _ _=>by kernel_rfl) ?_
      ·intro k hk hc υ
       match k,hk,hc with
       |0,_,_=>exact⟨_,_,_,rfl,rfl,Ae (fdC (t:=39) (i:=1)) rfl rfl,rfl,by show AV.beqs [_] [_]=true;simp only[AV.beqs,hbs,be_]⟩
       |1,_,_=>exact⟨_,_,_,rfl,rfl,Ac (ldC (t:=37)) rfl rfl rfl,rfl,hbs⟩
       |2,_,_=>exact⟨_,_,_,rfl,rfl,An2 (i:=0) (elC (t:=37)) rfl rfl (by decide),rfl,hb4⟩
       |3,_,_=>exact⟨_,_,_,rfl,rfl,Ac (ldC (t:=39)) rfl rfl rfl,rfl,by simp only[AV.beq,hbl]⟩
       |4,_,_=>exact⟨_,_,_,rfl,rfl,Ae (fdC (t:=39) (i:=1)) rfl rfl,rfl,by show AV.beqs [_] [_]=true;simp only[AV.beqs,hbs,be_]⟩
       |5,_,_=>exact⟨_,_,_,rfl,rfl,Ac (ldC (t:=37)) rfl rfl rfl,rfl,hbs⟩
       |6,_,_=>exact⟨_,_,_,rfl,rfl,An2 (i:=1) (elC (t:=37)) rfl rfl (by decide),rfl,hbr⟩
       |7,_,_=>exact⟨_,_,_,rfl,rfl,Ac (ldC (t:=39)) rfl rfl rfl,rfl,by simp only[AV.beq,hbr]⟩
       |8,_,h=>cases h
       |9,_,h=>cases h
       |10,_,h=>cases h
       |11,_,h=>cases h
       |k+12,hk,_=>exact absurd hk (by simp)
      rw[hτ0];obtain⟨σ3,hσ3⟩:∃σ3,(τ0.set a9 (.cells [sV ll,slV eT 2 lks])).set a10 (.cells [sV rl,slV eT 2 rks])=σ3:=⟨_,rfl⟩;rw[hσ3];have n3:nx σ3=nx σ2+4:=gr
      have x9:σ3.get a9=some (.cells [sV ll,slV eT 2 lks]):=by rw[←hσ3,aa_,if_neg Om,aa_,if_pos rfl]
      have x10:σ3.get a10=some (.cells [sV rl,slV eT 2 rks]):=gr
      have g3:∀b,b<nx σ2->σ3.get b=σ2.get b:=fun b hb=>by rw[←hσ3,aa_,if_neg Om,aa_,if_neg Om,hal,if_neg Om,if_neg Om,if_neg Om]
      obtain⟨σ4,hσ4⟩:∃σ4,(σ3.kill a9).kill a10=σ4:=⟨_,rfl⟩;have n4:nx σ4=nx σ2+4:=gr
      have g4:∀b,b<nx σ2->σ4.get b=σ2.get b:=fun b hb=>by rw[←hσ4,bf_,if_neg Om,bf_,if_neg Om];exact g3 b hb
      have h4':BkS d r P mT σ4:=h2'.of_get (g4 P Om) (g4 mT Om)
      have f4:PkF mT σ1 σ4:=⟨by omega,fun b q1 q2=>by rw[g4 b Om];exact f2.g b q1 q2⟩
      have r4:σ4.get (nx σ+1)=some (.cells z5):=(g4 _ Om).trans r2
      have hul:∀N,AV.unds N [sV ll,slV eT 2 lks]=true:=fun N=>by rw[←Cl];exact Es _
      have hur:∀N,AV.unds N [sV rl,slV eT 2 rks]=true:=fun N=>by rw[←Cl];exact Es _
      iterate  2 refine G ?_
      refine Dy fun df=>?_
      refine Bo fun hw8=>?_
      refine Aby σ4 [(1,nV i),(2,.pv [.pr P 0]),(4,.pr (nx σ+1) 0),(9,.pv [sV ll,slV eT 2 lks]),(10,.pv [sV rl,slV eT 2 rks])] (by
       rw[←hσ4]
       exact ft_ ((hw8.kill a9).kill a10) gr fun b O hb=>by
        rw[bf_]at hb
        split at hb
        ·cases hb
        grind) Om ⟨⟨_,rfl,.same rfl⟩,⟨_,rfl,.same (show(Nat.blt P (nx σ4)&&true)=true from by rw[Ce Om];rfl)⟩,⟨_,rfl,.same (Jr Om)⟩,⟨_,rfl,.pr x9 (by rw[←hσ4,bf_,if_neg Om,bf_,if_pos rfl]) (dj_ (hul _))⟩,⟨_,rfl,.pr x10 gr (dj_ (hur _))⟩,trivial⟩ ?_
      refine Bo fun hw4=>?_
      iterate  3 refine G ?_
      refine Ca (f109 h4'.ob ll lks) ?_;refine G ?_;refine A0 rfl ?_ ?_<;>intro h6
      ·have hr:Bb d r i=(zDf,212):=by rw[hp1];exact if_pos h6
       have h4:=h4'
       iterate  3 refine G ?_
       refine O1 (sO (cs':=z5) r4) ?_
       iterate  2 refine G ?_
       refine Gi fun hw9=>?_
       refine G ?_
       exact⟨[.agg z5,_],Am (vs:=z5) (ldC (t:=41)) rfl (by simp only[Sto.cells];grind) rfl (Ba rfl rfl),.tup [.agg [sV [],.sv [] 1 0 none,.sv [] 1 0 none,sV [],.sv [] 2 0 none],_],_,a_ hw9 nl (fun _ _=>rfl),gr,.tup (.cons (.agg (.cons (.same rfl) (.cons (.nils gr) (.cons (.nils gr) (.cons (.same rfl) (.cons (.nils gr) .nil)))))) (.cons (.same rfl) .nil)),by rw[hr];rfl,(key _ h4 f4).1,(key _ h4 f4).2⟩
      ·have hvl:vrD d ll=false:=h6;have hp2:Bb d r i=match Mc d lks []with
        |none=>(zDf,212)
        |some args=>(⟨ll,args,Xh d args (.node rl rks),.node rl rks⟩,0):=by rw[hp1];unfold M7;rw[if_neg (by show ¬vrD d ll=true;grind)];rfl
       iterate  7 refine G ?_
       refine O1 (Bj (n:=nx σ4) ziC rfl) (O1 (sO (a:=nx σ4) (off:=0) (cs:=z5) (cs':=[sV ll,nS,nS,sV rl,slV eT 2 rks]) gr) ?_);refine G ?_;obtain⟨aD,haD⟩:∃aD,nx σ4=aD:=⟨_,rfl⟩;rw[haD];obtain⟨σ5,hσ5⟩:∃σ5,(σ4.new (.cells z5)).set aD (.cells [sV ll,nS,nS,sV rl,slV eT 2 rks])=σ5:=⟨_,rfl⟩;rw[hσ5];have n5:nx σ5=aD+1:=gr
       have g5:∀b,b<aD->σ5.get b=σ4.get b:=fun b hb=>by rw[←hσ5,aa_,if_neg Om,ag_,if_neg Om]
       have d5:σ5.get aD=some (.cells [sV ll,nS,nS,sV rl,slV eT 2 rks]):=gr;have h5':BkS d r P mT σ5:=h4'.of_get (g5 P Om) (g5 mT Om)
       iterate  9 refine G ?_
       refine Hz (fun q:Nat×List Str×AV=>[(2,.pv [.pr P 0]),(4,.pr (nx σ+1) 0),(10,.pv [sV rl,slV eT 2 rks]),(11,.pr aD 0),(87,slV eT 2 lks),(88,nV lks.length),(89,nV q.1)]) (fun q σ0=>q.1<=lks.length/\q.2.1.length<=q.1/\Mc d (lks.drop q.1) q.2.1=Mc d lks []/\σ0.get aD=some (.cells [sV ll,q.2.2,nS,sV rl,slV eT 2 rks])/\Own σ0 (aD+1) e1 1 q.2.1 q.2.2/\aD+1<=nx σ0/\∀b,b<aD->σ0.get b=σ4.get b) (fun q=>lks.length-q.1) (0,[],nS) SL ⟨aq_ _,nl,rfl,d5,.nil,by omega,g5⟩ ?_
       rintro⟨i0,a0,v0⟩ σ0 ⟨hi0,ou,dg,hd0,bf,n0,g0⟩;have hi0:i0<=lks.length:=hi0;have ou:a0.length<=i0:=ou;have dg:Mc d (lks.drop i0) a0=Mc d lks []:=dg;have hd0:σ0.get aD=some (.cells [sV ll,v0,nS,sV rl,slV eT 2 rks]):=hd0;have bf:Own σ0 (aD+1) e1 1 a0 v0:=bf;have n0:aD+1<=nx σ0:=n0;have g0:∀b,b<aD->σ0.get b=σ4.get b:=g0;have h0':BkS d r P mT σ0:=h4'.of_get (g0 P Om) (g0 mT Om);have r0:σ0.get (nx σ+1)=some (.cells z5):=(g0 _ Om).trans r4
       have f0:PkF mT σ1 σ0:=⟨by omega,fun b q1 q2=>by rw[g0 b Om];exact f4.g b q1 q2⟩
       iterate  5 refine G ?_
       refine A0 rfl ?_ ?_<;>intro h7
       ·have bc:i0<lks.length:=Int.ofNat_lt.1 (of_decide_eq_true h7);obtain⟨k,hk⟩:=Ar bc
        obtain⟨lk,kk,rfl⟩:∃lk kk,k=.node lk kk:=by cases k;grind
        have hek:eT (.node lk kk)=[sV lk,slV eT 2 kk]:=Cl lk kk;rw[A4 hk]at dg
        have dg:(if(!vrD d lk||Ki a0 lk)=true then none else Mc d (lks.drop (i0+1)) (a0++[lk]))=Mc d lks []:=dg
        iterate  5 refine G ?_
        refine O1 (A1 elC Dh rfl rfl hk) (O1 (Ac ldC rfl rfl (show Cz 2 true (eT (Ax.node lk kk)++_)=some (.agg [sV lk,slV eT 2 kk])from by rw[←hek];exact A6 (Dh _) _)) ?_)
        iterate  7 refine G ?_
        refine Ca (f109 h0'.ob lk kk) ?_
        iterate  2 refine G ?_
        refine TOr 5 ?_ (fun hg=>?_) ?_
        rotate_left
        ·refine Gn hg ?_;refine On hg (lO hd0) ?_
         iterate  2 refine Gn hg ?_
         refine Bh rfl rfl rfl (by rw[hg];rfl) rfl rfl rfl rfl (f15o (s:=lk) bf Om) ?_
         exact Ez
        refine G ?_;refine A0 rfl ?_ ?_<;>intro h8
        ·rw[if_pos h8]at dg;have hr:Bb d r i=(zDf,212):=gr;have h0:=h0'
         iterate  3 refine G ?_
         refine O1 (sO (cs':=z5) r0) ?_
         iterate  2 refine G ?_
         refine Gi fun hw9=>?_
         refine G ?_
         exact⟨[.agg z5,_],Am (vs:=z5) (ldC (t:=41)) rfl (by simp only[Sto.cells];grind) rfl (Ba rfl rfl),.tup [.agg [sV [],.sv [] 1 0 none,.sv [] 1 0 none,sV [],.sv [] 2 0 none],_],_,a_ hw9 nl (fun _ _=>rfl),gr,.tup (.cons (.agg (.cons (.same rfl) (.cons (.nils gr) (.cons (.nils gr) (.cons (.same rfl) (.cons (.nils gr) .nil)))))) (.cons (.same rfl) .nil)),by rw[hr];rfl,(key _ h0 f0).1,(key _ h0 f0).2⟩
        ·rw[if_neg gr]at dg
         obtain⟨σ6,hap,n6,jc,g6⟩:=dn_ (enc:=e1) (sz:=1) (by':=16) (fun _=>rfl) n0 bf lk (by simp only[sizeLim];omega)
         have hd6:σ6.get aD=some (.cells [sV ll,v0,nS,sV rl,slV eT 2 rks]):=(g6 _ Om (fun e=>by have:=(bf.adr_lt e).1;omega)).trans hd0
         iterate  3 refine G ?_
         refine O1 (lO hd0) ?_
         iterate  2 refine G ?_
         refine Cx (Ai elC byW rfl rfl rfl) (Dv (len:=1)) rfl rfl (O1 (Av elC rfl slC rfl rfl rfl (new:=e1 lk) rfl hap) ?_);refine G ?_;refine O1 (sO (cs':=[sV ll,.sr (nx σ0) 0 1 (a0.length+1) none,nS,sV rl,slV eT 2 rks]) hd6) ?_
         iterate  5 refine G ?_
         exact⟨(i0+1,a0++[lk],.sr (nx σ0) 0 1 (a0.length+1) none),gr,SL,gr,gr,dg,gr,jc.of_get gr (fun b q=>by rw[aa_,if_neg (by have:=(jc.adr_lt q).1;omega)]),gr,fun b hb=>by rw[aa_,if_neg Om,g6 b Om (fun e=>by have:=(bf.adr_lt e).1;omega)];exact g0 b hb⟩
       ·have bj:lks.length<=i0:=bm_.1 (Int.not_lt.1 (fun q=>of_decide_eq_false h7 q))
        rw[ah_ bj]at dg;have dg:some a0=Mc d lks []:=dg;have hp3:Bb d r i=(⟨ll,a0,Xh d a0 (.node rl rks),.node rl rks⟩,0):=gr;have hNd:(⟨ll,a0,Xh d a0 (.node rl rks),.node rl rks⟩:Df).right=.node rl rks:=rfl;refine G ?_;obtain⟨aY,haY⟩:∃aY,nx σ0+1=aY:=⟨_,rfl⟩;obtain⟨σ7,hσ7⟩:∃σ7,σ0.bump.new (.loop .ready)=σ7:=⟨_,rfl⟩;have n7:nx σ7=nx σ0+2:=gr
        have g7:∀b,b<nx σ0->σ7.get b=σ0.get b:=fun b hb=>by rw[←hσ7,ag_,Bm,if_neg Om,Fh]
        have y7:σ7.get aY=some (.loop .ready):=gr
        have h58:Cv 58 [.agg [sV rl,slV eT 2 rks]] σ0 (Awm (.node rl rks)):=by have:=f58 (.node rl rks) σ0;rwa[Cg]at this
        iterate  4 refine G ?_
        refine Ca h58 ?_
        iterate  2 refine G ?_
        refine L6 rfl (fun tm htm=>?_)
        rw[hσ7,haY]
        refine et_ (f110 (L:=⟨aY,tm,Tryz.f53.ntmps,_,_,_⟩) (mT:=aY) (I:=fun(a:List Str) F τ=>∃vD,F=(fun b=>b=aD∨adr vD=some b)/\τ.get aY=some (.loop .ready)/\τ.get aD=some (.cells [sV ll,v0,vD,sV rl,slV eT 2 rks])/\Own τ (aY+1) e1 1 a vD/\(a.Nodup/\∀s∈a,vrD d s=true)/\aY<nx τ/\∀b,b<aY->b≠aD->τ.get b=σ7.get b) (J:=fun _ _=>False) (st:=fun a n=>some (Sw d a0 a n)) (ap_ ..) ⟨?ext,?y⟩ hkR [] (fun b=>b=aD) σ7 ⟨nS,by funext b;simp[adr],y7,(g7 _ Om).trans hd0,.nil,⟨dk_,gr⟩,by omega,fun _ _ _=>rfl⟩ gr Om) ?pos
        case ext=>
         rintro a F τ τ' ⟨vD,h1,h2,h3,h4,h5,h6,h7⟩ hn hg
         exact⟨vD,h1,gr,gr,h4.of_get hn (fun b q=>hg b (h4.adr_lt q).2),h5,by omega,gr⟩
        case y=>
         rintro a F k τ ⟨vD,rfl,hyt,hdt,hot,⟨hnd,hvr⟩,hlt,hgt⟩
         obtain⟨lk,kk,rfl⟩:∃lk kk,k=.node lk kk:=by cases k;grind
         have bl:=Axy hnd hvr;rw[Cg];obtain⟨τ1,hτ1⟩:∃τ1,τ.set aY (.loop .busy)=τ1:=⟨_,rfl⟩;have nt1:nx τ1=nx τ:=gr;have gt1:∀b,b≠aY->τ1.get b=τ.get b:=gr;have yt1:τ1.get aY=some (.loop .busy):=gr;have dt1:τ1.get aD=some (.cells [sV ll,v0,vD,sV rl,slV eT 2 rks]):=gr
         have ot1:Own τ1 (aY+1) e1 1 a vD:=hot.of_get Om (fun b q=>gt1 b (by have:=(hot.adr_lt q).1;omega))
         have gz:∀b,b<nx σ0->b≠aD->τ1.get b=σ0.get b:=gr
         have oA1:Own τ1 (aD+1) e1 1 a0 v0:=bf.of_get Om (fun b q=>gz b (bf.adr_lt q).2 (by have:=(bf.adr_lt q).1;omega))
         have bk1:BkS d r P mT τ1:=h0'.of_get (gz P Om Om) (gz mT Om Om);refine Tk htm rfl Kr Kr Kr hyt gr ?_
         iterate  3 refine G ?_
         refine⟨hyt,?_⟩;rw[show τ.set aY (.loop .busy)=τ1 from hτ1]
         iterate  5 refine G ?_
         refine Ca (f109 bk1.ob lk kk) ?_;refine G ?_;refine Hq 6 _ ?_ rfl rfl rfl rfl rfl (Eh rfl) (fun hg=>?_) (fun hg=>?_) ?_
         rotate_left
         ·refine Gn hg ?_;refine On hg (lO dt1) ?_
          iterate  2 refine Gn hg ?_
          refine Bh rfl rfl rfl (by rw[hg];rfl) rfl rfl rfl rfl (f15o (s:=lk) oA1 Om) ?_
          refine Gn hg ?_;refine G ?_;refine⟨rfl,?_,?_⟩
          ·exact sb
          ·exact rfl
         ·iterate 6 refine Of hg ?_
          refine G ?_;exact⟨rfl,sb⟩
         refine G ?_;refine Hq 6 _ ?_ rfl rfl rfl rfl rfl (Eh rfl) (fun hg=>?_) (fun hg=>?_) ?_
         rotate_left
         ·refine Gn hg ?_;refine On hg (lO dt1) ?_
          iterate  2 refine Gn hg ?_
          refine Bh rfl rfl rfl (by rw[hg];rfl) rfl rfl rfl rfl (f15o (s:=lk) ot1 Om) ?_
          refine Gn hg ?_;refine G ?_;refine⟨rfl,?_,?_⟩
          ·exact sb
          ·exact rfl
         ·iterate 6 refine Of hg ?_
          refine G ?_;exact⟨rfl,sb⟩
         refine G ?_;refine A0 rfl ?_ ?_<;>intro h9
         ·have hst:Sw d a0 a (.node lk kk)=a++[lk]:=if_pos h9;rw[ad_,ad_]at h9;obtain⟨⟨q1,_⟩,q3⟩:=h9
          have q3:lk∉a:=fun hm=>by
           have:Ki a lk=true:=e_.2 ⟨lk,hm,decide_eq_true rfl⟩
           grind
          obtain⟨τ2,hap,n2',bw,g2'⟩:=dn_ (enc:=e1) (sz:=1) (by':=16) (fun _=>rfl) (show aY+1<=nx τ1 by omega) ot1 lk (by simp only[sizeLim];omega)
          have hd2:τ2.get aD=some (.cells [sV ll,v0,vD,sV rl,slV eT 2 rks]):=(g2' _ Om (fun e=>by have:=(ot1.adr_lt e).1;omega)).trans dt1
          have hy2:τ2.get aY=some (.loop .busy):=(g2' _ Om (fun e=>by have:=(ot1.adr_lt e).1;omega)).trans yt1
          iterate  2 refine G ?_
          refine O1 (lO dt1) ?_
          iterate  2 refine G ?_
          refine Cx (Ai elC byW rfl rfl rfl) (Dv (len:=1)) rfl rfl (O1 (Av elC rfl slC rfl rfl rfl (new:=e1 lk) rfl hap) ?_);refine G ?_;refine O1 (sO (cs':=[sV ll,v0,.sr (nx τ1) 0 1 (a.length+1) none,sV rl,slV eT 2 rks]) hd2) ?_;refine G ?_;refine⟨gr,?_⟩;rw[hst]
          refine⟨rfl,_,⟨.sr (nx τ1) 0 1 (a.length+1) none,rfl,by rw[aa_,if_pos rfl];rfl,by rw[aa_,if_neg gr,aa_,if_pos rfl],?_,⟨?_,?_⟩,gr,?_⟩,?_⟩
          ·exact bw.of_get gr (fun b q=>by have:=(bw.adr_lt q).1;rw[aa_,if_neg gr,aa_,if_neg Om])
          ·grind
          ·grind
          ·intro b hb hne
           rw[aa_,if_neg gr,aa_,if_neg hne,g2' b Om (fun e=>by have:=(ot1.adr_lt e).1;omega),gt1 b Om]
           grind
          ·refine⟨gr,fun b hb=>?_,fun b hb hF h1 _=>?_⟩
           ·rcases hb with rfl|hb
            ·grind
            ·have hb:some (nx τ1)=some b:=hb
             grind
           grind
         ·have hst:Sw d a0 a (.node lk kk)=a:=if_neg (fun q=>by have q:=q.symm.trans h9;cases q)
          refine G ?_;refine⟨yt1,?_⟩;rw[hst]
          refine⟨rfl,_,⟨vD,rfl,by rw[aa_,if_pos rfl];rfl,gr,ot1.of_get gr (fun b q=>by rw[aa_,if_neg (by have:=(ot1.adr_lt q).1;grind)]),⟨hnd,hvr⟩,gr,gr⟩,.of gr gr⟩
        case pos=>
         intro u σ' bh;rw[Ahp]at bh;obtain⟨F',⟨vD,_,hy9,hd9,ho9,_,hl9,hg9⟩,ig⟩:=bh;have hg9:∀b,b<nx σ0->b≠aD->σ'.get b=σ0.get b:=gr;refine⟨.normal,hy9,?_⟩;obtain⟨σ9,hσ9⟩:∃σ9,σ'.kill aY=σ9:=⟨_,rfl⟩;rw[show σ'.kill aY=σ9 from hσ9]
         have n9:nx σ9=nx σ':=gr;have k9:∀b,b≠aY->σ9.get b=σ'.get b:=gr;have d9:σ9.get aD=some (.cells [sV ll,v0,vD,sV rl,slV eT 2 rks]):=(k9 _ Om).trans hd9;have r9:σ9.get (nx σ+1)=some (.cells z5):=gr
         have oD9:Own σ9 (aY+1) e1 1 (Xh d a0 (.node rl rks)) vD:=ho9.of_get Om (fun b q=>k9 b (by have:=(ho9.adr_lt q).1;omega))
         have oA9:Own σ9 (aD+1) e1 1 a0 v0:=bf.of_get Om (fun b q=>by have:=bf.adr_lt q;grind)
         have hEd:eDf ⟨ll,a0,Xh d a0 (.node rl rks),.node rl rks⟩=[sV ll,Af a0,Af (Xh d a0 (.node rl rks)),sV rl,slV eT 2 rks]:=by unfold eDf;rw[Cl];rfl
         iterate  2 refine G ?_
         refine O1 (lO d9) (O1 (sO (cs':=[sV ll,v0,vD,sV rl,slV eT 2 rks]) r9) ?_)
         iterate  3 refine G ?_
         have hno:∀a,aD+1<=a->(σ4.kill (nx σ+1)).get a=none:=fun a ha=>by rw[bf_,if_neg Om];exact hw4.none Om
         have hpk:PkF mT σ (σ4.kill (nx σ+1)):=⟨gr,fun b q1 q2=>by rw[bf_,if_neg Om,f4.g b Om q2];exact g1 b q1⟩
         refine⟨[.agg [sV ll,v0,vD,sV rl,slV eT 2 rks],_],Am (vs:=[sV ll,v0,vD,sV rl,slV eT 2 rks]) (ldC (t:=41)) rfl (by simp only[Sto.cells];grind) rfl (Ba rfl rfl),.tup [.agg [sV ll,Af a0,Af (Xh d a0 (.node rl rks)),sV rl,slV eT 2 rks],iV 0],σ4.kill (nx σ+1),?_,hpk.n,?_,gr,h4'.of_get gr gr,hpk⟩
         ·refine ft_ (hw4.kill _) gr fun b O hb=>?_
          rw[bf_]at hb
          split at hb
          ·cases hb
          ·rename_i hne
           have hlb:=(hw4 _ _ hb).1;rw[aa_,if_neg hne,k9 b Om,hg9 b Om Om,g0 b Om];exact hb
         ·have q1:Own (σ9.set (nx σ+1) (.cells [sV ll,v0,vD,sV rl,slV eT 2 rks])) (aD+1) e1 1 a0 v0:=oA9.of_get gr (fun b q=>by rw[aa_,if_neg (by have:=(oA9.adr_lt q).1;omega)])
          have q2:Own (σ9.set (nx σ+1) (.cells [sV ll,v0,vD,sV rl,slV eT 2 rks])) (aY+1) e1 1 (Xh d a0 (.node rl rks)) vD:=oD9.of_get gr (fun b q=>by rw[aa_,if_neg (by have:=(oD9.adr_lt q).1;omega)])
          exact .tup (.cons (.agg (.cons (.same rfl) (.cons (q1.fz (fun _=>rfl) hno (A2 D9 _)) (.cons (q2.fz (fun _=>rfl) (fun a ha=>hno a Om) (A2 D9 _)) (dj_ (hur _)))))) (.cons (.same rfl) .nil))
theorem Alw{g}{t:Str}(h:[124,45]∉g.sorts)(ht:t≠[124,45]):[124,45]∉Vk g t:=by
 unfold Vk
 grind
theorem Akc{hy}:∀{l:List Str} {g g':Gr},Kw hy l g=some g'->(∀r∈g.rules,r.var=true)->[124,45]∉g.sorts->(∀r∈g'.rules,r.var=true)/\[124,45]∉g'.sorts
 |[],g,g',h,h1,h2=>by cases h;grind
 |v::l,g,g',h,h1,h2=>by
  unfold Kw at h
  split at h
  ·cases h
  ·split at h
   ·cases h
   ·rename_i hh _ hne
    refine Akc h (fun r hr=>?_) (Alw h2 gr)
    rcases bb_.1 hr with q|q
    ·exact h1 r q
    grind
theorem O7:∀{l:List Fr} {g g':Gr},F6 l g=some g'->g'.sorts=g.sorts/\∀r∈g'.rules,r∈g.rules∨∃f∈l,Hs f=some r/\f.text.headD []∈g.sorts
 |[],g,g',h=>by cases h;grind
 |f::l,g,g',h=>by
  unfold F6 at h
  split at h
  ·obtain⟨a,b⟩:=O7 h
   grind
  ·rename_i hs
   split at h
   ·cases h
   ·rename_i rl hrl
    obtain⟨a,b⟩:=O7 h;refine⟨a,fun r hr=>?_⟩
    rcases b r hr with q|⟨f',q1,q2⟩
    ·rcases bb_.1 q with q|q
     ·exact .inl q
     ·rw[ao_.1 q];refine .inr ⟨f,ap_ ..,hrl,?_⟩;unfold Acf at hs
      grind
    grind
theorem Atg{d r}(h:r∈(ofF d).1.rules)(hv:r.var=false):∃f∈d.frames,f.label=r.label/\f.text.headD []≠[124,45]:=by
 unfold ofF at h
 split at h
 ·cases h
 ·split at h
  ·cases h
  ·rename_i g hg
   obtain⟨h1,h2⟩:=Akc hg (fun r hr=>by cases hr) (fun q=>by cases q)
   split at h
   ·cases h
   ·rename_i g' hg'
    split at h
    ·cases h
    ·rcases(O7 hg').2 r h with q|⟨f,q1,q2,q3⟩
     ·grind
     ·refine⟨f,q1,?_,fun e=>h2 (e▸q3)⟩
      unfold Hs at q2
      grind
theorem Xj{d r}(he:∀s,Ki r.equal s=true->eqD d s=true){i x}(h:Bb d r i=(x,0)):∃f lab left right,d.frames[i]? =some f/\Nv f.text=true/\(B1 d f.text)=(.node lab [left,right],0)/\Mb left=x.label/\x.right=right/\vrD d (Mb left)=false/\KB left/\ArT (ofF d).1 left/\KB right/\Mc d (Afu left) []=some x.args/\x.dummies=Xh d x.args right/\M6 (.node lab [left,right])<=4000:=by
 unfold Bb at h
 split at h
 ·grind
 ·rename_i f hf
  split at h
  ·grind
  ·rename_i h1
   split at h
   ·grind
   ·split at h
    ·grind
    ·rename_i h3
     obtain⟨T,e,hT⟩:∃T e,B1 d f.text=(T,e):=⟨_,_,rfl⟩;rw[hT]at h h3;have h3:e=0:=Classical.byContradiction h3;subst h3;obtain⟨hA,hK,hC⟩:=Q3 hT
     obtain⟨lab,ks,rfl⟩:∃lab ks,T=.node lab ks:=by cases T;grind
     unfold Vw at h
     split at h
     ·grind
     ·rename_i h4
      have h4:Ki r.equal lab=true:=by
       cases hq:Ki r.equal lab with
       |true=>rfl
       |false=>exact absurd (show(!Ki r.equal (Mb (.node lab ks)))=true by show(!Ki r.equal lab)=true;rw[hq];rfl) h4
      obtain⟨left,right,rfl⟩:=Aj9 hA (he lab h4);have h:M7 d left right=(x,0):=h;unfold M7 at h
      split at h
      ·grind
      ·rename_i h5
       split at h
       ·grind
       ·rename_i args bp
        have hx:=(Prod.mk.inj h).1
        refine⟨f,lab,left,right,hf,?_,hT,by rw[←hx],by rw[←hx],gr,?_,?_,?_,gr,by rw[←hx],hC⟩
        ·grind
        ·cases hK with
         |node _ hk=>exact hk _ (ap_ ..)
        ·generalize hQ:Ax.node lab [left,right]=Q at hA
         cases hA with
         |node _ _ hk=>
          obtain⟨_,rfl⟩:=Ax.node.inj hQ;exact hk _ (ap_ ..)
        ·cases hK with
         |node _ hk=>exact hk _ (aj_ _ (ap_ ..))
theorem Acy{d r}(he:∀s,Ki r.equal s=true->eqD d s=true){i x}(h:Bb d r i=(x,0)):KB x.right/\x.args.length<=10000/\x.dummies.length<=10000:=by
 obtain⟨f,lab,left,right,_,_,_,_,hr,_,_,_,hK,ha,hd,hc⟩:=Xj he h;rw[M6,Ach,Ach,Ach]at hc;refine⟨hr▸hK,?_,?_⟩
 ·have:=Afv _ _ _ ha
  have h2:(Afu left).length<=M6 left:=by
   cases left with
   |node l ks=>have:=Ajh ks;rw[M6];show ks.length<=_;omega
  grind
 ·rw[hd];have:=An0 (d:=d) (args:=x.args) (Sh right) [];rw[An1]at this
  show((Sh right).foldl (Sw d x.args) []).length<=_
  grind
theorem Ath{d r}(he:∀s,Ki r.equal s=true->eqD d s=true)(i):KB (Bb d r i).1.right:=by
 by_cases h:(Bb d r i).2=0
 ·exact(Acy he (show Bb d r i=((Bb d r i).1,0)from Prod.ext rfl h)).1
 ·have hz:(Bb d r i).1=zDf:=by
   unfold Bb at h⊢
   split
   ·rfl
   ·rename_i f hf
    rw[hf]at h;simp only at h
    split
    ·rfl
    ·rename_i h1
     rw[if_neg h1]at h
     split
     ·rfl
     ·rename_i h2
      rw[if_neg h2]at h
      split
      ·rfl
      ·rename_i h3
       rw[if_neg h3]at h;unfold Vw at h⊢
       split
       ·rfl
       ·rename_i h4
        rw[if_neg h4]at h
        split
        ·rename_i hk
         rw[hk]at h;simp only at h;unfold M7 at h⊢
         split
         ·rfl
         ·rename_i h5
          rw[if_neg h5]at h
          split
          ·rfl
          grind
        ·rfl
  rw[hz];exact Atd
theorem Aqb(t):Hk t (Mb t)=true:=by
 cases t with
 |node l ks=>rw[R0];simp[Mb]
theorem Avn{d t}(h:ArT (ofF d).1 t)(hv:vrD d (Mb t)=false):∃f∈d.frames,f.label=Mb t/\f.text.headD []≠[124,45]:=by
 cases h with
 |@node r ks hr _ _=>
  obtain⟨rl,hrl⟩:=Ar hr
  have iq:Md (ofF d).1 r=rl.label:=by unfold Md;rw[hrl]
  have hv:vrD d (Md (ofF d).1 r)=false:=hv
  show ∃f∈d.frames,f.label=Md (ofF d).1 r/\_
  rw[iq]at hv⊢;have hro:F4 (ofF d).1.rules rl.label=some rl:=Aft (Yc d).nd hrl
  have:vrD d rl.label=rl.var:=by unfold vrD rlB rlD;rw[hro];rfl
  rw[this]at hv;exact Atg (ab_ hrl) hv
theorem Akd{f}(h:Nv f.text=true):f.text∈fmF f:=by
 unfold fmF;grind
theorem Avo{f h}(hm:h∈f.hyps)(h1:h.floating=false)(h2:Nv h.text=true):h.text∈fmF f:=by
 unfold fmF hyF
 grind
def asT(d:Db)(f:Fr):List Ax:=(f.text::(f.hyps.filter fun h=> !h.floating).map (·.text)).filterMap fun l=>if(B1 d l).2=0/\Nv l=true then some (B1 d l).1 else none
theorem An3{d f t}(h:t∈asT d f):∃l∈fmF f,B1 d l=(t,0):=by
 unfold asT at h;obtain⟨l,hl,he⟩:=List.mem_filterMap.1 h
 split at he
 ·rename_i hc
  cases he;refine⟨l,?_,Prod.ext rfl hc.1⟩
  rcases an_.1 hl with rfl|hl
  ·exact Akd hc.2
  ·obtain⟨h,hm,rfl⟩:=bt_.1 hl;obtain⟨h1,h2⟩:=cp_.1 hm;exact Avo h1 gr hc.2
 ·cases he
theorem Acz{d x i}(h:I8 d x i=false){f}(hf:f∈d.frames.take i){l}(hl:l∈fmF f){t}(ht:B1 d l=(t,0)):Hk t x.label=false:=by
 unfold I8 at h;rw[bv_]at h;have:=dv_.1 h.2 l (List.mem_flatMap.2 ⟨f,hf,hl⟩);unfold usF at this
 grind
theorem Yg{d x i}(h:I8 d x i=false){j}(hj:i<j){f}(hf:d.frames[j]? =some f):f.label≠x.label:=fun e=>by
 unfold I8 at h;rw[bv_]at h
 have hm:f∈d.frames.drop (i+1):=by
  refine ab_ (i:=j-(i+1)) ?_
  grind
 grind
structure NewOk (d:Db)(r:Rs)(i:Nat)(x:Df):Prop where
 p:Bb d r i=(x,0)
 c:Hk x.right x.label=false
 k:∃k,k<i/\A5 (fun f:Fr=>decide (f.label=x.label)) d.frames 0=Int.ofNat k
 a:∀f∈d.frames.take i,∀t∈asT d f,Hk t x.label=false
theorem Axz{d r}(he:∀s,Ki r.equal s=true->eqD d s=true){i x}(h:Ck d r i=(x,0)):NewOk d r i x:=by
 obtain⟨h1,h2,h3⟩:=Xi h;refine⟨h1,h3,?_,fun f hf t ht=>?_⟩
 ·obtain⟨f,lab,left,right,hf,ha,hT,hl,_,hv,_,hA,_⟩:=Xj he h1;obtain⟨f',hm,hl',hne⟩:=Avn hA hv
  rcases Ha (p:=fun f:Fr=>decide (f.label=x.label)) d.frames 0 with⟨_,hn⟩|⟨k,f'',hk,hat,hp,hn⟩
  ·grind
  ·refine⟨k,?_,gr⟩;have hkl:=(ae_.1 hat).1;have hpl:f''.label=x.label:=of_decide_eq_true hp
   rcases Nat.lt_trichotomy k i with q|q|q
   ·exact q
   ·exfalso
    obtain⟨j,hj⟩:=au_.1 hm;have hji:j<=i:=Classical.byContradiction fun q=>Yg h2 Om hj (hl'.trans hl)
    rcases Nat.lt_or_ge j i with q2|q2
    ·have:f'∈d.frames.take k:=ab_ (i:=j) gr
     grind
    ·have:j=i:=by omega
     subst this;rw[hf]at hj;cases hj;unfold Nv at ha;refine hne ?_;have ha:=of_decide_eq_true ha;cases hx:f.text with
     |nil=>rw[hx]at ha;cases ha
     |cons a b=>rw[hx]at ha;cases ha;rfl
   ·exact absurd hpl (Yg h2 q hat)
 ·obtain⟨l,hl,htr⟩:=An3 ht;exact Acz h2 hf hl htr
theorem Ax0{d r}(he:∀s,Ki r.equal s=true->eqD d s=true){i x}(h:Ck d r i=(x,0)):∃f l t,d.frames[i]? =some f/\l∈fmF f/\B1 d l=(t,0)/\Hk t x.label=true/\∀s,Hk x.right s=true->Hk t s=true:=by
 obtain⟨h1,_,_⟩:=Xi h;obtain⟨f,lab,left,right,hf,ha,hT,hl,hr,_⟩:=Xj he h1;refine⟨f,f.text,_,hf,Akd ha,hT,?_,fun s hs=>?_⟩
 ·rw[R0,←hl];simp[Aqb]
 ·rw[hr]at hs;rw[R0];simp[hs]
theorem Ax1{d r}(he:∀s,Ki r.equal s=true->eqD d s=true){i j x y}(hx:Ck d r i=(x,0))(hy:Ck d r j=(y,0))(hij:i<j):x.label≠y.label/\Hk x.right y.label=false:=by
 obtain⟨f,l,t,hf,hl,ht,h1,h2⟩:=Ax0 he hx;obtain⟨_,k2,_⟩:=Xi hy;have hm:f∈d.frames.take j:=ab_ (i:=i) gr;have:=Acz k2 hm hl ht
 grind
theorem Tx{d r}(h:Kh d r=0):(∀s,Ki r.equal s=true->eqD d s=true)/\(ofF d).2=0/\r.equal.length<=40/\r.bound.length<=40:=by
 unfold Kh at h
 split at h
 ·grind
 ·rename_i h1
  split at h
  ·cases h
  ·rename_i h2
   split at h
   ·cases h
   ·rename_i h3
    simp only[bk_,not_or]at h3
    refine⟨fun s hs=>?_,Classical.byContradiction h1,by omega,by omega⟩
    obtain⟨y,hy,e⟩:=e_.1 hs
    grind
structure DOk (d:Db)(r:Rs):Prop where
 db:DbB d
 vf:d.vars.length+d.frames.length<1000000
 ok:∀f∈d.frames,Acx f.text/\∀h∈f.hyps,Acx h.text
 ne:Pne d
 op:Kh d r=0
 ap:∀f∈d.frames,f.apart.length<=1000000
theorem DOk.f53{d r}(H:DOk d r){P mT σ}(h:BkS d r P mT σ){i}(hi:i<d.frames.length):
  Al Ew 53 [.pr P 0,nV i] σ fun v σ'=>v=.tup [.agg (eDf (Bb d r i).1),iV (Bb d r i).2]/\BkS d r P mT σ'/\PkF mT σ σ':=by
 obtain⟨f,hf⟩:=Ar hi
 exact Go.AM.f53 H.db H.vf H.ok (Tx H.op).1 (by have:=(Tx H.op).2.2.1;omega) h hf hi
theorem DOk.f101{d r}(H:DOk d r){P mT σ}(h:BkS d r P mT σ){i}(hi:i<d.frames.length):
  Al Ew 101 [.pr P 0,nV i] σ fun v σ'=>v=.tup [.agg (eDf (Ck d r i).1),iV (Ck d r i).2]/\BkS d r P mT σ'/\PkF mT σ σ':=by
 obtain⟨f,hf⟩:=Ar hi
 exact Go.AM.f101 H.db H.vf H.ok H.ne (by have:=(Tx H.op).2.2.2;omega) h hf hi (H.ap f (ab_ hf)) (fun x hx=>Acy (Tx H.op).1 hx) fun σ hb=>H.f53 hb hi
structure ACons (Ls:List RF)(L:RF)(d:Db)(r:Rs)(P mT:Nat){α:Type}(I:Nat->α->(Nat->Prop)->Sto->Prop)(J:XE->Sto->Prop)(st:α->Nat×Df->Option α):Prop where
 ext:∀n n' a F τ τ',I n a F τ->n<=n'->nx τ<=nx τ'->(∀b,b<nx τ->b≠mT->τ'.get b=τ.get b)->I n' a F τ'
 y:∀n a F i x τ,n<=i->i<d.frames.length->Ck d r i=(x,0)->BkS d r P mT τ->I n a F τ->YX Ew Ls L [nV i,.agg (eDf x)] τ fun z τ'=>BkS d r P mT τ'/\match st a (i,x)with
  |some a'=>z=.normal/\∃F',I (i+1) a' F' τ'/\Con mT mT F τ F' τ'
  |none=>z≠.normal/\J z τ'
def Vx(d:Db)(r:Rs)(i:Nat):List (Nat×Df):=((List.range d.frames.length).drop i).filterMap fun i=>if(Ck d r i).2=0 then some (i,(Ck d r i).1)else none
theorem Alx{d r i}(hi:i<d.frames.length):Vx d r i=(if(Ck d r i).2=0 then[(i,(Ck d r i).1)]else[])++Vx d r (i+1):=by
 have:(List.range d.frames.length)[i]? =some i:=List.getElem?_range hi;unfold Vx;rw[A4 this,List.filterMap_cons]
 grind
theorem Ake{d r i x}(h:(i,x)∈Ip d r):i<d.frames.length/\Ck d r i=(x,0):=by
 unfold Ip at h
 grind
def Awp(P:Nat):AV:=.fn (.func 105) [] [.pv [.pr P 0]]
theorem f52{P σ}(hP:P<nx σ):Cv 52 [.pr P 0] σ (Awp P):=by
 refine Aj Tryz.func52 rfl rfl fun hw hu0=>?_
 refine G11 ?_
 exact⟨_,rfl,_,_,a_ hw nl (fun _ _=>rfl),nl,.same (show AV.und (nx σ) (Awp P)=true from by show(true&&((Nat.blt P (nx σ)&&true)&&true))=true;rw[Ce hP];rfl),rfl,rfl⟩
theorem Ax2(x):Cz 5 true (eDf x)=some (.agg (eDf x)):=by
 have:=A6 (F8 x) []
 grind
theorem f105{Ls L}(hL:L∈Ls){d r P mT}(H:DOk d r){α I J st}(hC:ACons Ls L d r P mT I J st)(acc:α)(F σ)(hB:BkS d r P mT σ)(hI:I 0 acc F σ)(hF:∀b,F b->b<nx σ):
  Hl Ew Ls 105 (.yl L.aY::[.pv [.pr P 0]]) σ fun _ σ'=>BkS d r P mT σ'/\match foM st (Ip d r) acc with
   |some a'=>∃F',I d.frames.length a' F' σ'/\Con mT mT F σ F' σ'
   |none=>nx σ<=nx σ'/\∃x,x≠.normal/\J x σ':=by
 have hfn:=H.db.n;have hIb:I 0 acc F σ.bump:=hC.ext _ _ _ _ _ _ hI nl gr fun _ _ _=>Fe
 have hBb:BkS d r P mT σ.bump:=hB.of_get Fe Fe;refine Mo Tryz.func105 (Ke _ _ Tryz.func105) rfl rfl fun hw hu0=>?_
 refine Oo ?_
 iterate  6 refine G ?_
 refine O1 (lO hBb.ob) ?_
 iterate  4 refine G ?_
 refine Hz (fun q:Nat×α=>[(0,.yl L.aY),(1,.pv [.pr P 0]),(11,nV d.frames.length),(12,nV q.1)]) (fun q σ0=>q.1<=d.frames.length/\∃F0,I q.1 q.2 F0 σ0/\BkS d r P mT σ0/\Con mT mT F σ F0 σ0/\nx σ+1<=nx σ0/\foM st (Vx d r q.1) q.2=foM st (Ip d r) acc) (fun q=>d.frames.length-q.1) (0,acc) SL ⟨aq_ _,F,hIb,hBb,.of gr (fun _ _ _ _=>Fe),gr,rfl⟩ ?_
 rintro⟨i0,a0⟩ σ0 ⟨hi0,F0,hI0,hB0,hc0,n0,bu⟩;have hi0:i0<=d.frames.length:=hi0;have hI0:I i0 a0 F0 σ0:=hI0;have bu:foM st (Vx d r i0) a0=foM st (Ip d r) acc:=bu
 iterate  5 refine G ?_
 refine A0 rfl ?_ ?_<;>intro h1
 ·have bc:i0<d.frames.length:=Int.ofNat_lt.1 (of_decide_eq_true h1);rw[Alx bc]at bu;obtain⟨x,e,hxe⟩:∃x e,Ck d r i0=(x,e):=⟨_,_,rfl⟩;have hcA:=H.f101 hB0 bc;rw[hxe]at hcA bu
  iterate  12 refine G ?_
  refine Az rfl rfl rfl rfl hcA ?_;rintro _ σ1 ⟨rfl,hB1,hp1⟩
  iterate  3 refine G ?_
  refine Mp ziC ldC rfl (fun _=>rfl) rfl (A7 (F8 x)) rfl ?_
  iterate  2 refine G ?_
  have hn1:=hp1.n;have hI1:I i0 a0 F0 σ1:=hC.ext _ _ _ _ _ _ hI0 nl hp1.n hp1.g;have hc1:Con mT mT F σ F0 σ1:=hc0.trans (.of hp1.n fun b hb h1 _=>hp1.g b hb h1)
  refine Cf ?_;refine Er ?_;refine Gm 3 fun df=>?_
  iterate  4 refine G ?_
  by_cases hb:e=0
  ·subst hb;have bu:foM st ((i0,x)::Vx d r (i0+1)) a0=foM st (Ip d r) acc:=bu;refine TOp 3 ?_;refine Bi rfl rfl rfl rfl rfl noR rfl rfl (Ag rfl) (Bi rfl rfl rfl rfl rfl noR rfl rfl (Ag rfl) (Bi rfl rfl rfl rfl rfl noR rfl rfl (Ac ldC rfl rfl (Ax2 x)) ?_));refine G ?_;refine Lg hL (fun tm ht=>Ft rfl rfl rfl rfl rfl _ Hy.refl tm ht) rfl rfl rfl rfl (hC.y i0 a0 F0 i0 x σ1 nl bc hxe hB1 hI1) fun z σ5 hp5 hn5=>?_
   obtain⟨hB5,hp5⟩:=hp5;cases hst:st a0 (i0,x)with
   |none=>
    rw[hst]at hp5;obtain⟨hx5,hJ5⟩:=hp5
    have hgo:Iu z=false:=by cases z<;>first|exact absurd rfl hx5|rfl
    rw[hgo];refine TOp 2 ?_;refine Bi rfl rfl rfl rfl rfl noR rfl rfl (Dc rfl) (O1 (A3 rfl rfl rfl) ?_)
    iterate  2 refine G ?_
    refine A0 rfl (fun h3=>?_) gr
    refine G ?_;intro hw9
    refine⟨[],rfl,_,_,a_ hw9 nl (fun _ _=>rfl),by omega,.same rfl,hB5,?_⟩
    rw[←bu];simp only[foM,hst]
    exact⟨by omega,z,hx5,hJ5⟩
   |some a5=>
    rw[hst]at hp5;obtain⟨rfl,F5,hI5,hc5⟩:=hp5;refine TOp 2 ?_;refine Bi rfl rfl rfl rfl rfl noR rfl rfl (Dc rfl) (O1 (A3 rfl rfl rfl) ?_)
    iterate  2 refine G ?_
    refine A0 rfl (fun h3=>by cases h3) (fun h3=>?_)
    iterate  5 refine G ?_
    refine⟨(i0+1,a5),gr,SL,gr,F5,hI5,hB5,hc1.trans hc5,by omega,?_⟩
    rw[←bu];simp only[foM,hst]
  ·rw[if_neg hb]at bu;have bu:foM st (Vx d r (i0+1)) a0=foM st (Ip d r) acc:=bu;have hbb:decide (e=0)=false:=decide_eq_false hb;rw[hbb];refine TOp 6 ?_;refine Co rfl rfl rfl rfl rfl rfl (Co rfl rfl rfl rfl rfl rfl (Co rfl rfl rfl rfl rfl rfl (Co rfl rfl rfl rfl rfl rfl (Co rfl rfl rfl rfl rfl rfl (O1 (Au rfl rfl rfl) ?_)))))
   iterate  2 refine G ?_
   refine A0 rfl gr (fun h3=>?_)
   iterate  5 refine G ?_
   exact⟨(i0+1,a0),gr,SL,gr,F0,hC.ext _ _ _ _ _ _ hI1 (dm_ _) nl (fun _ _ _=>rfl),hB1,hc1,by omega,bu⟩
 ·have bj:d.frames.length<=i0:=bm_.1 (Int.not_lt.1 (fun q=>of_decide_eq_false h1 q))
  have hie:i0=d.frames.length:=by omega
  subst hie
  have fj:Vx d r d.frames.length=[]:=by unfold Vx;rw[ah_ gr];rfl
  rw[fj]at bu;refine G ?_;intro hw9
  refine⟨[],rfl,_,_,a_ hw9 nl (fun _ _=>rfl),by omega,.same rfl,hB0,?_⟩
  rw[←bu];exact⟨F0,hI0,hc0⟩
def eNn(n:Nat):List AV:=[nV n]
def Ac0(d:Db)(r:Rs):List Nat×Int:=if Kh d r≠0 then([],Kh d r)else((Ip d r).map (·.1),0)
theorem Akf{α β:Type}:∀(l:List (α×β)) (a:List α),l.foldl (fun a q=>a++[q.1]) a=a++l.map (·.1)
 |[],a=>by simp
 |q::l,a=>by rw[ct_,Akf l,ca_];rfl
theorem BkS.lt{d r P mT σ}(h:BkS d r P mT σ)(hw:WFS σ):P<nx σ/\mT<nx σ:=by
 refine⟨(hw _ _ h.ob).1,?_⟩;obtain⟨M,⟨v,hM⟩,_⟩:=h.mp;exact(hw _ _ hM).1
theorem f11{d r}(hD:DbB d)(hvf:d.vars.length+d.frames.length<1000000)(hH:Kh d r=0->DOk d r)(σ):
  Cv 11 [dbV d,.agg (eRs r)] σ (.tup [slV eNn 1 (Ac0 d r).1,iV (Ac0 d r).2]):=by
 have hfn:=hD.n;refine gm_ ?_;refine Mo Tryz.func11 (Ke _ _ Tryz.func11) rfl rfl fun hw hu0=>?_
 iterate  11 refine G ?_
 refine Az rfl rfl rfl rfl (f51 r _ hD hvf) ?_
 rintro _ σ1 (⟨ho,rfl,rfl⟩|⟨ho,P,mT,rfl,hB1,hP1,hm1,hm2,n1,g1⟩)
 ·have bs:Ac0 d r=([],Kh d r):=if_pos ho
  iterate  12 refine G ?_
  refine A0 rfl (fun h1=>?_) (fun h1=>absurd h1 (by simp[ho]))
  iterate  7 refine G ?_
  rw[bs];exact⟨_,rfl,.tup [.sv [] 1 0 none,iV (Kh d r)],σ,am_ hw ⟨gr,fun _ _=>Fe⟩,nl,.tup (.cons (.nils gr) (.cons (.same rfl) .nil)),rfl,rfl⟩
 ·have H:=hH ho;have bs:Ac0 d r=((Ip d r).map (·.1),0):=if_neg (fun q=>q ho)
  rw[Bm]at hP1 hm1 n1 g1;have g1:∀b,b<nx σ->σ1.get b=σ.get b:=gr
  iterate  12 refine G ?_
  refine A0 rfl gr (fun h1=>?_)
  refine G ?_;obtain⟨σ2,hσ2⟩:∃σ2,σ1.new (.cells [nS])=σ2:=⟨_,rfl⟩;have n2:nx σ2=nx σ1+1:=gr;have g2:∀b,b<nx σ1->σ2.get b=σ1.get b:=gr;have l2:σ2.get (nx σ1)=some (.cells [nS]):=gr;refine Gi fun hw1=>?_
  have hP2:=(hB1.lt hw1).1;have hB2:BkS d r P mT σ2:=hB1.of_get (g2 P hP2) (g2 mT hm2)
  iterate  2 refine G ?_
  refine O1 (Bj (n:=nx σ1) ziC rfl) ?_;refine G ?_;rw[hσ2];obtain⟨aL,haL⟩:∃aL,nx σ1=aL:=⟨_,rfl⟩;rw[haL]at l2 n2 g2 hP2 hm2⊢;obtain⟨aY,haY⟩:∃aY,nx σ2+1=aY:=⟨_,rfl⟩;obtain⟨σ7,hσ7⟩:∃σ7,σ2.bump.new (.loop .ready)=σ7:=⟨_,rfl⟩;have n7:nx σ7=nx σ2+2:=gr;have g7:∀b,b<nx σ2->σ7.get b=σ2.get b:=gr;have y7:σ7.get aY=some (.loop .ready):=gr;have hB7:BkS d r P mT σ7:=hB2.of_get (g7 P Om) (g7 mT Om)
  iterate  4 refine G ?_
  refine Nm rfl rfl rfl rfl (f52 (σ:=σ2) Om) ?_
  iterate  2 refine G ?_
  refine L6 rfl (fun tm htm=>?_)
  rw[hσ7,haY]
  refine et_ (f105 (L:=⟨aY,tm,Tryz.f11.ntmps,_,_,_⟩) (I:=fun n (a:List Nat) F τ=>∃vL,F=(fun b=>b=aL∨adr vL=some b)/\τ.get aY=some (.loop .ready)/\τ.get aL=some (.cells [vL])/\Own τ (aY+1) eNn 1 a vL/\a.length<=n/\aY<nx τ/\∀b,b<nx σ->τ.get b=σ.get b) (J:=fun _ _=>False) (st:=fun a q=>some (a++[q.1])) (ap_ ..) H ⟨?ext,?y⟩ [] (fun b=>b=aL) σ7 hB7 ⟨nS,by funext b;simp[adr],y7,(g7 _ Om).trans l2,.nil,aq_ _,by omega,gr⟩ gr) ?pos
  case ext=>
   rintro n n' a F τ τ' ⟨vL,h1,h2,h3,h4,h5,h6,h7⟩ hnn hn hg
   exact⟨vL,h1,gr,gr,h4.of_get hn (fun b q=>hg b (h4.adr_lt q).2 (by have:=(h4.adr_lt q).1;omega)),by omega,by omega,gr⟩
  case y=>
   rintro n a F i x τ hni hi hch hBt ⟨vL,rfl,hyt,hlt,hot,hla,hyl,hgt⟩;obtain⟨τ1,hτ1⟩:∃τ1,τ.set aY (.loop .busy)=τ1:=⟨_,rfl⟩;have nt1:nx τ1=nx τ:=gr;have gt1:∀b,b≠aY->τ1.get b=τ.get b:=gr;have yt1:τ1.get aY=some (.loop .busy):=gr;have lt1:τ1.get aL=some (.cells [vL]):=gr
   have ot1:Own τ1 (aY+1) eNn 1 a vL:=hot.of_get Om (fun b q=>gt1 b (by have:=(hot.adr_lt q).1;omega))
   obtain⟨τ2,hap,n2',bw,g2'⟩:=dn_ (enc:=eNn) (sz:=1) (by':=8) (fun _=>rfl) (show aY+1<=nx τ1 by omega) ot1 i (by simp only[sizeLim];omega)
   have hl2:τ2.get aL=some (.cells [vL]):=(g2' _ Om (fun e=>by have:=(ot1.adr_lt e).1;omega)).trans lt1
   have hy2:τ2.get aY=some (.loop .busy):=(g2' _ Om (fun e=>by have:=(ot1.adr_lt e).1;omega)).trans yt1
   have iw:∀b,b<nx τ->b≠aY->adr vL≠some b->τ2.get b=τ.get b:=fun b q1 q2 q3=>(g2' b Om q3).trans (gt1 b q2)
   refine Tk htm rfl Kr Kr Kr hyt gr ?_
   iterate  3 refine G ?_
   refine⟨hyt,?_⟩;rw[show τ.set aY (.loop .busy)=τ1 from hτ1]
   iterate  2 refine G ?_
   refine O1 (lO lt1) ?_;refine G ?_;refine Cx (Ai elC byW rfl rfl rfl) (Dv (len:=1)) rfl rfl (O1 (Av elC rfl slC rfl rfl rfl (new:=eNn i) rfl hap) (O1 (sO (cs':=[.sr (nx τ1) 0 1 (a.length+1) none]) hl2) ?_));refine G ?_
   refine⟨gr,hBt.of_get ?_ ?_,rfl,_,⟨.sr (nx τ1) 0 1 (a.length+1) none,rfl,by rw[aa_,if_pos rfl];rfl,gr,?_,?_,gr,?_⟩,?_⟩
   ·rw[aa_,if_neg gr,aa_,if_neg Om];exact iw _ Om Om (fun e=>by have:=(ot1.adr_lt e).1;omega)
   ·rw[aa_,if_neg gr,aa_,if_neg Om];exact iw _ Om Om (fun e=>by have:=(ot1.adr_lt e).1;omega)
   ·exact bw.of_get gr (fun b q=>by have:=(bw.adr_lt q).1;grind)
   ·grind
   ·intro b hb
    rw[aa_,if_neg gr,aa_,if_neg Om,iw b Om Om (fun e=>by have:=(ot1.adr_lt e).1;omega)]
    exact hgt b hb
   ·refine⟨gr,fun b hb=>?_,fun b hb hF h1 _=>?_⟩
    ·rcases hb with rfl|hb
     ·grind
     ·have hb:some (nx τ1)=some b:=hb
      grind
    ·by_cases hbY:b=aY
     ·subst hbY;rw[aa_,if_pos rfl,hyt];rfl
     grind
  case pos=>
   rintro u σ' ⟨hB9,bh⟩;rw[Ahp]at bh;obtain⟨F',⟨vL,_,hy9,hl9,ho9,_,hn9,hg9⟩,ig⟩:=bh;rw[Akf,bd_]at ho9;refine⟨.normal,hy9,?_⟩;have hk9:(σ'.kill aY).get aL=some (.cells [vL]):=gr
   iterate  2 refine G ?_
   refine O1 (lO hk9) ?_
   iterate  4 refine G ?_
   have ho:Own (σ'.kill aY) (aY+1) eNn 1 ((Ip d r).map (·.1)) vL:=ho9.of_get gr (fun b q=>by rw[bf_,if_neg (by have:=(ho9.adr_lt q).1;omega)])
   rw[bs];exact⟨_,rfl,.tup [slV eNn 1 ((Ip d r).map (·.1)),iV 0],σ,am_ hw ⟨gr,gr⟩,nl,.tup (.cons (ho.fz (fun _=>rfl) (fun a ha=>hw.none Om) (A2 (fun _=>rfl) _)) (.cons (.same rfl) .nil)),rfl,rfl⟩
theorem f50{d r}(H:DOk d r){i}(hi:i<d.frames.length)(σ):
  Cv 50 [dbV d,.agg (eRs r),nV i] σ (iV (Ck d r i).2):=by
 refine Aj Tryz.func50 rfl rfl fun hw hu0=>?_
 refine G10 ?_;refine Az rfl rfl rfl rfl (f51 r _ H.db H.vf) ?_
 rintro _ σ2 (⟨ho,rfl,rfl⟩|⟨ho,P,mT,rfl,hB2,hP2,hm1,hm2,n2,g2⟩)
 ·exact absurd H.op ho
 refine G12 ?_;refine Ab rfl gr (fun h1=>?_)
 refine G5 ?_;refine Az rfl rfl rfl rfl (H.f101 hB2 hi) ?_;rintro _ σ3 ⟨rfl,hB3,hp3⟩;have n3:=hp3.n;refine G11 ?_
 exact⟨_,rfl,_,_,am_ hw ⟨by omega,fun b hb=>by rw[hp3.g b Om Om];exact g2 b hb⟩,nl,.same rfl,rfl,rfl⟩
theorem f13{d r}(H:DOk d r){i}(hi:i<d.frames.length)(σ):
  Cv 13 [dbV d,.agg (eRs r),nV i] σ (.tup [.agg (eDf (Bb d r i).1),iV (Bb d r i).2]):=by
 have hK:=Ath (Tx H.op).1 i;obtain⟨x,e,hxe⟩:∃x e,Bb d r i=(x,e):=⟨_,_,rfl⟩;rw[hxe]at hK⊢
 obtain⟨lr,kr,hrt⟩:∃lr kr,x.right=.node lr kr:=by cases x.right;grind
 have hE:eDf x=[sV x.label,Af x.args,Af x.dummies,sV lr,slV eT 2 kr]:=by unfold eDf;rw[hrt,Cl];rfl
 have h54:∀σ,Cv 54 [.agg [sV lr,slV eT 2 kr]] σ (.agg [sV lr,slV eT 2 kr]):=fun σ=>by
  have:=f54 hK σ
  rwa[hrt,Cg]at this
 refine Aj Tryz.func13 rfl rfl fun hw hu0=>?_
 refine G4 ?_;refine O1 (Bj (n:=nx σ) ziC rfl) ?_;refine G2 ?_;obtain⟨σ1,hσ1⟩:∃σ1,σ.new (.cells z5)=σ1:=⟨_,rfl⟩;rw[hσ1];have n1:nx σ1=nx σ+1:=gr;have g1:∀b,b<nx σ->σ1.get b=σ.get b:=gr;have r1:σ1.get (nx σ)=some (.cells z5):=gr;refine G4 ?_;refine Az rfl rfl rfl rfl (f51 r _ H.db H.vf) ?_
 rintro _ σ2 (⟨ho,rfl,rfl⟩|⟨ho,P,mT,rfl,hB2,hP2,hm1,hm2,n2,g2⟩)
 ·exact absurd H.op ho
 refine G12 ?_;refine Ab rfl gr (fun h1=>?_)
 refine G ?_;have hc3:=H.f53 hB2 hi;rw[hxe]at hc3;refine G4 ?_;refine Az rfl rfl rfl rfl hc3 ?_;rintro _ σ3 ⟨rfl,hB3,hp3⟩;rw[hE];have n3:=hp3.n
 have r3:σ3.get (nx σ)=some (.cells z5):=by rw[hp3.g _ Om Om,g2 _ Om];exact r1
 obtain⟨σ4,hσ4⟩:∃σ4,(σ3.new (.cells z5)).set (nx σ3) (.cells [sV x.label,Af x.args,Af x.dummies,sV lr,slV eT 2 kr])=σ4:=⟨_,rfl⟩;have n4:nx σ4=nx σ3+1:=gr;have g4:∀b,b<nx σ3->σ4.get b=σ3.get b:=gr;have d4:σ4.get (nx σ3)=some (.cells [sV x.label,Af x.args,Af x.dummies,sV lr,slV eT 2 kr]):=gr;refine G3 ?_;refine O1 (Bj (n:=nx σ3) ziC rfl) (O1 (sO (a:=nx σ3) (off:=0) (cs:=z5) (cs':=[sV x.label,Af x.args,Af x.dummies,sV lr,slV eT 2 kr]) gr) ?_);rw[hσ4];refine G5 ?_;refine O1 (lO d4) ?_;refine Ca (h54 _) ?_;refine G ?_;refine O1 (sO (cs':=[sV x.label,Af x.args,Af x.dummies,sV lr,slV eT 2 kr]) d4) ?_;refine G ?_;obtain⟨σ5,hσ5⟩:∃σ5,σ4.set (nx σ3) (.cells [sV x.label,Af x.args,Af x.dummies,sV lr,slV eT 2 kr])=σ5:=⟨_,rfl⟩;rw[hσ5];have n5:nx σ5=nx σ4:=gr;have g5:∀b,σ5.get b=σ4.get b:=gr;have r5:σ5.get (nx σ)=some (.cells z5):=gr;refine G2 ?_;refine O1 (lO ((g5 _).trans d4)) ?_;refine G ?_;refine O1 (sO (cs':=[sV x.label,Af x.args,Af x.dummies,sV lr,slV eT 2 kr]) r5) ?_;refine G3 ?_
 exact⟨[.agg [sV x.label,Af x.args,Af x.dummies,sV lr,slV eT 2 kr],iV e],Am (vs:=[sV x.label,Af x.args,Af x.dummies,sV lr,slV eT 2 kr]) (ldC (t:=41)) rfl (by simp only[Sto.cells];grind) rfl (Ba rfl rfl),.tup [.agg [sV x.label,Af x.args,Af x.dummies,sV lr,slV eT 2 kr],iV e],σ,am_ hw ⟨gr,fun b hb=>by rw[aa_,if_neg Om,g5,g4 _ Om,hp3.g b Om Om,g2 b Om];exact g1 b hb⟩,nl,.same (by
  show(AV.unds (nx σ) [sV x.label,Af x.args,Af x.dummies,sV lr,slV eT 2 kr]&&(true&&true))=true
  have h1:AV.unds (nx σ) [sV lr,slV eT 2 kr]=true:=by rw[←Cl];exact Es _
  have h2:AV.und (nx σ) (Af x.args)=true:=A2 D9 _;have h3:AV.und (nx σ) (Af x.dummies)=true:=A2 D9 _;simp only[AV.unds,h2,h3]at h1⊢
  simp at h1⊢;exact⟨rfl,h1⟩),rfl,rfl⟩
theorem f57(p l k cap σ)(hb:l.length<4611686018427387904)(hk:∀a∈l,Al Ew k ([.agg (eT a)]++cap) σ fun v σ'=>v=.bool (p a)/\σ'=σ):
  Cv 57 [slV eT 2 l,.fn (.func k) [] cap] σ (iV (A5 p l 0)):=by
 refine Aj Tryz.func57 rfl rfl fun hw hu=>?_
 refine G12 ?_;refine Bz l.length (fun i=>[(0,slV eT 2 l),(1,.fn (.func k) [] cap),(7,iV (.ofNat l.length)),(8,iV (.ofNat i))]) (fun i σ'=>σ'=σ/\A5 p l 0=A5 p (l.drop i) i) SL ⟨rfl,rfl⟩ ?_
 rintro i σ' hi ⟨rfl,hf⟩;refine G5 ?_;refine Ab rfl ?_ ?_<;>intro h
 ·have hlt:i<l.length:=gr;obtain⟨a,ha⟩:∃a,l[i]? =some a:=⟨_,az_ hlt⟩
  have hd:l.drop i=a::l.drop (i+1):=by
   obtain⟨h1,rfl⟩:=ae_.1 ha;exact bj_ h1
  iterate 13 refine G ?_
  refine O1 (A1 elC Dh rfl rfl ha) (O1 (Ac ldC rfl rfl (A6 (Dh a) _)) (Az rfl rfl rfl rfl (hk a (ab_ ha)) ?_));rintro _ _ ⟨rfl,rfl⟩;refine G ?_;refine Ab rfl (fun h'=>?_) (fun h'=>?_)
  ·refine G6 ?_;refine⟨_,rfl,iV (.ofNat i),_,a_ hw nl (fun _ _=>rfl),nl,.same rfl,?_,rfl⟩
   rw[hf,hd];simp only[A5,h',cond_true]
  ·refine G2 ?_;refine O1 (D3 (p:=i) (q:=1) okC rfl rfl Om) ?_;refine G2 ?_;refine⟨hlt,SL,rfl,?_⟩;rw[hf,hd];simp only[A5,h',cond_false]
 ·have hge:l.length<=i:=gr;refine G6 ?_;refine⟨_,rfl,iV (-1),_,a_ hw nl (fun _ _=>rfl),nl,.same rfl,?_,rfl⟩
  rw[hf,ah_ hge];rfl
theorem f18(p l k cap σ)(hb:l.length<4611686018427387904)(hk:∀a∈l,Al Ew k ([.agg (eT a)]++cap) σ fun v σ'=>v=.bool (p a)/\σ'=σ):
  Cv 18 [slV eT 2 l,.fn (.func k) [] cap] σ (.bool (l.any p)):=by
 refine Aj Tryz.func18 rfl rfl fun hw _=>?_
 refine G8 ?_;refine Az rfl rfl rfl rfl (f57 p l k cap σ hb hk) ?_;rintro _ _ ⟨rfl,rfl⟩;refine G4 ?_;refine B4 hw rfl ?_;exact congrArg AV.bool (Gf l)
theorem f14{t}(h:KB t)(s):∀σ:Sto,Cv 14 [En t,sV s] σ (.bool (Hk t s)):=by
 induction h with
 |@node l ks hl hk ih=>
  intro σ
  have h55:∀k∈ks,Al Ew 55 ([.agg (eT k)]++[.pv [sV s]]) σ fun v σ'=>v=.bool (Hk k s)/\σ'=σ:=fun k hkk=>by
   obtain⟨lk,kk,rfl⟩:∃lk kk,k=.node lk kk:=by cases k;grind
   have ih':=ih _ hkk σ;rw[Cg]at ih';rw[Cl];refine Aj Tryz.func55 rfl rfl fun hw hu0=>?_
   refine G9 ?_;refine Ca ih' ?_;refine G3 ?_;exact⟨_,rfl,_,_,a_ hw nl (fun _ _=>rfl),nl,.same rfl,rfl,rfl⟩
  rw[Cg,R0];refine Aj Tryz.func14 rfl rfl fun hw hu0=>?_
  iterate 13 refine G ?_
  refine Qh 4 _ (ks.any fun k=>Hk k s) rfl rfl rfl rfl rfl (Eh rfl) (fun hg=>?_) (fun hg=>?_) ?_
  ·iterate 3 refine Gn hg ?_
   refine Bh rfl rfl rfl (by rw[hg];rfl) rfl rfl rfl rfl (f18 (fun k=>Hk k s) ks 55 [.pv [sV s]] σ Om h55) ?_
   refine G ?_;refine⟨rfl,?_,?_⟩
   ·exact sb
   ·exact rfl
  ·iterate 4 refine Of hg ?_
   refine G ?_;exact⟨rfl,sb⟩
  refine G3 ?_;exact⟨_,rfl,_,_,a_ hw nl (fun _ _=>rfl),nl,.same rfl,rfl,rfl⟩
theorem f12(r σ):Cv 12 [.agg (eRs r)] σ (.agg (eRs r)):=by
 refine Aj Tryz.func12 rfl rfl fun hw hu0=>?_
 refine G3 ?_;refine O1 (Bj (n:=nx σ) ziC rfl) ?_;refine G ?_;obtain⟨σ1,hσ1⟩:∃σ1,σ.new (.cells [nS,nS])=σ1:=⟨_,rfl⟩;rw[hσ1];have n1:nx σ1=nx σ+1:=gr;have g1:∀b,b<nx σ->σ1.get b=σ.get b:=gr;have r1:σ1.get (nx σ)=some (.cells [nS,nS]):=gr;refine G3 ?_;refine O1 (sO (cs':=eRs r) r1) ?_;refine G2 ?_
 exact⟨[.agg (eRs r)],Am (vs:=eRs r) (ldC (t:=35)) rfl (by simp only[Sto.cells];grind) rfl rfl,_,σ,am_ hw ⟨gr,gr⟩,nl,.same (by
  show(AV.und (nx σ) (Af r.equal)&&(AV.und (nx σ) (Af r.bound)&&true))=true
  have h2:AV.und (nx σ) (Af r.equal)=true:=A2 D9 _;have h3:AV.und (nx σ) (Af r.bound)=true:=A2 D9 _
  grind),rfl,rfl⟩
theorem Avr{d r}{m n i j:Nat}{x y}(hmn:m<n)(hm:(Ip d r)[m]? =some (i,x))(hn:(Ip d r)[n]? =some (j,y)):i<j:=by
 have key:∀(l:List Nat),l.Pairwise (·<·)->((l.filterMap fun i=>if(Ck d r i).2=0 then some (i,(Ck d r i).1)else none).map (·.1)).Pairwise (·<·):=gr
 have hp:=key (List.range d.frames.length) List.pairwise_lt_range;have h1:((Ip d r).map (·.1))[m]? =some i:=gr;have h2:((Ip d r).map (·.1))[n]? =some j:=gr;obtain⟨q1,rfl⟩:=ae_.1 h1;obtain⟨q2,rfl⟩:=ae_.1 h2;exact List.pairwise_iff_getElem.1 hp m n q1 q2 hmn
def puD(f:Nat):Bool:=Nat.beq f 12||Nat.beq f 13
noncomputable def ED:Env:={ Ew with pu:=puD }
theorem T_ED{nt B df c Q ρ σ}(h:T ED nt df B c Q ρ σ):T Ew nt df B c Q ρ σ:=fun ro n hn C w tm a ht st hB=>
 wpIn_mono (h ro n hn C w tm a ht ⟨st.sim,st.glob,st.tmps,st.size,st.dfs⟩ hB) fun e a' w' ⟨x,tm',ρ',σ',C',h1,h2,h3,h4,h5,h6⟩=>⟨x,tm',ρ',σ',C',h1,h2,h3,⟨h4.sim,h4.glob,h4.tmps,h4.size,h4.dfs⟩,h5,h6⟩
open Classical in
noncomputable def Vy:List (Nat×List AV×AV)->Rec
 |[],_,_,_=>none
 |(f,a,v)::r,.fn f',a',σ=>if f'=f/\a'=a then some (v,σ)else Vy r (.fn f') a' σ
 |_::_,.yl _,_,_=>none
def Aly(E:Env):List (Nat×List AV×AV)->Prop
 |[]=>True
 |(f,a,v)::r=>(∀σ,Al E f a σ (fun u τ=>u=v/\τ=σ))/\Aly E r
theorem Avs{a}:∀(l:List (Nat×List AV×AV)) (x:List AV) (σ:Sto),Vy l (.yl a) x σ=none
 |[],_,_=>rfl
 |_::_,_,_=>rfl
theorem An4{E f'}:∀{l:List (Nat×List AV×AV)},Aly E l->Akz E f' (Vy l (.fn f'))
 |[],_=>fun C w σ args vs v σ' hs hg ha h=>by cases h
 |(f,a,v)::r,hk=>fun C w σ args vs u σ' hs hg ha h=>by
  simp only[Vy]at h
  split at h
  ·rename_i he
   obtain⟨rfl,rfl⟩:=he;cases h;obtain⟨h1,h2⟩:=hk.1 σ C w vs hs hg ha;refine⟨h1,h2.mono fun e w' he=>?_⟩
   cases e with
   |returned x=>obtain⟨v,σ',C',⟨rfl,rfl⟩,k1,k2,k3⟩:=he;exact⟨C',k1,k2,k3⟩
   |panicked _=>exact he.elim
   |outgrown=>exact he.elim
  ·exact An4 hk.2 C w σ args vs u σ' hs hg ha h
theorem Afx{f'}:∀(l:List (Nat×List AV×AV)) (args:List AV),Fk (Vy l (.fn f') args)
 |[],_,_,_,_,h=>by cases h
 |(f,a,v)::r,args,σ,σ',u,h=>by
  simp only[Vy]at h⊢
  split at h
  ·grind
  ·rename_i he
   obtain⟨h1,h2⟩:=Afx r args σ σ' u h
   grind
theorem Alz{E l}(hk:Aly E l):Bk E (Vy l):=
 ⟨fun _=>An4 hk,fun a C w σ args vs v σ' hs hg ha h=>(by rw[Avs]at h;cases h),fun f _ args=>Afx l args⟩
theorem An5{f a v s r}:Vy ((f,a,v)::r) (.fn f) a s=some (v,s):=by
 simp only[Vy,and_self,if_true]
theorem Avt{f f' a a' v s r}{o:Option (AV×Sto)}(h:f'≠f)(k:Vy r (.fn f') a' s=o):Vy ((f,a,v)::r) (.fn f') a' s=o:=by
 simp only[Vy];grind
theorem Akg{E ρ σ l f args}{tys:Array Nat}{k:Nat}{first cap vs v σ'}(hf:Ah E ρ f=some (.fn (.func k) first cap))(ha:Kc E ρ args.toList=some vs)
  (hr:Vy l (.fn k) (first++vs++cap) σ=some (v,σ')):As E (Vy l) (.call ⟨.value f,args,tys⟩) ρ σ v σ':=Ami hf ha rfl hr
def fewR(r:Rs):Bool:=decide (Int.ofNat r.equal.length<=(60:Int))&&decide (Int.ofNat r.bound.length<=(60:Int))
theorem f9w(r σ):Cv 9 [.agg (eRs r)] σ (.bool (fewR r)):=by
 refine Aj Tryz.func9 rfl rfl fun hw hu0=>?_
 refine G10 ?_;refine O1 (Hn (q:=60) okC rfl rfl) ?_;refine G ?_;refine Hq 4 _ (decide (Int.ofNat r.bound.length<=(60:Int))) rfl rfl rfl rfl rfl (Eh rfl) (fun hg=>?_) (fun hg=>?_) ?_
 ·refine Bi rfl rfl rfl rfl (by first|rfl|(rw[hg];rfl)) noR rfl rfl (Ae fdC rfl rfl) ?_
  refine Bi rfl rfl rfl rfl (by first|rfl|(rw[hg];rfl)) noR rfl rfl (Ac ldC rfl rfl rfl) ?_
  refine Bi rfl rfl rfl rfl (by first|rfl|(rw[hg];rfl)) noR rfl rfl (Jl slC rfl) ?_
  refine Bi rfl rfl rfl rfl (by first|rfl|(rw[hg];rfl)) noR rfl rfl (Hn (q:=60) okC rfl rfl) ?_
  refine G ?_;refine⟨rfl,?_,?_⟩
  ·exact sb
  ·exact rfl
 ·iterate 4 refine Of hg ?_
  refine G ?_;exact⟨rfl,sb⟩
 refine G3 ?_;exact⟨_,rfl,_,_,a_ hw nl (fun _ _=>rfl),nl,.same rfl,rfl,rfl⟩
theorem An6{hy}:∀{l:List Str} {g g':Gr},Kw hy l g=some g'->(∀r∈g.rules,0<r.parts.length)->∀r∈g'.rules,0<r.parts.length
 |[],g,g',h,h1=>by cases h;exact h1
 |v::l,g,g',h,h1=>by
  unfold Kw at h
  split at h
  ·cases h
  ·split at h
   ·cases h
   ·refine An6 h (fun r hr=>?_)
    rcases bb_.1 hr with q|q
    ·exact h1 r q
    grind
theorem Ax3(d):Pne d:=fun s hs=>by
 unfold vrD at hs;rw[ad_]at hs;obtain⟨h1,h2⟩:=hs;unfold rlB at h1;obtain⟨r,hr⟩:=bg_.1 h1
 have hrd:rlD d s=r:=by unfold rlD;rw[hr];rfl
 rw[hrd]at h2⊢
 have hm:r∈(ofF d).1.rules:=by
  rcases L9 (l:=(ofF d).1.rules) (s:=s)with⟨_,hro⟩|⟨n,rl,_,hat,hro⟩
  ·grind
  grind
 unfold ofF at hm
 split at hm
 ·cases hm
 ·split at hm
  ·cases hm
  ·rename_i g hg
   have hv:=An6 hg (fun r hr=>by cases hr)
   split at hm
   ·cases hm
   ·rename_i g' hg'
    split at hm
    ·cases hm
    ·rcases(O7 hg').2 r hm with q|⟨f,_,q2,_⟩
     ·exact hv r q
     ·rw[Acg q2]at h2;cases h2
def KSy(k:Kn):Prop:=∀s,k.isSym s=true->L8 s=true
theorem Ahq:∀(l:List Str) (k:Kn),KSy k->KSy (Qp l k).2
 |[],_,h=>h
 |c::r,k,h=>by
  unfold Qp;cases hs:L8 c with
  |false=>exact h
  |true=>
   cases hk:k.consts.has c with
   |true=>exact h
   |false=>
    refine Ahq r _ fun s hq=>?_
    have hq:((k.consts.put c true).has s||k.vars.has s)=true:=hq
    rw[fo_,bk_,bk_,decide_eq_true_eq]at hq
    rcases hq with(rfl|hq)|hq
    ·exact hs
    ·exact h s (by unfold Kn.isSym;rw[hq];rfl)
    ·exact h s (by unfold Kn.isSym;grind)
theorem An7:∀(l:List Str) (k:Kn),KSy k->KSy (Sf l k).2
 |[],_,h=>h
 |c::r,k,h=>by
  unfold Sf;cases hs:L8 c with
  |false=>exact h
  |true=>
   cases hk:k.isSym c with
   |true=>exact h
   |false=>
    refine An7 r _ fun s hq=>?_
    have hq:(k.consts.has s||(k.vars.put c true).has s)=true:=hq
    rw[fo_,bk_,bk_,decide_eq_true_eq]at hq
    rcases hq with hq|rfl|hq
    ·exact h s (by unfold Kn.isSym;rw[hq];rfl)
    ·exact hs
    ·exact h s (by unfold Kn.isSym;grind)
theorem Avu(d):KSy (K8 d kn0).2:=by
 have h0:KSy kn0:=fun s h=>by cases h
 unfold K8
 split
 ·exact An7 _ _ (Ahq _ _ h0)
 ·exact Ahq _ _ h0
theorem Afy{pw}:∀{fs:List Fr} {k:Kn} {be:List Hp},I3 pw fs k be=0->KSy k->∀f∈fs,∃k' be',KSy k'/\E9 pw k' f be'=0
 |[],_,_,_,_,f,hf=>by cases hf
 |g::r,k,be,h,hk,f,hf=>by
  unfold I3 at h
  split at h
  ·grind
  ·rename_i hc
   rcases an_.1 hf with rfl|hf
   ·grind
   ·exact Afy h (show KSy (knF k g)from hk) f hf
theorem An8{k}(hk:KSy k){l}(h:k.textF l=0):∀s∈l,L8 s=true:=by
 unfold Kn.textF at h
 split at h
 ·cases h
 ·split at h
  ·cases h
  ·rename_i h1 h2
   simp only[bk_,bi_,not_or,Bool.not_eq_false]at h2;cases l with
   |nil=>intro s hs;cases hs
   |cons a r=>
    intro s hs
    rcases an_.1 hs with rfl|hs
    ·exact hk _ (by have:=h2.1;unfold Kn.isSym;grind)
    ·have:=dv_.1 (Bool.not_eq_true _▸h2.2) s hs;exact hk _ gr
theorem An9{k}(hk:KSy k){nh}:∀{l:List Hp} {i:Nat} {lab:SM Bool} {ty:SM Str},(Jd k nh l i lab ty).1=0->∀h∈l,∀s∈h.text,L8 s=true
 |[],_,_,_,_,h,hh=>by cases hh
 |g::r,i,lab,ty,h0,h,hh=>by
  unfold Jd at h0
  split at h0
  ·grind
  ·rename_i hc
   have hz:Vg k lab ty g (decide (Int.ofNat nh<=Int.ofNat i))=0:=gr
   rcases an_.1 hh with rfl|hh
   ·cases hf:h.floating with
    |true=>
     obtain⟨a,b,hab⟩:=Ab7 hz hf;unfold Vg at hz
     split at hz
     ·cases hz
     ·split at hz
      ·cases hz
      ·try rw[if_pos hf]at hz
       split at hz
       ·cases hz
       ·rename_i h3
        rw[hab]at h3⊢;simp only[bk_,bi_,not_or,Bool.not_eq_false]at h3;intro s hs
        rcases an_.1 hs with rfl|hs
        ·exact hk _ (by unfold Kn.isSym;grind)
        ·rw[ao_.1 hs]
         exact hk _ (by unfold Kn.isSym;grind)
    |false=>
     unfold Vg at hz
     split at hz
     ·cases hz
     ·split at hz
      ·cases hz
      ·try rw[if_neg gr]at hz
       split at hz
       ·grind
       ·rename_i hc2;exact An8 hk gr
   ·exact An9 hk h0 h hh
theorem Atj{s}(h:L8 s=true):s.length<=140737488355328/\(32:UInt8)∉s:=by
 unfold L8 Mq at h;simp only[ad_,bi_,bv_,decide_eq_false_iff_not,bu_]at h;refine⟨gr,fun hm=>?_⟩
 have:=b_.1 h.2 _ hm
 exact absurd (show okB [2,3] 32=true from this) (by rw[show okB [2,3] 32=false from by kernel_rfl];decide)
theorem Ac1{d}(hs:W6 d 25 100=true):DbB d/\d.vars.length+d.frames.length<1000000/\∀f∈d.frames,f.text.length<=60/\f.apart.length<=200/\∀h∈f.hyps,h.text.length<=60:=by
 unfold W6 at hs;simp only[ad_,decide_eq_true_eq,bu_,bi_]at hs;obtain⟨⟨⟨h1,h2⟩,h3⟩,h4⟩:=hs
 have key:∀f∈d.frames,f.text.length<=60/\f.apart.length<=200/\FrB f/\∀h∈f.hyps,h.text.length<=60:=fun f hf=>by
  have hf:=dv_.1 h4 f hf;simp only[bigF,bk_,decide_eq_true_eq,bu_,e_,not_or,not_exists,not_and]at hf;obtain⟨⟨⟨⟨⟨⟨⟨⟨k1,k2⟩,k3⟩,k4⟩,k5⟩,k6⟩,k7⟩,k8⟩,k9⟩:=hf
  have hl:∀h,X9 h=false->h.text.length<=60:=fun h hh=>by
   unfold X9 at hh
   grind
  refine⟨by omega,by omega,⟨by omega,by unfold Fr.all;simp;omega,by omega,fun h hh=>?_,by omega,by omega⟩,fun h hh=>hl h gr⟩
  have:X9 h=false:=by
   rcases bb_.1 (show h∈f.hyps++f.dummies by simpa[Fr.all]using hh)with hh|hh
   ·grind
   grind
  grind
 exact⟨⟨fun f hf=>(key f hf).2.2.1,by omega,by omega,by omega⟩,by omega,fun f hf=>⟨(key f hf).1,(key f hf).2.1,(key f hf).2.2.2⟩⟩
theorem Atk{d r}(hs:W6 d 25 100=true)(ho:Kh d r=0):DOk d r:=by
 obtain⟨h1,h2,h3⟩:=Ac1 hs
 have hfl:Ea d=0:=by
  have h:=(Tx ho).2.1;unfold ofF at h
  grind
 have hc:=(Afj hfl).1;refine⟨h1,h2,fun f hf=>?_,Ax3 d,ho,gr⟩
 obtain⟨k,be,hk,hfe⟩:=Afy (Ab9 hc) (Avu d) f hf;have hk':KSy (k.fr f.label):=hk
 have ht:(k.fr f.label).textF f.text=0:=by
  unfold E9 at hfe
  grind
 refine⟨⟨(h3 f hf).1,fun s hs=>Atj (An8 hk' ht s hs)⟩,fun h hh=>⟨(h3 f hf).2.2 h hh,fun s hs=>Atj (An9 hk' (Ai7 hfe) h (by simp[Fr.all,hh]) s hs)⟩⟩
def fzL(f:AV->AV->Bool):List AV->List AV->Bool
 |[],[]=>true
 |x::r,y::s=>f x y&&fzL f r s
 |_,_=>false
theorem Ahr{σ τ f}(hf:∀a b,f a b=true->Fz σ τ a b):∀(l m:List AV),fzL f l m=true->FzL σ τ l m
 |[],[],_=>.nil
 |x::r,y::s,h=>by
  simp only[fzL,ad_]at h;exact .cons (hf x y h.1) (Ahr hf r s h.2)
 |[],_::_,h=>by cases h
 |_::_,[],h=>by cases h
def dS:Db:=⟨[[119,102,102],[124,45],[40],[41],[45,62],[45,46],[60,45,62],[111,114]],[[112,104],[112,115]],[⟨[119,110],false,[⟨[119,112,104],true,[[119,102,102],[112,104]]⟩],[],[[119,102,102],[45,46],[112,104]],[⟨[119,112,115],true,[[119,102,102],[112,115]]⟩],[],[]⟩,
 ⟨[119,105],false,[⟨[119,112,104],true,[[119,102,102],[112,104]]⟩,⟨[119,112,115],true,[[119,102,102],[112,115]]⟩],[],[[119,102,102],[40],[112,104],[45,62],[112,115],[41]],[],[],[]⟩,
 ⟨[119,98],false,[⟨[119,112,104],true,[[119,102,102],[112,104]]⟩,⟨[119,112,115],true,[[119,102,102],[112,115]]⟩],[],[[119,102,102],[40],[112,104],[60,45,62],[112,115],[41]],[],[],[]⟩,
 ⟨[119,111],false,[⟨[119,112,104],true,[[119,102,102],[112,104]]⟩,⟨[119,112,115],true,[[119,102,102],[112,115]]⟩],[],[[119,102,102],[40],[112,104],[111,114],[112,115],[41]],[],[],[]⟩,
 ⟨[98,105,105,100],false,[⟨[119,112,104],true,[[119,102,102],[112,104]]⟩],[],[[124,45],[40],[112,104],[60,45,62],[112,104],[41]],[⟨[119,112,115],true,[[119,102,102],[112,115]]⟩],[],[]⟩,
 ⟨[100,102,45,111,114],false,[⟨[119,112,104],true,[[119,102,102],[112,104]]⟩,⟨[119,112,115],true,[[119,102,102],[112,115]]⟩],[],[[124,45],[40],[40],[112,104],[111,114],[112,115],[41],[60,45,62],[40],[45,46],[112,104],[45,62],[112,115],[41],[41]],[],[],[]⟩]⟩
def rS:Rs:=⟨[[119,98]],[]⟩
def rsS:List Rl:=[⟨[119,112,104],[119,102,102],[⟨[112,104],[],0⟩],true⟩,
 ⟨[119,112,115],[119,102,102],[⟨[112,115],[],0⟩],true⟩,
 ⟨[119,110],[119,102,102],[⟨[45,46],[],0⟩,⟨[],[119,102,102],0⟩],false⟩,
 ⟨[119,105],[119,102,102],[⟨[40],[],0⟩,⟨[],[119,102,102],0⟩,⟨[45,62],[],0⟩,⟨[],[119,102,102],1⟩,⟨[41],[],0⟩],false⟩,
 ⟨[119,98],[119,102,102],[⟨[40],[],0⟩,⟨[],[119,102,102],0⟩,⟨[60,45,62],[],0⟩,⟨[],[119,102,102],1⟩,⟨[41],[],0⟩],false⟩,
 ⟨[119,111],[119,102,102],[⟨[40],[],0⟩,⟨[],[119,102,102],0⟩,⟨[111,114],[],0⟩,⟨[],[119,102,102],1⟩,⟨[41],[],0⟩],false⟩]
def gS:Gr:=⟨[[119,102,102]],rsS⟩
theorem Atl{l}(h:l.Pairwise fun x y=>decide (x<=y)=true):Ei l=l:=List.mergeSort_of_pairwise h
theorem vS:∀r∈rsS,Hr gS r=true:=by
 intro r hr
 have hp:(D1 r).Pairwise fun x y=>decide (x<=y)=true:=by revert r;decide+kernel
 unfold Hr;rw[Atl hp];clear hp
 revert r
 decide+kernel
theorem Akh{g}:∀{l:List Rl} {m:SM Bool},(∀r∈l,Hr g r=true)->(l.foldr (fun r (k:SM Bool->Bool) m=> !m.has r.label&&k (m.put r.label true)) (fun _=>true)) m=true->Pe g l m=false
 |[],_,_,_=>rfl
 |r::l,m,h,h2=>by
  simp only[List.foldr_cons,ad_,bi_]at h2;unfold Pe
  rw[h r (by simp),h2.1,Akh (fun x hx=>h x (aj_ _ hx)) h2.2];rfl
theorem Awq:Eb gS=0:=by
 unfold Eb
 rw[if_neg (by decide+kernel),if_neg (by decide+kernel),show Pe gS gS.rules []=false from Akh vS (by decide+kernel)];rfl
theorem Avv:Ea dS=0:=Kr
theorem varsS:Kw (Il (Bt dS) []) dS.vars zG=some ⟨[[119,102,102]],rsS.take 2⟩:=Kr
theorem Avw:F6 dS.frames ⟨[[119,102,102]],rsS.take 2⟩=some gS:=Kr
theorem ofS:ofF dS=(gS,0):=by
 unfold ofF
 rw[if_neg (by rw[Avv];decide),varsS]
 simp only;rw[Avw];simp only
 rw[if_neg (by rw[Awq];decide)]
theorem Ax4:W6 dS 25 100=true:=Kr
def vph:Ax:=.node [119,112,104] []
def vps:Ax:=.node [119,112,115] []
def t4:Ax:=.node [119,98] [vph,vph]
def t5r:Ax:=.node [119,105] [.node [119,110] [vph],vps]
def t5:Ax:=.node [119,98] [.node [119,111] [vph,vps],t5r]
def zFr:Fr:=⟨[],false,[],[],[],[],[],[]⟩
def prsS(l:List Str):Ax×Int:=match l with
 |[]=>(Ek,2)
 |t::text=>if D7 t∉gS.sorts then(Ek,11)else match(if D7 t∉gS.sorts then((none,5):Option (List Nde)×Int)else if text.length>200 then(none,4)else
   if(Ej gS (D7 t) text).sets.length<=text.length∨(D7 t,0,text.length)∉(Ej gS (D7 t) text).done then(none,160)else
   match Im gS (Ej gS (D7 t) text).done text (D7 t,0,text.length)with
   |none=>(none,15)
   |some F=>(some F,0))with
  |(none,e)=>(Ek,if e=160 then 190 else e)
  |(some F,_)=>Mu gS F
theorem Aoa(l):B1 dS l=prsS l:=by
 unfold B1 prsS
 rw[ofS,if_neg (by decide)]
 cases l with
 |nil=>rfl
 |cons t text=>
  have h:Fj gS (D7 t) text=(if D7 t∉gS.sorts then((none,5):Option (List Nde)×Int)else if text.length>200 then(none,4)else
   if(Ej gS (D7 t) text).sets.length<=text.length∨(D7 t,0,text.length)∉(Ej gS (D7 t) text).done then(none,160)else
   match Im gS (Ej gS (D7 t) text).done text (D7 t,0,text.length)with
   |none=>(none,15)
   |some F=>(some F,0)):=by
   unfold Fj
   rw[if_neg (by rw[Awq];decide)]
   rfl
  show(if D7 t∉gS.sorts then(Ek,(11:Int))else match Fj gS (D7 t) text with
   |(none,e)=>(Ek,if e=160 then 190 else e)
   |(some F,_)=>Mu gS F)=_
  rw[h]
theorem Atm:B1 dS (dS.frames[4]?.getD zFr).text=(t4,0):=by rw[Aoa];kernel_rfl
theorem Ax5:B1 dS (dS.frames[5]?.getD zFr).text=(t5,0):=by rw[Aoa];kernel_rfl
theorem rlS(s):rlD dS s=(F4 rsS s).getD zRl/\rlB dS s=(F4 rsS s).isSome:=by unfold rlD rlB;rw[ofS];exact⟨rfl,rfl⟩
theorem vrS(s):vrD dS s=((F4 rsS s).isSome&&((F4 rsS s).getD zRl).var):=by unfold vrD;rw[(rlS s).1,(rlS s).2]
theorem eqS(s):eqD dS s=(((F4 rsS s).isSome&& !((F4 rsS s).getD zRl).var)&&Ap6 (Io ((F4 rsS s).getD zRl).parts)):=by unfold eqD;rw[(rlS s).1,(rlS s).2]
theorem opS:Kh dS rS=0:=by
 unfold Kh
 rw[ofS,if_neg (by decide),if_neg (by decide),show(rS.equal.any fun s=> !eqD dS s)=false by simp only[rS,dh_,List.any_nil,eqS];kernel_rfl]
 rfl
theorem Atn:DOk dS rS:=Atk Ax4 opS
def xS:Df:=⟨[119,111],[[119,112,104],[119,112,115]],[],t5r⟩
theorem Aob:Bb dS rS 5=(xS,0):=by
 have hT:=Ax5;unfold Bb;have hf:dS.frames[5]? =some (dS.frames[5]?.getD zFr):=Kr;rw[hf];simp only
 rw[if_neg (by decide+kernel),if_neg (by decide+kernel),hT,if_neg (by decide)]
 show Vw dS rS t5=_
 unfold Vw
 rw[if_neg (by decide+kernel)]
 show M7 dS (.node [119,111] [vph,vps]) t5r=_
 unfold M7
 rw[if_neg (by rw[vrS];decide+kernel)]
 have ha:Mc dS (Afu (.node [119,111] [vph,vps])) []=some [[119,112,104],[119,112,115]]:=by
  simp only[Afu,Mc,vrS]
  kernel_rfl
 rw[ha]
 have hd:Xh dS [[119,112,104],[119,112,115]] t5r=[]:=by
  simp only[Xh,t5r,Sh,Vu,vph,vps,bd_,bh_,ay_,ct_,List.foldl_nil,Sw,vrS]
  kernel_rfl
 show(({ label:=[119,111],args:=[[119,112,104],[119,112,115]],dummies:=Xh dS [[119,112,104],[119,112,115]] t5r,right:=t5r }:Df),(0:Int))=_
 rw[hd];rfl
theorem Avx:Ck dS rS 5=(xS,0):=by
 unfold Ck
 rw[Aob,if_neg (by decide)]
 have hu:I8 dS xS 5=false:=by
  unfold I8
  rw[show Vv (dS.frames.take 5)=[(dS.frames[4]?.getD zFr).text] by kernel_rfl,dh_,List.any_nil]
  unfold usF;rw[Atm]
  kernel_rfl
 rw[hu,if_neg (by decide),if_neg (by decide+kernel),if_neg (by decide+kernel)]
 have hf:dS.frames[5]? =some (dS.frames[5]?.getD zFr):=Kr;rw[hf];simp only
 rw[if_neg (by decide+kernel)]
theorem Aoc{i}(h:i<4):(Bb dS rS i).2=13:=by
 match i,h with
 |0,_=>show(Bb dS rS 0).2=13;kernel_rfl
 |1,_=>show(Bb dS rS 1).2=13;kernel_rfl
 |2,_=>show(Bb dS rS 2).2=13;kernel_rfl
 |3,_=>show(Bb dS rS 3).2=13;kernel_rfl
theorem Aod:(Bb dS rS 4).2=212:=by
 have hT:=Atm;unfold Bb;have hf:dS.frames[4]? =some (dS.frames[4]?.getD zFr):=Kr;rw[hf];simp only
 rw[if_neg (by decide+kernel),if_neg (by decide+kernel),hT,if_neg (by decide)]
 show(Vw dS rS t4).2=_
 unfold Vw
 rw[if_neg (by decide+kernel)]
 show(M7 dS vph vph).2=_
 unfold M7
 rw[if_pos (by rw[vrS];decide+kernel)]
theorem Aoe:(Ck dS rS 4).2=212:=by
 unfold Ck
 rw[if_pos (by rw[Aod];decide)]
 exact Aod
theorem allS:Ac0 dS rS=([5],0):=by
 unfold Ac0;rw[if_neg (fun q=>q opS)]
 have h0:∀i,i<4->(Ck dS rS i).2=13:=fun i h=>by
  unfold Ck
  rw[if_pos (by rw[Aoc h];decide)]
  exact Aoc h
 unfold Ip
 rw[show List.range dS.frames.length=[0,1,2,3,4,5] by kernel_rfl]
 simp only[List.filterMap_cons,List.filterMap_nil,h0 0 (by decide),h0 1 (by decide),h0 2 (by decide),h0 3 (by decide),Aoe,Avx]
 rfl
theorem f40(l m σ)(hb:m.length<4611686018427387904):Cv 40 [slV eNn 1 l,slV eNn 1 m] σ (.bool (decide (l=m))):=by
 refine Aj Tryz.func40 rfl rfl fun hw hu0=>?_
 iterate 13 refine G ?_
 refine Ab rfl ?_ ?_<;>intro h1
 ·refine G5 ?_;refine B4 hw rfl ?_;exact congrArg AV.bool (decide_eq_false gr).symm
 ·have bl:l.length=m.length:=gr;refine G9 ?_;refine Bz l.length (fun i0=>[(0,slV eNn 1 l),(1,slV eNn 1 m),(12,iV (.ofNat l.length)),(13,iV (.ofNat i0))]) (fun i0 σ0=>σ0=σ/\l.take i0=m.take i0) SL ⟨rfl,rfl⟩ ?_
  rintro i0 σ0 hi0 ⟨rfl,hf0⟩;refine G5 ?_;refine Ab rfl ?_ ?_<;>intro h2
  ·have bc:i0<l.length:=gr;obtain⟨a0,ha0⟩:=Ar bc;have hd0:=A4 ha0
   obtain⟨b,hb0⟩:=Ar (show i0<m.length by omega)
   refine G9 ?_;refine X0 ?_;refine G10 ?_;refine⟨rfl,rfl,?_⟩;refine Ab rfl ?_ ?_<;>intro h3
   ·refine G5 ?_;refine B4 hw rfl ?_;exact congrArg AV.bool (decide_eq_false gr).symm
   ·refine G5 ?_
    refine⟨bc,SL,rfl,(have h4:a0=b:=gr;by rw[Fw ha0,Fw hb0,hf0,h4])⟩
  ·have bj:l.length<=i0:=gr;refine G6 ?_;refine B4 hw rfl ?_;exact congrArg AV.bool (decide_eq_true gr).symm
def fzC:Nat->AV->AV->Bool
 |0,_,_=>false
 |n+1,.sv l sz len _,.sv l' sz' len' none=>Nat.beq sz sz'&&Nat.beq len len'&&fzL (fzC n) l l'
 |n+1,.agg l,.agg l'=>fzL (fzC n) l l'
 |n+1,.tup l,.tup l'=>fzL (fzC n) l l'
 |_+1,.nil (.slice none 0 0),.sv [] _ 0 none=>true
 |_+1,a,b=>AV.beq a b&&AV.und 0 b
theorem Ahs{σ τ}:∀(n:Nat) (a b:AV),fzC n a b=true->Fz σ τ a b
 |0,_,_,h=>by unfold fzC at h;cases h
 |n+1,a,b,h=>by
  unfold fzC at h
  split at h
  ·cases h
  ·simp only[ad_]at h;obtain⟨⟨h1,h2⟩,h3⟩:=h;have h1:=ac_ h1;have h2:=ac_ h2;subst h1 h2;exact .sv gr (Ahr (fun a b=>Ahs _ a b) _ _ h3)
  ·exact .agg (Ahr (fun a b=>Ahs _ a b) _ _ h)
  ·exact .tup (Ahr (fun a b=>Ahs _ a b) _ _ h)
  ·exact .nils gr
  ·simp only[ad_]at h;have:=AV.beq_eq _ _ h.1;subst this;exact .same (AV.und_mono (aq_ _) _ h.2)
theorem f100(a b σ):Cv 100 [sV a,sV b] σ (.agg [sV a,.bool true,.sv [.str [119,102,102],sV b] 1 2 none]):=by
 refine Aj Tryz.func100 rfl rfl fun hw hu0=>?_
 refine G2 ?_;refine O1 (Bj (n:=nx σ) ziC rfl) ?_;refine G ?_;obtain⟨σ1,hσ1⟩:∃σ1,σ.new (.cells [.str [],.bool false,nS])=σ1:=⟨_,rfl⟩;rw[hσ1];have n1:nx σ1=nx σ+1:=gr;have g1:∀b,b<nx σ->σ1.get b=σ.get b:=gr;have r1:σ1.get (nx σ)=some (.cells [.str [],.bool false,nS]):=gr;refine G4 ?_;refine Cx (Ai elC byW rfl rfl rfl) (Dv (len:=2)) rfl rfl ?_;refine G ?_;refine O1 (sO (cs':=[sV a,.bool true,.sv [.str [119,102,102],sV b] 1 2 none]) r1) ?_;refine G2 ?_
 exact⟨[.agg [sV a,.bool true,.sv [.str [119,102,102],sV b] 1 2 none]],Am (vs:=[sV a,.bool true,.sv [.str [119,102,102],sV b] 1 2 none]) (ldC (t:=74)) rfl (by simp only[Sto.cells];rw[aa_,if_pos rfl]) rfl rfl,_,σ,am_ hw ⟨by rw[Aq];omega,fun b hb=>by rw[aa_,if_neg Om];exact g1 b hb⟩,nl,.same rfl,rfl,rfl⟩
theorem f48(σ):Cv 48 [] σ (.tup [dbV dS,.agg (eRs rS)]):=by
 refine Aj Tryz.func48 rfl rfl fun hw hu0=>?_
 refine G2 ?_;refine O1 (Bj (n:=nx σ) ziC rfl) (O1 (Bj (n:=nx σ+1) ziC (Ao _ _)) ?_);refine G ?_;obtain⟨σ1,hσ1⟩:∃σ1,(σ.new (.cells [nS,nS,nS])).new (.cells [nS,nS])=σ1:=⟨_,rfl⟩;rw[hσ1]
 have n1:nx σ1=nx σ+2:=by rw[←hσ1,Ao,Ao]
 have g1:∀b,b<nx σ->σ1.get b=σ.get b:=fun b hb=>by rw[←hσ1,ag_,Ao,if_neg Om,ag_,if_neg Om]
 have r1:σ1.get (nx σ)=some (.cells [nS,nS,nS]):=by rw[←hσ1,ag_,Ao,if_neg Om,ag_,if_pos rfl]
 have r2:σ1.get (nx σ+1)=some (.cells [nS,nS]):=by rw[←hσ1,ag_,Ao,if_pos rfl]
 refine G7 ?_;refine Ca (f100 [119,112,104] [112,104] _) ?_;refine G ?_;refine Ca (f100 [119,112,115] [112,115] _) ?_
 refine O1 (Bj (n:=nx σ1) ziC rfl) (O1 (Bj (n:=nx σ1+1) ziC (Ao _ _)) (O1 (G1 (cs:=[.str [],.bool false,nS]) (cs':=[.str [119,112,104],.bool true,.sv [.str [119,102,102],.str [112,104]] 1 2 none]) (by rw[ag_,Ao,if_neg Om,ag_,if_pos rfl]) ldC rfl rfl rfl rfl) ?_))
 refine O1 (G1 (cs:=[.str [],.bool false,nS]) (cs':=[.str [119,112,115],.bool true,.sv [.str [119,102,102],.str [112,115]] 1 2 none]) (by rw[aa_,if_neg Om,ag_,Ao,if_pos rfl]) ldC rfl rfl rfl rfl) ?_
 refine G ?_;obtain⟨σ2,hσ2⟩:∃σ2,(((σ1.new (.cells [.str [],.bool false,nS])).new (.cells [.str [],.bool false,nS])).set (nx σ1) (.cells [.str [119,112,104],.bool true,.sv [.str [119,102,102],.str [112,104]] 1 2 none])).set (nx σ1+1) (.cells [.str [119,112,115],.bool true,.sv [.str [119,102,102],.str [112,115]] 1 2 none])=σ2:=⟨_,rfl⟩;rw[hσ2]
 have n2:nx σ2=nx σ1+2:=by rw[←hσ2,Aq,Aq,Ao,Ao]
 have g2:∀b,b<nx σ1->σ2.get b=σ1.get b:=fun b hb=>by rw[←hσ2,aa_,if_neg Om,aa_,if_neg Om,ag_,Ao,if_neg Om,ag_,if_neg Om]
 have p3:σ2.get (nx σ1)=some (.cells [.str [119,112,104],.bool true,.sv [.str [119,102,102],.str [112,104]] 1 2 none]):=by rw[←hσ2,aa_,if_neg Om,aa_,if_pos rfl]
 have p4:σ2.get (nx σ1+1)=some (.cells [.str [119,112,115],.bool true,.sv [.str [119,102,102],.str [112,115]] 1 2 none]):=by rw[←hσ2,aa_,if_pos rfl]
 refine G2 ?_;refine O1 (lO p3) (O1 (lO p4) (O1 (Ai elC byW rfl rfl rfl) ?_));refine G4 ?_;refine O1 (Ai elC byW rfl rfl rfl) (O1 (Ai elC byW rfl rfl rfl) (O1 (lO p3) (O1 (Ai elC byW rfl rfl rfl) (O1 (lO p4) (O1 (Ai elC byW rfl rfl rfl) (O1 (Ai elC byW rfl rfl rfl) ?_))))));refine G2 ?_;refine O1 (Ai elC byW rfl rfl rfl) ?_;refine G2 ?_;refine O1 (Ai elC byW rfl rfl rfl) ?_;refine G2 ?_;refine O1 (Ai elC byW rfl rfl rfl) ?_;refine G ?_;refine O1 (lO p3) (O1 (Ai elC byW rfl rfl rfl) (O1 (lO p4) (O1 (Ai elC byW rfl rfl rfl) (O1 (Ai elC byW rfl rfl rfl) ?_))));refine G2 ?_;refine O1 (Ai elC byW rfl rfl rfl) ?_;refine G ?_;refine O1 (Ai elC byW rfl rfl rfl) ?_;refine G ?_;refine O1 (Ai elC byW rfl rfl rfl) ?_;refine G ?_;refine O1 (G1 (off:=0) ((g2 _ Om).trans r1) ldC rfl rfl rfl rfl) ?_
 refine O1 (G1 (off:=0) (by rw[aa_,if_neg Om];exact(g2 _ Om).trans r2) ldC rfl rfl rfl rfl) ?_
 refine G2 ?_
 refine⟨_,Am (ldC (t:=25)) rfl (by simp only[Sto.cells];rw[aa_,if_neg Om,aa_,if_pos rfl]) rfl (Am (ldC (t:=35)) rfl (by simp only[Sto.cells];rw[aa_,if_pos rfl]) rfl rfl),.tup [dbV dS,.agg (eRs rS)],σ,am_ hw ⟨by rw[Aq,Aq];omega,fun b hb=>by rw[aa_,if_neg Om,aa_,if_neg Om,g2 b Om];exact g1 b hb⟩,nl,Ahs 12 _ _ Kr,rfl,rfl⟩
theorem Ato{E nt B df ρ σ σ₁ K ops r}{o oj:Oper}{d v v'}{j dj:Nat}{b want}(h:As E (fun _ _ _=>none) o.op ρ σ v σ₁)(hw:Wk v v')(k:TO E nt df B ops r K ((d,v')::ρ) σ₁)
  (ho:o.dst=some d:=by exact rfl)(hg:o.guard=some (j,want):=by exact rfl)(hj:ops[j]? =some oj:=by exact rfl)(hdj:oj.dst=some dj:=by exact rfl)(hb:Ad.at ρ dj=some (.bool b):=by exact rfl)(hwt:cond b want (!want)=true:=by exact rfl)(hn:Ga o.op=true:=by exact rfl)(hd:B0 nt o.dst=true:=by exact rfl):TO E nt df B ops (o::r) K ρ σ:=
 Bi hg hj hdj hb hwt noR hn hd h (by rw[ho];exact Av3 hw k)
theorem f10a(σ):Cv 10 [] σ (.bool true):=by
 have hE:eDf xS=[sV [119,111],Af [[119,112,104],[119,112,115]],Af [],sV [119,105],slV eT 2 [.node [119,110] [vph],vps]]:=by unfold eDf xS t5r;rw[Cl];rfl
 have h13:∀σ,Cv 13 [.agg [Af dS.consts,Af dS.vars,slV eF 8 dS.frames],.agg (eRs rS),nV 5] σ (.tup [.agg [sV [119,111],Af [[119,112,104],[119,112,115]],Af [],sV [119,105],slV eT 2 [.node [119,110] [vph],vps]],iV 0]):=fun σ=>by
  have:=f13 Atn (i:=5) (by decide) σ
  rwa[Aob,hE]at this
 have h11:∀σ,Cv 11 [.agg [Af dS.consts,Af dS.vars,slV eF 8 dS.frames],.agg (eRs rS)] σ (.tup [slV eNn 1 [5],iV 0]):=fun σ=>by
  have:=f11 Atn.db Atn.vf (fun _=>Atn) σ
  rwa[allS]at this
 have h50:∀σ,Cv 50 [.agg [Af dS.consts,Af dS.vars,slV eF 8 dS.frames],.agg (eRs rS),nV 4] σ (iV 212):=fun σ=>by
  have:=f50 Atn (i:=4) (by decide) σ
  rwa[Aoe]at this
 have h49:∀σ,Cv 49 [Af [[119,112,104],[119,112,115]],Af [[119,112,104],[119,112,115]]] σ (.bool true):=fun σ=>by
  have:=f49 [[119,112,104],[119,112,115]] [[119,112,104],[119,112,115]] σ (by decide)
  grind
 have h40:∀σ,Cv 40 [slV eNn 1 [5],slV eNn 1 [5]] σ (.bool true):=fun σ=>by
  have:=f40 [5] [5] σ (by decide)
  grind
 refine Aj Tryz.func10 rfl rfl fun hw hu0=>?_
 refine G6 ?_;refine Ca (f48 _) ?_;refine G3 ?_
 refine O1 (Bj (n:=nx σ) ziC rfl) (O1 (Bj (n:=nx σ+1) ziC (Ao _ _)) (O1 (G1 (cs:=[nS,nS,nS]) (cs':=[Af dS.consts,Af dS.vars,slV eF 8 dS.frames]) (by rw[ag_,Ao,if_neg Om,ag_,if_pos rfl]) ldC rfl rfl rfl rfl) ?_))
 refine O1 (G1 (cs:=[nS,nS]) (cs':=eRs rS) (by rw[aa_,if_neg Om,ag_,Ao,if_pos rfl]) ldC rfl rfl rfl rfl) ?_
 refine G ?_;obtain⟨σ1,hσ1⟩:∃σ1,(((σ.new (.cells [nS,nS,nS])).new (.cells [nS,nS])).set (nx σ) (.cells [Af dS.consts,Af dS.vars,slV eF 8 dS.frames])).set (nx σ+1) (.cells (eRs rS))=σ1:=⟨_,rfl⟩;rw[hσ1]
 have n1:nx σ1=nx σ+2:=by rw[←hσ1,Aq,Aq,Ao,Ao]
 have g1:∀b,b<nx σ->σ1.get b=σ.get b:=fun b hb=>by rw[←hσ1,aa_,if_neg Om,aa_,if_neg Om,ag_,Ao,if_neg Om,ag_,if_neg Om]
 have p1:σ1.get (nx σ)=some (.cells [Af dS.consts,Af dS.vars,slV eF 8 dS.frames]):=by rw[←hσ1,aa_,if_neg Om,aa_,if_pos rfl]
 have p2:σ1.get (nx σ+1)=some (.cells (eRs rS)):=by rw[←hσ1,aa_,if_pos rfl]
 refine G2 ?_;refine O1 (lO p1) (O1 (lO p2) ?_);refine Ca (h13 _) ?_;refine G8 ?_;refine O1 (lO p1) (O1 (lO p2) ?_);refine Ca (h11 _) ?_;refine G11 ?_;refine Bi rfl rfl rfl rfl rfl noR rfl rfl (Ag rfl) (Bi rfl rfl rfl rfl rfl noR rfl rfl (H4 (q:=0) okC rfl rfl) (O1 (A3 rfl rfl rfl) ?_));refine G ?_;refine Bi rfl rfl rfl rfl rfl noR rfl rfl (Ae fdC rfl rfl) (Bi rfl rfl rfl rfl rfl noR rfl rfl (Ac ldC rfl rfl rfl) (Bi rfl rfl rfl rfl rfl noR rfl rfl (H5 (q:=[119,111]) okC rfl rfl) (O1 (A3 rfl rfl rfl) ?_)));refine G ?_;refine Bi rfl rfl rfl rfl rfl noR rfl rfl (Ae fdC rfl rfl) (Bi rfl rfl rfl rfl rfl noR rfl rfl (Ac ldC rfl rfl rfl) (Ato (Ai elC byW rfl rfl rfl) (Dv (len:=2)) (Bh rfl rfl rfl rfl rfl rfl rfl rfl (h49 _) (O1 (A3 rfl rfl rfl) ?_))));refine G ?_;refine Bi rfl rfl rfl rfl rfl noR rfl rfl (Ae fdC rfl rfl) (Bi rfl rfl rfl rfl rfl noR rfl rfl (Ac ldC rfl rfl rfl) (Bi rfl rfl rfl rfl rfl noR rfl rfl (Jl slC rfl) (Bi rfl rfl rfl rfl rfl noR rfl rfl (H4 (q:=0) okC rfl rfl) (O1 (A3 rfl rfl rfl) ?_))));refine G ?_;refine Bi rfl rfl rfl rfl rfl noR rfl rfl (Ae fdC rfl rfl) (Bi rfl rfl rfl rfl rfl noR rfl rfl (Ae fdC rfl rfl) (Bi rfl rfl rfl rfl rfl noR rfl rfl (Ac ldC rfl rfl rfl) (Bi rfl rfl rfl rfl rfl noR rfl rfl (H5 (q:=[119,105]) okC rfl rfl) (O1 (A3 rfl rfl rfl) ?_))));refine G ?_;refine Bi rfl rfl rfl rfl rfl noR rfl rfl (Ag rfl) (Ato (Ai elC byW rfl rfl rfl) (Dv (len:=1)) (Bh rfl rfl rfl rfl rfl rfl rfl rfl (h40 _) (O1 (A3 rfl rfl rfl) ?_)));refine G ?_;refine Bi rfl rfl rfl rfl rfl noR rfl rfl (lO p1) (Bi rfl rfl rfl rfl rfl noR rfl rfl (lO p2) (Bh rfl rfl rfl rfl rfl rfl rfl rfl (h50 _) (Bi rfl rfl rfl rfl rfl noR rfl rfl (H4 (q:=212) okC rfl rfl) (O1 (A3 rfl rfl rfl) ?_))));refine G3 ?_
 exact⟨_,rfl,_,σ,am_ hw ⟨by omega,g1⟩,nl,.same rfl,rfl,rfl⟩
def C0:Ctx:=⟨fun _=>none,fun _=>0,fun _=>False,fun _=>none⟩
theorem Al0(b):¬C0.own b:=fun hb=>hb.elim (fun h=>h) fun⟨a,o,h⟩=>by cases h
theorem sim0(w):Sim Tryz.prog C0 w ⟨.e,0⟩:=
 ⟨fun a O hg=>(by simp[Sto.get,Tr.get]at hg),fun a O hg=>(by simp[Sto.get,Tr.get]at hg),fun a p hp=>(by cases hp),fun a b c o o' ha=>(by cases ha),fun a c o ha=>(by cases ha),fun b hb=>False.elim hb,fun a c o ha=>(by cases ha)⟩
theorem Al1{f args vs w}(h:Al Ew f args ⟨.e,0⟩ fun v σ'=>v=.bool true/\σ'=⟨.e,0⟩)(hg:Iw C0 0 w Ew)(ha:RL C0 0 w args vs.toList):
  Calls Tryz.prog f vs w fun e w'=>e=.returned (.bool true)/\w.heap.size<=w'.heap.size/\(∀b,b<w.heap.size->w'.heap[b]? =w.heap[b]?)/\w'.os=w.os/\w'.output=w.output:=by
 refine(h C0 w vs (sim0 w) hg ha).2.mono fun e w' he=>?_
 cases e with
 |returned x=>
  obtain⟨v,σ',C',⟨rfl,rfl⟩,k1,k2,k3⟩:=he;unfold R at k3;subst k3;exact⟨rfl,k2.size,fun b hb=>(k2.keep b hb (Al0 b)).2,k2.os⟩
 |panicked _=>exact he.elim
 |outgrown=>exact he.elim
end Go.AM
