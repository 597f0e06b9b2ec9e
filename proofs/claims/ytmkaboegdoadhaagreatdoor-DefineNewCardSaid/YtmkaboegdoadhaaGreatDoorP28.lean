/- A part of the proof; shortened by program. -/
import Derived.Test.YtmkaboegdoadhaaGreatDoorP27
set_option maxRecDepth 100000
set_option maxHeartbeats 4000000
set_option linter.unusedSimpArgs false
set_option linter.unusedVariables false
namespace Go.AM
open Go Go.Proofs
theorem Axx{E:Env}{ρ:Ad}{σ:Sto}{Rr:Rec}{t ty:Nat}{x y:Operand}{l m:List AV}{a b:Key}(hi:okI E.P t=true)(hx:Ah E ρ x=some (.agg l))(hy:Ah E ρ y=some (.agg m))(hcx:Cm x=false)(hcy:Cm y=false)(h1:D4 E.P t (.agg l)=some a)(h2:D4 E.P t (.agg m)=some b):
  As E Rr (.binOp .eql t x y ty) ρ σ (.bool (Key.eq a b)) σ:=fun tm h=>by
 obtain⟨ti,hti⟩:=Nl hi;simp only[opA,Aw,h.opd hx,h.opd hy,hcx,hcy,Wb,hti,Ir,Bool.or_self,cond_false,Pn,h1,h2,Sx]
def kP(p:Pr):Key:=.agg [kS p.a,kS p.b]
theorem pkey(p:Pr):D4 Ew.P 274 (.agg (eP p))=some (kP p):=Kr
theorem Awn(p q:Pr):Key.eq (kP p) (kP q)=decide (p=q):=by
 obtain⟨a,b⟩:=p;obtain⟨c,d⟩:=q;simp only[kP,Key.eq,Key.eqs,Abl,Pr.mk.injEq]
 by_cases h1:a=c<;>by_cases h2:b=d<;>simp[h1,h2]
def Q2(d:Db)(x y:Str):Pr:=⟨minS (Aj8 d x) (Aj8 d y),maxS (Aj8 d x) (Aj8 d y)⟩
def Pne(d:Db):Prop:=∀s,vrD d s=true->0<(rlD d s).parts.length
theorem f210{d:Db}{r:Rs}{P mT:Nat}{σ:Sto}(hP:σ.get P=some (.cells (bkC d r mT)))(hne:Pne d)(x y:Str):Cv 210 [.pr P 0,sV x,sV y] σ (.agg (eP (Q2 d x y))):=by
 refine Aj Tryz.func210 rfl rfl fun hw hu0=>?_
 refine G2 ?_;refine O1 (Bu ziC) ?_;refine G ?_;obtain⟨σ1,hσ1⟩:∃σ1,σ.new (.cells [.str [],.str []])=σ1:=⟨_,rfl⟩;rw[hσ1]
 have n1:nx σ1=nx σ+1:=by rw[←hσ1,Ao]
 have g1:∀b,b<nx σ->σ1.get b=σ.get b:=fun b hb=>by rw[←hσ1,ag_,if_neg Om]
 have r1:σ1.get (nx σ)=some (.cells [.str [],.str []]):=by rw[←hσ1,ag_,if_pos rfl]
 have p1:σ1.get P=some (.cells (bkC d r mT)):=(g1 P (hw _ _ hP).1).trans hP;refine G4 ?_;refine Ca (f243 p1 x (hne x)) ?_;refine G2 ?_;refine Ca (f243 p1 y (hne y)) ?_;refine G7 ?_;refine Avk rfl rfl rfl ?_;refine G2 ?_;refine Avl rfl rfl rfl ?_;refine G ?_;refine O1 (sO (cs':=eP (Q2 d x y)) r1) ?_;refine G2 ?_
 exact⟨[.agg (eP (Q2 d x y))],Am (vs:=eP (Q2 d x y)) (ldC (t:=274)) rfl (by simp only[Sto.cells];rw[aa_,if_pos rfl]) rfl rfl,_,σ,am_ hw ⟨by rw[Aq];omega,fun b hb=>by rw[aa_,if_neg Om];exact g1 b hb⟩,nl,.same rfl,rfl,rfl⟩
theorem f242(l:List Pr)(p:Pr)(σ:Sto)(hl:l.length<=1000000):Al Ew 242 [slV eP 2 l,.agg (eP p)] σ fun v σ'=>∃n:Int,v=iV n/\decide (0<=n)=decide (p∈l)/\σ'=σ:=by
 refine Aj Tryz.func242 rfl rfl fun hw hu0=>?_
 iterate 13 refine G ?_
 refine Bz l.length (fun i0=>[(0,slV eP 2 l),(3,.pv (eP p)),(7,nV l.length),(8,nV i0)]) (fun i0 σ0=>σ0=σ/\∀q∈l.take i0,q≠p) SL ⟨rfl,fun q h=>by simp at h⟩ ?_
 rintro i0 σ0 hi0 ⟨rfl,hz0⟩;refine G5 ?_;refine Ab rfl ?_ ?_<;>intro h1
 ·have bc:i0<l.length:=Int.ofNat_lt.1 (of_decide_eq_true h1);obtain⟨q,hq⟩:=Ar bc;have htk:=List.take_add_one (l:=l) (i:=i0);rw[hq]at htk;refine G9 ?_;refine X0 ?_;refine G5 ?_;refine DF (Axx okC rfl rfl rfl rfl (pkey p) (pkey q)) ?_;refine G ?_;refine⟨rfl,rfl,?_⟩;refine Ab rfl ?_ ?_<;>intro h2
  ·have hpq:p=q:=of_decide_eq_true (by rw[←Awn];exact h2)
   have hm:p∈l:=hpq▸ab_ hq;refine G6 ?_
   exact⟨_,rfl,_,_,a_ hw nl (fun _ _=>rfl),nl,.same rfl,Int.ofNat i0,rfl,by rw[decide_eq_true hm];exact decide_eq_true (Int.natCast_nonneg i0),rfl⟩
  ·have hpq:p≠q:=of_decide_eq_false (by rw[←Awn];exact h2)
   refine G5 ?_;refine⟨bc,SL,rfl,fun u hu=>?_⟩
   rw[htk]at hu
   rcases bb_.1 hu with hu|hu
   ·exact hz0 u hu
   ·simp at hu;subst hu;exact fun e=>hpq e.symm
 ·have bj:l.length<=i0:=bm_.1 (Int.not_lt.1 (fun q=>of_decide_eq_false h1 q))
  rw[at_ bj]at hz0;have hm:p∉l:=fun h=>hz0 p h rfl
  refine G6 ?_
  exact⟨_,rfl,_,_,a_ hw nl (fun _ _=>rfl),nl,.same rfl,-1,rfl,by rw[decide_eq_false hm];rfl,rfl⟩
theorem f209(l:List Pr)(p:Pr)(σ:Sto)(hl:l.length<=1000000):Cv 209 [slV eP 2 l,.agg (eP p)] σ (.bool (decide (p∈l))):=by
 refine Aj Tryz.func209 rfl rfl fun hw hu0=>?_
 refine G9 ?_;refine Az rfl rfl rfl rfl (f242 l p σ hl) ?_;rintro _ _ ⟨n,rfl,hn,rfl⟩;refine G4 ?_;exact⟨_,rfl,_,_,a_ hw nl (fun _ _=>rfl),nl,.same rfl,(congrArg AV.bool hn),rfl⟩
abbrev eLs(l:List Str):List AV:=[slV e1 1 l]
theorem e1L:∀s:Str,(e1 s).length=1:=fun _=>rfl
theorem f241(n:Nat)(σ:Sto)(hn:n<1000000):Al Ew 241 [nS,iV (.ofNat n)] σ fun v σ'=>Own σ' (nx σ) e1 1 [] v/\Below (nx σ) σ σ':=by
 refine Aj Tryz.func241 rfl rfl fun hw hu0=>?_
 refine G10 ?_;refine Ab rfl ?_ ?_<;>intro h1
 ·exact absurd h1 (by simp)
 ·refine G6 ?_;refine O1 (Zz slC rfl) ?_;refine G ?_;refine O1 (Bf slC rfl rfl rfl) (O1 (W2 (p:=0) (q:=0) okC rfl rfl Om Om) ?_);refine O1 (W2 (p:=n) (q:=0) okC rfl rfl Om Om) ?_;refine G7 ?_;refine Ab rfl ?_ ?_<;>intro h2
  ·obtain⟨n,rfl⟩:∃k,n=k+1:=⟨n-1,(by simp at h2;omega)⟩
   refine G3 ?_;refine O1 (Zz slC rfl) (O1 (Ams elC rfl rfl) ?_);refine G ?_
   refine O1 (Ain (n:=n) elC rfl in3 rfl rfl (by simp[sizeLim];omega)) ?_
   refine G ?_;refine O1 (Bf slC rfl rfl rfl) (O1 (Uv (b:=0) elC rfl rfl Om) ?_);refine G7 ?_;refine Bo fun hw'=>?_
   refine G ?_
   exact⟨_,rfl,_,_,a_ hw' nl (fun _ _=>rfl),by rw[Ao];omega,.same (Ce (by rw[Ao];omega)),.inr ⟨nx σ,rep [.str []] (n+1),nl,by rw[Ao];omega,rfl,by rw[ag_,if_pos rfl];rfl⟩,Below.rfl'.new nl _⟩
  ·refine G7 ?_;exact⟨_,rfl,_,_,a_ hw nl (fun _ _=>rfl),nl,.same rfl,.nil,.rfl'⟩
theorem f208(ls:List (List Str))(σ:Sto)(hb:ls.length<1000)(hb2:ls.flatten.length<1000000):Cv 208 [slV eLs 1 ls] σ (slV e1 1 ls.flatten):=by
 refine Aj Tryz.func208 rfl rfl fun hw hu0=>?_
 iterate 16 refine G ?_
 refine Ci (fun q:Nat×AV=>[(0,slV eLs 1 ls),(3,q.2),(9,slV eLs 1 ls),(10,iV (.ofNat ls.length)),(11,iV (.ofNat q.1))]) (fun q σ0=>q.1<=ls.length/\σ0=σ/\∃s,q.2=iV (.ofNat s)/\s=((ls.take q.1).flatten).length) (fun q=>ls.length-q.1) (0,iV (.ofNat 0)) SL ⟨aq_ _,rfl,0,rfl,rfl⟩ ?_
 rintro⟨i0,v0⟩ σ0 hP0;obtain⟨hi0,rfl,s,hvs,hs⟩:i0<=ls.length/\σ0=σ/\∃s,v0=iV (.ofNat s)/\s=((ls.take i0).flatten).length:=hP0;refine G5 ?_;refine Ab rfl ?_ ?_<;>intro h1
 ·have bc:i0<ls.length:=by simpa using h1
  obtain⟨a0,ha0⟩:=Ar bc;have hd0:=A4 ha0;subst hvs
  have hfl:((ls.take i0).flatten).length+a0.length<=ls.flatten.length:=by have:=K9 ls (i0+1);rwa[Np ha0,bx_]at this
  iterate 14 refine G ?_
  refine O1 (D3 (p:=s) (q:=a0.length) okC rfl rfl Om) ?_;refine G7 ?_;refine Ab rfl ?_ ?_<;>intro h2
  ·exact absurd h2 (by simp;omega)
  ·refine G5 ?_
   refine⟨(i0+1,iV (.ofNat (s+a0.length))),by show ls.length-(i0+1)<ls.length-i0;omega,SL,bc,rfl,_,rfl,by rw[Np ha0,bx_,hs]⟩
 ·have bj:ls.length<=i0:=by simpa using h1
  subst hvs;rw[at_ bj]at hs;subst hs;refine G4 ?_;refine Az rfl rfl rfl rfl (f241 ls.flatten.length _ hb2) fun v τ ⟨bf,cb⟩=>?_
  refine G10 ?_;refine Ci (fun q:Nat×AV=>[(6,q.2),(25,slV eLs 1 ls),(26,iV (.ofNat ls.length)),(27,iV (.ofNat q.1))]) (fun q σ2=>q.1<=ls.length/\Own σ2 (nx σ0) e1 1 ((ls.take q.1).flatten) q.2/\Below (nx σ0) σ0 σ2) (fun q=>ls.length-q.1) (0,v) SL ⟨aq_ _,bf,cb⟩ ?_
  rintro⟨i2,v2⟩ σ2 hP2;obtain⟨hi2,bw,b7⟩:i2<=ls.length/\Own σ2 (nx σ0) e1 1 ((ls.take i2).flatten) v2/\Below (nx σ0) σ0 σ2:=hP2;refine G5 ?_;refine Ab rfl ?_ ?_<;>intro h2
  ·have bv:i2<ls.length:=by simpa using h2
   obtain⟨a2,ha2⟩:=Ar bv;have hd2:=A4 ha2
   have bn:(((ls.take i2).flatten).length+a2.length)*(16+1)<=sizeLim:=by have:=K9 ls (i2+1);rw[Np ha2,bx_]at this;simp only[sizeLim];omega
   obtain⟨v,τ3,c5,gg,gp,_⟩:=bw.app (by':=16) e1L b7.1 a2 bn
   refine G12 ?_;refine O1 (Av elC rfl slC rfl rfl rfl (X7 e1L _ a2) c5) ?_;refine G6 ?_
   refine⟨(i2+1,v),by show ls.length-(i2+1)<ls.length-i2;omega,SL,bv,by rw[Np ha2];exact gg,b7.trans gp⟩
  ·have ba:ls.length<=i2:=by simpa using h2
   refine G6 ?_;rw[at_ ba]at bw;refine G ?_;exact⟨_,rfl,slV e1 1 ls.flatten,σ0,am_ hw b7,nl,bw.fz e1L (fun a ha=>hw.none ha) (A2 D9 _),rfl,rfl⟩
def Sv(d:Db)(f:Fr)(a b:Str):Bool:= !decide (a=b)&& !decide (Q2 d a b∈f.apart)
def Yf(d:Db)(f:Fr)(x:Df):Bool:=x.dummies.any fun a=>([x.args,x.dummies].flatten).any (Sv d f a)
theorem f174{d:Db}{r:Rs}{P mT:Nat}{σ:Sto}(hP:σ.get P=some (.cells (bkC d r mT)))(hne:Pne d){i:Nat}{f:Fr}(hfr:d.frames[i]? =some f)(hap:f.apart.length<=1000000){x:Df}(h1:x.args.length<=10000)(h2:x.dummies.length<=10000):Cv 174 [.pr P 0,nV i,.agg (eDf x)] σ (.bool (Yf d f x)):=by
 refine Aj Tryz.func174 rfl rfl fun hw hu0=>?_
 refine G2 ?_;refine Jv ldC rfl (A7 (F8 x)) rfl ?_;refine G8 ?_;refine Cx (Ai elC byW rfl rfl rfl) (Dv (len:=2)) rfl rfl ?_
 refine Ca (f208 [x.args,x.dummies] σ (by simp) (by simp;omega)) ?_
 refine G2 ?_;obtain⟨al,hal⟩:∃al,[x.args,x.dummies].flatten=al:=⟨_,rfl⟩;have hll:al.length<=20000:=gr;rw[hal];refine G9 ?_;refine Bz x.dummies.length (fun i0=>[(0,.pr P 0),(1,nV i),(7,Af al),(19,Af x.dummies),(20,nV x.dummies.length),(21,nV i0)]) (fun i0 σ0=>σ0=σ/\∀a∈x.dummies.take i0,al.any (Sv d f a)=false) SL ⟨rfl,gr⟩ ?_
 rintro i0 σ0 hi0 ⟨rfl,hz0⟩;refine G5 ?_;refine Ab rfl ?_ ?_<;>intro h1
 ·have bc:i0<x.dummies.length:=Int.ofNat_lt.1 (of_decide_eq_true h1);obtain⟨a,ha⟩:=Ar bc;have htk:=List.take_add_one (l:=x.dummies) (i:=i0);rw[ha]at htk
  iterate 16 refine G ?_
  refine Bz al.length (fun i2=>[(0,.pr P 0),(1,nV i),(7,Af al),(9,sV a),(19,Af x.dummies),(20,nV x.dummies.length),(21,nV i0),(25,Af al),(26,nV al.length),(27,nV i2)]) (fun i2 σ2=>σ2=σ0/\∀b∈al.take i2,Sv d f a b=false) SL ⟨rfl,gr⟩ ?_
  rintro i2 σ2 hi2 ⟨rfl,hz2⟩;refine G5 ?_;refine Ab rfl ?_ ?_<;>intro h2
  ·have bv:i2<al.length:=Int.ofNat_lt.1 (of_decide_eq_true h2);obtain⟨b,hb⟩:=Ar bv;have ri:=List.take_add_one (l:=al) (i:=i2);rw[hb]at ri;refine G9 ?_;refine Gg [(50,.bool (Sv d f a b))] ?_ ?_
   ·rcases av_ (!decide (a=b))with hg3|hg3
    ·refine XX 1 (l:=[(210,[.pr P 0,sV a,sV b],σ2,.agg (eP (Q2 d a b)),σ2),(209,[slV eP 2 f.apart,.agg (eP (Q2 d a b))],σ2,.bool (decide (Q2 d a b∈f.apart)),σ2)]) ⟨f210 hP hne a b,f209 f.apart _ σ2 hap,trivial⟩ ?_;refine G2 ?_;refine DF (Ko okC rfl rfl) ?_;refine G5 ?_;refine Xn (lO hP) ?_;refine G7 ?_
     refine Ol rfl rfl rfl rfl (R1 hg3) rfl rfl (Bq rfl rfl Bv) (Ol rfl rfl rfl rfl (R1 hg3) rfl rfl (Bq rfl rfl (Dw (by decide) Bv)) ?_)
     refine G3 ?_
     exact⟨(by intro e he;simp at he;first|(rcases he with rfl|rfl<;>exact .refl)|(subst he;exact .refl)),⟨⟨congrArg (fun b=>some (AV.bool b)) (by first|rfl|(unfold Sv;simp only[hg3];done)|(unfold Sv;simp only[hg3];rfl)|(unfold Sv;simp[hg3];done)),trivial⟩,sb,rfl⟩⟩
    ·refine XX 1 (l:=[(210,[.pr P 0,sV a,sV b],σ2,.agg (eP (Q2 d a b)),σ2),(209,[slV eP 2 f.apart,.agg (eP (Q2 d a b))],σ2,.bool (decide (Q2 d a b∈f.apart)),σ2)]) ⟨f210 hP hne a b,f209 f.apart _ σ2 hap,trivial⟩ ?_;refine G2 ?_;refine DF (Ko okC rfl rfl) ?_
     iterate 13 refine G ?_
     refine K5 rfl rfl rfl rfl (R1 hg3) rfl rfl (K5 rfl rfl rfl rfl (R1 hg3) rfl rfl (Wx (w:=R1 hg3) (DF (Au rfl (R1 hg3) rfl) (C1 ?_))))
     exact⟨(by intro e he;simp at he;first|(rcases he with rfl|rfl<;>exact .refl)|(subst he;exact .refl)),⟨⟨congrArg (fun b=>some (AV.bool b)) (by first|rfl|(unfold Sv;simp only[hg3];done)|(unfold Sv;simp only[hg3];rfl)|(unfold Sv;simp[hg3];done)),trivial⟩,sb,rfl⟩⟩
   refine Ab rfl ?_ ?_<;>intro h3
   ·have hc:Yf d f x=true:=by
     unfold Yf
     grind
    refine G5 ?_
    exact⟨_,rfl,_,_,a_ hw nl (fun _ _=>rfl),nl,.same rfl,(by rw[hc];rfl),rfl⟩
   ·skip
    refine G5 ?_;refine⟨bv,SL,rfl,fun u hu=>?_⟩
    grind
  ·have ba:al.length<=i2:=bm_.1 (Int.not_lt.1 (fun q=>of_decide_eq_false h2 q))
   rw[at_ ba]at hz2;refine G5 ?_;refine⟨bc,SL,rfl,fun u hu=>?_⟩
   grind
 ·have bj:x.dummies.length<=i0:=bm_.1 (Int.not_lt.1 (fun q=>of_decide_eq_false h1 q))
  rw[at_ bj]at hz0
  have hc:Yf d f x=false:=by
   unfold Yf
   grind
  refine G6 ?_
  exact⟨_,rfl,_,_,a_ hw nl (fun _ _=>rfl),nl,.same rfl,(by rw[hc];rfl),rfl⟩
theorem Aqa{d:Db}{l:List Str}{T:Ax}(h:B1 d l=(T,0)):(ofF d).2=0/\∃F D t w,Im (ofF d).1 D t w=some F/\Mu (ofF d).1 F=(T,0):=by
 unfold B1 at h
 by_cases he:(ofF d).2≠0
 ·rw[if_pos he]at h;exact absurd (Prod.mk.inj h).2 he
 ·rw[if_neg he]at h;refine⟨Classical.byContradiction he,?_⟩;cases l with
  |nil=>exact absurd (Prod.mk.inj h).2 (by decide)
  |cons t text=>
   have h:(if D7 t∉(ofF d).1.sorts then(Ek,11)else match Fj (ofF d).1 (D7 t) text with
    |(none,e)=>(Ek,if e=160 then 190 else e)
    |(some F,_)=>Mu (ofF d).1 F)=(T,0):=h
   by_cases hs:D7 t∉(ofF d).1.sorts
   ·rw[if_pos hs]at h
    exact absurd (Prod.mk.inj h).2 (by decide)
   ·rw[if_neg hs]at h
    rcases Vt (g:=(ofF d).1) (s:=D7 t) (t:=text)with⟨e,hp,hne⟩|⟨F,D,w,hp,hpk⟩
    ·rw[hp]at h;have h2:(if e=160 then(190:Int)else e)=0:=(Prod.mk.inj h).2
     split at h2
     ·cases h2
     ·exact absurd h2 hne
    ·rw[hp]at h;exact⟨F,D,text,w,hpk,h⟩
theorem Atc{g:Gr}{F:List Nde}{T:Ax}(hgr:g.rules.length<=1000000)(hF:FOk g F.length F)(hFB:FB F)(h0:0<F.length)(h:Mu g F=(T,0)):KB T/\M6 T<=4000:=by
 unfold Mu at h;cases hc:Yx F with
 |none=>rw[hc]at h;exact absurd (Prod.mk.inj h).2 (by decide)
 |some c=>
  rw[hc]at h;simp only at h
  by_cases h1:c.2.getD 0 0≠1
  ·rw[if_pos h1]at h;exact absurd (Prod.mk.inj h).2 (by decide)
  ·rw[if_neg h1]at h
   split at h
   ·exact absurd (Prod.mk.inj h).2 (by decide)
   ·rename_i h4
    split at h
    ·exact absurd (Prod.mk.inj h).2 (by decide)
    ·obtain⟨E,hci,h0E⟩:=Aho hF h0 hc;obtain⟨i0,hi0⟩:=au_.1 h0E;have hT:fT g F c 0=T:=(Prod.mk.inj h).1;have hL:Lst g F c E:=⟨hF,hFB,hci,hgr⟩;have hk:=hL.kb i0 0 hi0 Om;rw[hT]at hk;refine⟨hk,?_⟩;rw[show Yy g F c.2 (F.length+1) 0=T from hT]at h4
     omega
theorem Q3{d:Db}{l:List Str}{T:Ax}(h:B1 d l=(T,0)):ArT (ofF d).1 T/\KB T/\M6 T<=4000:=by
 obtain⟨_,F,D,t,w,hpk,ht⟩:=Aqa h;obtain⟨hF,h0,_⟩:=Acl hpk;have hG:=Yc d
 have:=Atc (by have:=hG.len;omega) hF (Aj3 hG.prt hpk) h0 ht
 exact⟨Ash hF h0 ht,this.1,this.2⟩
theorem Atd:KB Ek:=.node (aq_ _) fun k h=>by cases h
theorem Aft:∀{l:List Rl} {n:Nat} {r:Rl},(l.map (·.label)).Nodup->l[n]? =some r->F4 l r.label=some r:=by
 intro l n r hnd hr
 rcases L9 (l:=l) (s:=r.label)with⟨hf,hro⟩|⟨m,rl,hf,hat,hro⟩
 ·exfalso
  rcases Ha (p:=fun x:Rl=>decide (x.label=r.label)) l 0 with⟨_,h⟩|⟨m,a,h1,_⟩
  ·have:=h r (ab_ hr);simp at this
  ·rw[hf]at h1;have:=Int.natCast_nonneg (0+m);have e:Int.ofNat (0+m)=((0+m:Nat):Int):=rfl;omega
 ·have hl:rl.label=r.label:=by
   rcases Ha (p:=fun x:Rl=>decide (x.label=r.label)) l 0 with⟨h,_⟩|⟨k,a,h1,h2,h3,_⟩
   ·rw[hf]at h;have:=Int.natCast_nonneg m;have e:Int.ofNat m=((m:Nat):Int):=rfl;omega
   ·rw[hf]at h1;have:m=0+k:=ci_ h1;rw[bn_]at this;subst this;rw[hat]at h2;cases h2;exact of_decide_eq_true h3
  have hmn:m=n:=by
   have a1:(l.map (·.label))[m]? =some r.label:=by rw[br_,hat];exact congrArg some hl
   have a2:(l.map (·.label))[n]? =some r.label:=by rw[br_,hr];rfl
   have b1:=(ae_.1 a1).1
   exact(List.getElem?_inj b1 hnd).1 (by rw[a1,a2])
  subst hmn;rw[hat]at hr;cases hr;exact hro
theorem Ate{g:Gr}{r:Nat}{rl:Rl}(h:g.rules[r]? =some rl):nPt g r=(Io rl.parts).length:=by
 unfold nPt rPt Io;rw[h,cx_]
theorem Aj9{d:Db}{lab:Str}{ks:List Ax}(h:ArT (ofF d).1 (.node lab ks))(he:eqD d lab=true):∃a b,ks=[a,b]:=by
 generalize hT:Ax.node lab ks=T at h
 cases h with
 |@node r ks' hr hl _=>
  obtain⟨rfl,rfl⟩:=Ax.node.inj hT;obtain⟨rl,hrl⟩:=Ar hr
  have iq:Md (ofF d).1 r=rl.label:=by unfold Md;rw[hrl]
  have hro:F4 (ofF d).1.rules (Md (ofF d).1 r)=some rl:=by rw[iq];exact Aft (Yc d).nd hrl
  have hrd:rlD d (Md (ofF d).1 r)=rl:=by unfold rlD;rw[hro];rfl
  unfold eqD at he;rw[ad_]at he;have htw:=he.2;rw[hrd]at htw
  have h2:(Io rl.parts).length=2:=by
   unfold Ap6 at htw
   split at htw
   ·rename_i a b hq;rw[hq];rfl
   ·cases htw
  rw[Ate hrl,h2]at hl
  match ks,hl with
  |[a,b],_=>exact⟨a,b,rfl⟩
theorem Aka{ρ:Ad}{σ:Sto}{Rr:Rec}{α:Type}{enc:α->List AV}{t sz by' n:Nat}{zz:Option (List AV)}{l:List α}{x:Operand}{hi:Option Operand}(hel:elI Ew.P t=some (sz,by',zz))(he:∀a,(enc a).length=sz)(hx:Ah Ew ρ x=some (slV enc sz l))(h2:Iz Ew ρ hi=some (some (nV n)))(hn:n<=l.length):
  As Ew Rr (.slice t x none hi none) ρ σ (slV enc sz (l.take n)) σ:=by
 have h0:Nat.ble 0 n=true:=ar_ (aq_ _);have h1:Nat.ble n l.length=true:=ar_ hn
 have hb:Do l.length none none (some (nV n)) none=some (0,n,none):=by
  show cond (Nat.ble 0 n&&Li l.length none n) (some (0,n,Mz none 0)) none=_
  simp only[Li,h0,h1,be_,cond_true,Mz]
 have:=Ag0 (Rr:=Rr) (σ:=σ) (lo:=none) (hi:=hi) (mx:=none) hel he hx rfl h2 rfl hb (aq_ _) hn;rw[db_,es_]at this
 show As Ew Rr _ ρ σ (.sv ((l.take n).flatMap enc) sz (l.take n).length none) σ
 grind
def hyF(hs:List Hp):List (List Str):=(hs.filter fun h=> !h.floating&&Nv h.text).map (·.text)
def fmF(f:Fr):List (List Str):=hyF f.hyps++(if Nv f.text=true then[f.text]else[])
def Vv(fs:List Fr):List (List Str):=fs.flatMap fmF
structure FCons (Ls:List RF)(L:RF)(mT:Nat){α:Type}(I:α->(Nat->Prop)->Sto->Prop)(J:XE->Sto->Prop)(st:α->List Str->Option α)(ok:List Str->Prop):Prop where
 ext:∀a F τ τ',I a F τ->nx τ<=nx τ'->(∀b,b<nx τ->τ'.get b=τ.get b)->I a F τ'
 y:∀a F l τ,ok l->I a F τ->YX Ew Ls L [Af l] τ fun x τ'=>match st a l with
  |some a'=>x=.normal/\∃F',I a' F' τ'/\Con mT mT F τ F' τ'
  |none=>x≠.normal/\J x τ'
def Awo(P i:Nat):AV:=.fn (.func 240) [] [.pv [.pr P 0],.pv [nV i]]
theorem f205{P:Nat}(i:Nat){σ:Sto}(hP:P<nx σ):Cv 205 [.pr P 0,nV i] σ (Awo P i):=by
 refine Aj Tryz.func205 rfl rfl fun hw hu0=>?_
 refine G12 ?_
 exact⟨_,rfl,_,_,a_ hw nl (fun _ _=>rfl),nl,.same (show AV.und (nx σ) (Awo P i)=true from by show(true&&((Nat.blt P (nx σ)&&true)&&((true&&true)&&true)))=true;rw[Ce hP];rfl),rfl,rfl⟩
theorem f240{Ls:List RF}{L:RF}(hL:L∈Ls){d:Db}{r:Rs}{P mT i:Nat}{α:Type}{I:α->(Nat->Prop)->Sto->Prop}{J:XE->Sto->Prop}{st:α->List Str->Option α}{ok:List Str->Prop}(hC:FCons Ls L mT I J st ok)(hok:∀f∈d.frames.take i,ok f.text/\∀h∈f.hyps,ok h.text)(acc:α)(F:Nat->Prop)(σ:Sto)(hP:σ.get P=some (.cells (bkC d r mT)))(hi:i<=d.frames.length)(hD:d.frames.length<1000000)(hh:∀f∈d.frames,f.hyps.length<=1000000)(hI:I acc F σ):
  Hl Ew Ls 240 (.yl L.aY::[.pv [.pr P 0],.pv [nV i]]) σ fun _ σ'=>match foM st (Vv (d.frames.take i)) acc with
   |some a'=>∃F',I a' F' σ'/\Con mT mT F σ F' σ'
   |none=>nx σ<=nx σ'/\∃x,x≠.normal/\J x σ':=by
 have hIb:I acc F σ.bump:=hC.ext _ _ _ _ hI gr fun _ _=>Fe
 have hPb:σ.bump.get P=some (.cells (bkC d r mT)):=Fe.trans hP;refine Mo Tryz.func240 (Ke _ _ Tryz.func240) rfl rfl fun hw hu0=>?_
 refine Oo ?_;refine G ?_;refine Dy fun df=>X0 ?_
 iterate  4 refine G ?_
 refine DF (lO hPb) ?_;refine G ?_;refine DF (Aka (n:=i) elC (fun _=>rfl) rfl rfl hi) ?_
 iterate  3 refine G ?_
 refine⟨rfl,rfl,?_⟩;obtain⟨fs,hfs⟩:∃fs,d.frames.take i=fs:=⟨_,rfl⟩;rw[hfs]at hok⊢;have hfl:fs.length<=1000000:=gr;have hfh:∀f∈fs,f.hyps.length<=1000000:=fun f hf=>hh f gr
 refine G ?_;refine Hz (fun q:Nat×α=>[(0,.yl L.aY),(14,slV eF 8 fs),(15,nV fs.length),(16,nV q.1)]) (fun q σ0=>q.1<=fs.length/\∃F0,I q.2 F0 σ0/\Con mT mT F σ F0 σ0/\nx σ+1<=nx σ0/\foM st (Vv (fs.drop q.1)) q.2=foM st (Vv fs) acc) (fun q=>fs.length-q.1) (0,acc) SL ⟨aq_ _,F,hIb,.of gr (fun _ _ _ _=>Fe),gr,rfl⟩ ?_
 rintro⟨i0,a0⟩ σ0 ⟨hi0,F0,hI0,hc0,n0,bu⟩;have hi0:i0<=fs.length:=hi0;have hI0:I a0 F0 σ0:=hI0;have bu:foM st (Vv (fs.drop i0)) a0=foM st (Vv fs) acc:=bu
 iterate  5 refine G ?_
 refine A0 rfl ?_ ?_<;>intro h1
 ·have bc:i0<fs.length:=Int.ofNat_lt.1 (of_decide_eq_true h1);obtain⟨f,hf⟩:=Ar bc;have hhl:=hfh f (ab_ hf);obtain⟨tl,htl⟩:∃tl,(if Nv f.text=true then[f.text]else[])++Vv (fs.drop (i0+1))=tl:=⟨_,rfl⟩
  have hsp:Vv (fs.drop i0)=hyF f.hyps++tl:=by
   rw[A4 hf,←htl]
   show fmF f++Vv (fs.drop (i0+1))=_
   unfold fmF
   grind
  rw[hsp]at bu
  iterate  18 refine G ?_
  refine Hz (fun q:Nat×α=>[(0,.yl L.aY),(5,.pv (eF f)),(14,slV eF 8 fs),(15,nV fs.length),(16,nV i0),(21,slV eH 3 f.hyps),(22,nV f.hyps.length),(23,nV q.1)]) (fun q σ2=>q.1<=f.hyps.length/\∃F2,I q.2 F2 σ2/\Con mT mT F σ F2 σ2/\nx σ+1<=nx σ2/\foM st (hyF (f.hyps.drop q.1)++tl) q.2=foM st (Vv fs) acc) (fun q=>f.hyps.length-q.1) (0,a0) SL ⟨aq_ _,F0,hI0,hc0,n0,bu⟩ ?_
  rintro⟨i2,a2⟩ σ2 ⟨hi2,F2,hI2,hc2,n2,cx⟩;have hi2:i2<=f.hyps.length:=hi2;have hI2:I a2 F2 σ2:=hI2;have cx:foM st (hyF (f.hyps.drop i2)++tl) a2=foM st (Vv fs) acc:=cx
  iterate  5 refine G ?_
  refine A0 rfl ?_ ?_<;>intro h2
  ·have bv:i2<f.hyps.length:=Int.ofNat_lt.1 (of_decide_eq_true h2);obtain⟨h,hhh⟩:=Ar bv
   have r6:hyF (f.hyps.drop i2)=(if(!h.floating&&Nv h.text)=true then[h.text]else[])++hyF (f.hyps.drop (i2+1)):=by
    rw[A4 hhh];unfold hyF
    grind
   rw[r6,ca_]at cx;refine Jw ?_;refine Cf ?_;refine Qn ?_;refine Cf ?_;refine Dy fun df=>B7 ?_
   refine O1 (A1 elC (fun _=>rfl) rfl rfl hhh) ?_
   refine O1 (Ac ldC rfl rfl rfl) (Mp ziC ldC rfl (fun _=>rfl) rfl rfl rfl ?_)
   refine Dd ?_;refine Cf ?_;refine Er ?_;refine Gm 8 fun df=>?_
   refine G ?_;refine Ca (f107 h _) ?_;refine G ?_;refine TAn 3 ?_ (fun hg=>?_) ?_
   rotate_left
   ·iterate  2 refine Gn hg ?_
    refine Bh rfl rfl rfl (by rw[hg];rfl) rfl rfl rfl rfl (f106 h.text _) ?_
    exact Ez
   iterate  2 refine G ?_
   cases hb:(!h.floating&&Nv h.text)with
   |false=>
    rw[hb]at cx;refine TOp 6 ?_;refine Co rfl rfl rfl rfl rfl rfl (Co rfl rfl rfl rfl rfl rfl (Co rfl rfl rfl rfl rfl rfl (Co rfl rfl rfl rfl rfl rfl (Co rfl rfl rfl rfl rfl rfl (O1 (Au rfl rfl rfl) ?_)))))
    iterate  2 refine G ?_
    refine A0 rfl gr (fun h3=>?_)
    iterate  5 refine G ?_
    exact⟨(i2+1,a2),gr,SL,gr,F2,hI2,hc2,n2,cx⟩
   |true=>
    rw[hb]at cx;refine TOp 3 ?_;refine Bi rfl rfl rfl rfl rfl noR rfl rfl (Ag rfl) (Bi rfl rfl rfl rfl rfl noR rfl rfl (Ae fdC rfl rfl) (Bi rfl rfl rfl rfl rfl noR rfl rfl (Ac ldC rfl rfl rfl) ?_));refine G ?_;refine Lg hL (fun tm ht=>Ft rfl rfl rfl rfl rfl _ Hy.refl tm ht) rfl rfl rfl rfl (hC.y a2 F2 h.text σ2 ((hok f (ab_ hf)).2 h (ab_ hhh)) hI2) fun x σ5 hp5 hn5=>?_
    cases hst:st a2 h.text with
    |none=>
     rw[hst]at hp5;obtain⟨hx5,hJ5⟩:=hp5
     have hgo:Iu x=false:=by cases x<;>first|exact absurd rfl hx5|rfl
     rw[hgo];refine TOp 2 ?_;refine Bi rfl rfl rfl rfl rfl noR rfl rfl (Dc rfl) (O1 (A3 rfl rfl rfl) ?_)
     iterate  2 refine G ?_
     refine A0 rfl (fun h3=>?_) gr
     refine G ?_;intro hw9
     refine⟨[],rfl,_,_,a_ hw9 nl (fun _ _=>rfl),by omega,.same rfl,?_⟩
     rw[←cx];simp only[if_true,ay_,bd_,foM,hst]
     exact⟨by omega,x,hx5,hJ5⟩
    |some a5=>
     rw[hst]at hp5;obtain⟨rfl,F5,hI5,hc5⟩:=hp5;refine TOp 2 ?_;refine Bi rfl rfl rfl rfl rfl noR rfl rfl (Dc rfl) (O1 (A3 rfl rfl rfl) ?_)
     iterate  2 refine G ?_
     refine A0 rfl (fun h3=>by cases h3) (fun h3=>?_)
     iterate  5 refine G ?_
     refine⟨(i2+1,a5),gr,SL,gr,F5,hI5,hc2.trans hc5,by omega,?_⟩
     rw[←cx];simp only[if_true,ay_,bd_,foM,hst]
  ·have ba:f.hyps.length<=i2:=bm_.1 (Int.not_lt.1 (fun q=>of_decide_eq_false h2 q))
   rw[ah_ ba,show hyF []=[]from rfl,bd_,←htl]at cx
   refine Ux ?_;refine Cf ?_;refine Er ?_;refine Gm 4 fun df=>?_
   iterate  2 refine G ?_
   refine Ca (f106 f.text _) ?_
   iterate  2 refine G ?_
   cases hb:(Nv f.text)with
   |false=>
    rw[hb]at cx;refine TOp 6 ?_;refine Co rfl rfl rfl rfl rfl rfl (Co rfl rfl rfl rfl rfl rfl (Co rfl rfl rfl rfl rfl rfl (Co rfl rfl rfl rfl rfl rfl (Co rfl rfl rfl rfl rfl rfl (O1 (Au rfl rfl rfl) ?_)))))
    iterate  2 refine G ?_
    refine A0 rfl gr (fun h3=>?_)
    iterate  5 refine G ?_
    refine⟨(i0+1,a2),gr,SL,gr,F2,hI2,hc2,n2,?_⟩;rw[←cx]
    simp
   |true=>
    rw[hb]at cx;refine TOp 3 ?_;refine Bi rfl rfl rfl rfl rfl noR rfl rfl (Ag rfl) (Bi rfl rfl rfl rfl rfl noR rfl rfl (Ae fdC rfl rfl) (Bi rfl rfl rfl rfl rfl noR rfl rfl (Ac ldC rfl rfl rfl) ?_));refine G ?_;refine Lg hL (fun tm ht=>Ft rfl rfl rfl rfl rfl _ Hy.refl tm ht) rfl rfl rfl rfl (hC.y a2 F2 f.text σ2 (hok f (ab_ hf)).1 hI2) fun x σ5 hp5 hn5=>?_
    cases hst:st a2 f.text with
    |none=>
     rw[hst]at hp5;obtain⟨hx5,hJ5⟩:=hp5
     have hgo:Iu x=false:=by cases x<;>first|exact absurd rfl hx5|rfl
     rw[hgo];refine TOp 2 ?_;refine Bi rfl rfl rfl rfl rfl noR rfl rfl (Dc rfl) (O1 (A3 rfl rfl rfl) ?_)
     iterate  2 refine G ?_
     refine A0 rfl (fun h3=>?_) gr
     refine G ?_;intro hw9
     refine⟨[],rfl,_,_,a_ hw9 nl (fun _ _=>rfl),by omega,.same rfl,?_⟩
     rw[←cx];simp only[if_true,ay_,bd_,foM,hst]
     exact⟨by omega,x,hx5,hJ5⟩
    |some a5=>
     rw[hst]at hp5;obtain⟨rfl,F5,hI5,hc5⟩:=hp5;refine TOp 2 ?_;refine Bi rfl rfl rfl rfl rfl noR rfl rfl (Dc rfl) (O1 (A3 rfl rfl rfl) ?_)
     iterate  2 refine G ?_
     refine A0 rfl (fun h3=>by cases h3) (fun h3=>?_)
     iterate  5 refine G ?_
     refine⟨(i0+1,a5),gr,SL,gr,F5,hI5,hc2.trans hc5,by omega,?_⟩
     rw[←cx];simp only[if_true,ay_,bd_,foM,hst]
 ·have bj:fs.length<=i0:=bm_.1 (Int.not_lt.1 (fun q=>of_decide_eq_false h1 q))
  rw[ah_ bj]at bu;have bu:some a0=foM st (Vv fs) acc:=bu;refine G ?_;intro hw9
  refine⟨[],rfl,_,_,a_ hw9 nl (fun _ _=>rfl),by omega,.same rfl,?_⟩
  grind
def usF(d:Db)(s:Str)(l:List Str):Bool:=decide ((B1 d l).2=0)&&Hk (B1 d l).1 s
def Ad5(d:Db)(s:Str)(_:Unit)(l:List Str):Option Unit:=if usF d s l=true then none else some ()
theorem Atf{d:Db}{s:Str}:∀(l:List (List Str)),foM (Ad5 d s) l ()=if l.any (usF d s)=true then none else some ()
 |[]=>rfl
 |n::l=>by
  simp only[foM];cases h:usF d s n with
  |true=>rw[show Ad5 d s () n=none from if_pos h,dh_,h];rfl
  |false=>
   rw[show Ad5 d s () n=some ()from if_neg gr,dh_,h,Bool.false_or]
   exact Atf l
def I8(d:Db)(x:Df)(i:Nat):Bool:=((d.frames.drop (i+1)).any fun f=>decide (f.label=x.label))||(Vv (d.frames.take i)).any (usF d x.label)
theorem f171{d:Db}{r:Rs}{P mT:Nat}{σ:Sto}(hD:DbB d)(hvf:d.vars.length+d.frames.length<1000000)(hok:∀f∈d.frames,Acx f.text/\∀h∈f.hyps,Acx h.text)(h:BkS d r P mT σ){i:Nat}(hi:i<d.frames.length)(x:Df):Al Ew 171 [.pr P 0,nV i,.agg (eDf x)] σ fun v σ'=>v=.bool (I8 d x i)/\BkS d r P mT σ'/\PkF mT σ σ':=by
 have hfn:=hD.n;refine gm_ ?_;have hPl:=fun hw:WFS σ=>(hw _ _ h.ob).1
 refine Mo Tryz.func171 (Ke _ _ Tryz.func171) rfl rfl fun hw hu0=>?_
 have hPl:=(hw _ _ h.ob).1
 have hml:mT<nx σ:=by
  obtain⟨M,⟨v,hM⟩,_⟩:=h.mp;exact(hw _ _ hM).1
 have hPm:=h.ne
 iterate  3 refine G ?_
 refine Jv ldC rfl (A7 (F8 x)) rfl (O1 (Bj (n:=nx σ+1) ziC (Bm σ)) ?_);refine G ?_;obtain⟨σ1,hσ1⟩:∃σ1,σ.bump.new (.cells [.bool false])=σ1:=⟨_,rfl⟩;rw[hσ1];have n1:nx σ1=nx σ+2:=gr;have g1:∀b,b<nx σ->σ1.get b=σ.get b:=gr;have r1:σ1.get (nx σ+1)=some (.cells [.bool false]):=gr;have h1:BkS d r P mT σ1:=h.of_get (g1 P hPl) (g1 mT hml)
 iterate  7 refine G ?_
 refine O1 (lO h1.ob) ?_
 iterate  2 refine G ?_
 refine O1 (Uu (enc:=eF) (a:=i+1) elC (fun _=>rfl) rfl rfl Om) ?_
 refine G ?_;refine Ca (f42 (fun f=>decide (f.label=x.label)) (d.frames.drop (i+1)) 204 [.pv (eDf x)] _ gr (fun a _=>f204 a x _)) ?_
 refine G ?_;refine A0 rfl ?_ ?_<;>intro h2
 ·have hu:I8 d x i=true:=by unfold I8;rw[h2];rfl
  iterate  2 refine G ?_
  refine O1 (sO (cs':=[.bool true]) r1) ?_
  iterate  2 refine G ?_
  exact⟨[.bool true],Am (vs:=[.bool true]) (ldC (t:=4)) rfl (by simp only[Sto.cells];grind) rfl rfl,_,σ,am_ hw ⟨gr,gr⟩,nl,.same rfl,by rw[hu];rfl,h,PkF.refl⟩
 ·have hu1:((d.frames.drop (i+1)).any fun f=>decide (f.label=x.label))=false:=h2
  obtain⟨aY,haY⟩:∃aY,nx σ1+1=aY:=⟨_,rfl⟩;obtain⟨σ7,hσ7⟩:∃σ7,σ1.bump.new (.loop .ready)=σ7:=⟨_,rfl⟩;have n7:nx σ7=nx σ+4:=gr;have g7:∀b,b<nx σ1->σ7.get b=σ1.get b:=gr;have y7:σ7.get aY=some (.loop .ready):=gr;have h7:BkS d r P mT σ7:=h1.of_get (g7 P Om) (g7 mT Om);refine G ?_;refine Oo ?_
  iterate  5 refine G ?_
  refine Nm rfl rfl rfl rfl (f205 i Om) ?_
  iterate  2 refine G ?_
  refine L6 rfl (fun tm htm=>?_)
  rw[hσ7,haY]
  refine et_ (f240 (L:=⟨aY,tm,Tryz.f171.ntmps,_,_,_⟩) (d:=d) (r:=r) (P:=P) (mT:=mT) (i:=i) (I:=fun(_:Unit) F τ=>F=(fun _=>False)/\τ.get aY=some (.loop .ready)/\τ.get (nx σ+1)=some (.cells [.bool false])/\aY<nx τ/\BkS d r P mT τ/\∀b,b<nx σ->b≠mT->τ.get b=σ.get b) (J:=fun z τ=>z=.ret/\τ.get aY=some (.loop (H2 .ret))/\τ.get (nx σ+1)=some (.cells [.bool true])/\nx σ+4<=nx τ/\BkS d r P mT τ/\∀b,b<nx σ->b≠mT->τ.get b=σ.get b) (st:=Ad5 d x.label) (ok:=Acx) (ap_ ..) ⟨?ext,?y⟩ (fun f hf=>hok f (cm_ hf)) () (fun _=>False) σ7 h7.ob Om hD.n (fun f hf=>by have:=(hD.f f hf).h;omega) ⟨rfl,y7,gr,by omega,h7,gr⟩) ?post
  case ext=>
   rintro _ F τ τ' ⟨h1,h2,h3,h4,h5,h6⟩ hn hg
   exact⟨h1,gr,gr,by omega,h5.of_get (hg P Om) (hg mT Om),gr⟩
  case y=>
   rintro _ F l τ hol ⟨rfl,hyt,hrt,hlt,hbt,hgt⟩;obtain⟨T,e,hTe⟩:∃T e,B1 d l=(T,e):=⟨_,_,rfl⟩
   obtain⟨lk,kk,hT⟩:∃lk kk,T=.node lk kk:=by cases T;grind
   have htv:En T=.agg [sV lk,slV eT 2 kk]:=by rw[hT];exact Cg lk kk
   have hkb:decide (e=0)=true->KB T:=fun hg=>(Q3 (by rw[hTe,of_decide_eq_true hg])).2.1
   obtain⟨τ1,hτ1⟩:∃τ1,τ.set aY (.loop .busy)=τ1:=⟨_,rfl⟩;have nt1:nx τ1=nx τ:=gr;have gt1:∀b,b≠aY->τ1.get b=τ.get b:=gr;have yt1:τ1.get aY=some (.loop .busy):=gr;have rt1:τ1.get (nx σ+1)=some (.cells [.bool false]):=gr;have hb1:BkS d r P mT τ1:=hbt.of_get (gt1 P Om) (gt1 mT Om)
   have h108:Al Ew 108 [.pr P 0,Af l] τ1 fun v σ'=>v=.tup [.agg [sV lk,slV eT 2 kk],iV e]/\BkS d r P mT σ'/\PkF mT τ1 σ':=by
    have:=f108 hD hvf hb1 hol
    grind
   refine Tk htm rfl Kr Kr Kr hyt gr ?_
   iterate  3 refine G ?_
   refine⟨hyt,?_⟩;rw[show τ.set aY (.loop .busy)=τ1 from hτ1]
   iterate  5 refine G ?_
   refine Az rfl rfl rfl rfl h108 ?_;rintro _ τ2 ⟨rfl,hb2,hf2⟩;have hn2:=hf2.n
   have yt2:τ2.get aY=some (.loop .busy):=by rw[hf2.g aY Om Om];exact yt1
   have rt2:τ2.get (nx σ+1)=some (.cells [.bool false]):=by rw[hf2.g _ Om Om];exact rt1
   have gt2:∀b,b<nx τ->b≠aY->b≠mT->τ2.get b=τ.get b:=fun b q1 q2 q3=>by rw[hf2.g b Om q3,gt1 b q2]
   iterate  11 refine G ?_
   have hus:usF d x.label l=(decide (e=0)&&Hk T x.label):=by unfold usF;rw[hTe]
   cases hg0:decide (e=0)with
   |false=>
    have hl:Ad5 d x.label () l=some ():=by unfold Ad5;grind
    refine Co rfl rfl rfl rfl rfl rfl (Co rfl rfl rfl rfl rfl rfl (Co rfl rfl rfl rfl rfl rfl (Co rfl rfl rfl rfl rfl rfl (O1 (Au rfl rfl rfl) ?_))));refine G ?_;refine A0 rfl gr (fun h3=>?_)
    refine G ?_;refine⟨yt2,?_⟩;rw[hl]
    exact⟨rfl,fun _=>False,⟨rfl,by rw[aa_,if_pos rfl];rfl,gr,gr,hb2.of_get gr gr,gr⟩,⟨gr,fun b h=>.inl h,fun b hb _ h2 _=>by
     rw[aa_]
     split
     ·rename_i e;rw[e];exact hyt.symm
     grind⟩⟩
   |true=>
    have h206:∀σ,Cv 206 [.agg [sV lk,slV eT 2 kk],sV x.label] σ (.bool (Hk T x.label)):=fun σ=>by
     have:=f206 (hkb hg0) x.label σ
     grind
    refine Bi rfl rfl rfl rfl rfl noR rfl rfl (Ac ldC rfl rfl rfl) (Bi rfl rfl rfl rfl rfl noR rfl rfl (Ae fdC rfl rfl) (Bi rfl rfl rfl rfl rfl noR rfl rfl (Ac ldC rfl rfl rfl) (Bh rfl rfl rfl rfl rfl rfl rfl rfl (h206 _) (O1 (A3 rfl rfl rfl) ?_))));refine G ?_;refine A0 rfl ?_ ?_<;>intro h3
    ·have hl:Ad5 d x.label () l=none:=by unfold Ad5;grind
     iterate  2 refine G ?_
     refine O1 (sO (cs':=[.bool true]) rt2) ?_
     iterate  2 refine G ?_
     refine⟨gr,?_⟩;rw[hl]
     exact⟨by simp,rfl,gr,gr,gr,hb2.of_get gr gr,gr⟩
    ·have hl:Ad5 d x.label () l=some ():=by unfold Ad5;grind
     refine G ?_;refine⟨yt2,?_⟩;rw[hl]
     exact⟨rfl,fun _=>False,⟨rfl,by rw[aa_,if_pos rfl];rfl,gr,gr,hb2.of_get gr gr,gr⟩,⟨gr,fun b h=>.inl h,fun b hb _ h2 _=>by
      rw[aa_]
      split
      ·rename_i e;rw[e];exact hyt.symm
      grind⟩⟩
  case post=>
   intro u σ' bh;rw[Atf]at bh
   by_cases hh:(Vv (d.frames.take i)).any (usF d x.label)=true
   ·rw[if_pos hh]at bh;obtain⟨hn,z,_,rfl,hy9,hr9,hn9,hb9,hg9⟩:=bh
    have hu:I8 d x i=true:=by unfold I8;grind
    refine⟨.ret,hy9,fun hw9=>?_⟩
    exact⟨[.bool true],Am (vs:=[.bool true]) (ldC (t:=4)) rfl (by simp only[Sto.cells];grind) rfl rfl,_,_,a_ hw9 nl (fun _ _=>rfl),gr,.same rfl,by rw[hu];rfl,hb9.of_get gr gr,gr,gr⟩
   ·rw[if_neg hh]at bh;obtain⟨F',⟨_,hy9,hr9,hl9,hb9,hg9⟩,ig⟩:=bh
    have hu:I8 d x i=false:=by
     unfold I8
     grind
    have hk9:(σ'.kill aY).get (nx σ+1)=some (.cells [.bool false]):=gr;refine⟨.normal,hy9,?_⟩
    iterate  2 refine G ?_
    refine O1 (sO (cs':=[.bool false]) hk9) ?_
    iterate  2 refine G ?_
    intro hw9
    exact⟨[.bool false],Am (vs:=[.bool false]) (ldC (t:=4)) rfl (by simp only[Sto.cells];grind) rfl rfl,_,_,a_ hw9 nl (fun _ _=>rfl),gr,.same rfl,by rw[hu];rfl,hb9.of_get gr gr,gr,gr⟩
def ftV:AV:=.sv [.fn (.func 171) [] [],iV 213,.fn (.func 172) [] [],iV 214,.fn (.func 173) [] [],iV 215,.fn (.func 174) [] [],iV 216] 2 4 none
theorem f143(σ:Sto):Cv 143 [] σ ftV:=by
 refine Aj Tryz.func143 rfl rfl fun hw hu0=>?_
 refine G10 ?_;refine Cx (Ai elC byW rfl rfl rfl) (Dv (len:=4)) rfl rfl ?_;refine G3 ?_;exact⟨_,rfl,_,_,a_ hw nl (fun _ _=>rfl),nl,.same rfl,rfl,rfl⟩
def zDf:Df:=⟨[],[],[],Ek⟩
def Ki(l:List Str)(s:Str):Bool:=l.any fun x=>decide (s=x)
def Mc(d:Db):List Ax->List Str->Option (List Str)
 |[],a=>some a
 |k::r,a=>if(!vrD d (Mb k)||Ki a (Mb k))=true then none else Mc d r (a++[Mb k])
def Sw(d:Db)(args:List Str)(a:List Str)(n:Ax):List Str:=if((vrD d (Mb n)&& !Ki args (Mb n))&& !Ki a (Mb n))=true then a++[Mb n]else a
def Xh(d:Db)(args:List Str)(t:Ax):List Str:=(Sh t).foldl (Sw d args) []
def Afu:Ax->List Ax
 |.node _ ks=>ks
def M7(d:Db)(left right:Ax):Df×Int:=
 if vrD d (Mb left)=true then(zDf,212)else match Mc d (Afu left) []with
 |none=>(zDf,212)
 |some args=>(⟨Mb left,args,Xh d args right,right⟩,0)
def Vw(d:Db)(r:Rs)(t:Ax):Df×Int:=if(!Ki r.equal (Mb t))=true then(zDf,211)else match Afu t with
 |left::right::_=>M7 d left right
 |_=>(zDf,0)
def Bb(d:Db)(r:Rs)(i:Nat):Df×Int:=match d.frames[i]? with
 |none=>(zDf,5)
 |some f=>if(f.thm|| !Nv f.text)=true then(zDf,13)else if(f.hyps.any fun h=> !h.floating)=true then(zDf,210)else
  if(B1 d f.text).2≠0 then(zDf,(B1 d f.text).2)else Vw d r (B1 d f.text).1
def Ck(d:Db)(r:Rs)(i:Nat):Df×Int:=if(Bb d r i).2≠0 then(zDf,(Bb d r i).2)else
 if I8 d (Bb d r i).1 i=true then(zDf,213)else if Hk (Bb d r i).1.right (Bb d r i).1.label=true then(zDf,214)else
 if(Bb d r i).1.dummies.any (Alv d r)=true then(zDf,215)else match d.frames[i]? with
 |none=>(zDf,5)
 |some f=>if Yf d f (Bb d r i).1=true then(zDf,216)else((Bb d r i).1,0)
def Ip(d:Db)(r:Rs):List (Nat×Df):=(List.range d.frames.length).filterMap fun i=>if(Ck d r i).2=0 then some (i,(Ck d r i).1)else none
theorem Afv{d:Db}:∀(l:List Ax) (a b:List Str),Mc d l a=some b->b.length=a.length+l.length
 |[],a,b,h=>by cases h;simp
 |k::r,a,b,h=>by
  unfold Mc at h
  split at h
  ·cases h
  ·have:=Afv r _ b h;rw[this];simp;omega
theorem An0{d:Db}{args:List Str}:∀(l:List Ax) (a:List Str),(l.foldl (Sw d args) a).length<=a.length+l.length
 |[],a=>by simp
 |n::l,a=>by
  have:=An0 (d:=d) (args:=args) l (Sw d args a n)
  have h2:(Sw d args a n).length<=a.length+1:=by
   unfold Sw
   split
   ·simp
   ·omega
  rw[ct_,as_];omega
mutual
theorem An1:∀t:Ax,(Sh t).length=M6 t
 |.node _ ks=>by rw[Sh,M6,as_,Akb ks];omega
theorem Akb:∀l:List Ax,(Vu l).length=Ach l
 |[]=>rfl
 |t::r=>by rw[Vu,Ach,bx_,An1 t,Akb r]
end
theorem R0{l s:Str}{ks:List Ax}:Hk (.node l ks) s=(decide (l=s)||ks.any fun k=>Hk k s):=by
 have h:∀ks:List Ax,(Vu ks).any (fun n=>decide (Mb n=s))=ks.any fun k=>Hk k s:=by
  intro ks
  induction ks with
  |nil=>rfl
  |cons k r ih=>rw[Vu,List.any_append,dh_,ih];rfl
 unfold Hk;rw[Sh,dh_,h];rfl
theorem Xi{d:Db}{r:Rs}{i:Nat}{x:Df}(h:Ck d r i=(x,0)):Bb d r i=(x,0)/\I8 d x i=false/\Hk x.right x.label=false:=by
 unfold Ck at h
 by_cases h1:(Bb d r i).2≠0
 ·rw[if_pos h1]at h;exact absurd (Prod.mk.inj h).2 h1
 ·rw[if_neg h1]at h;have h1:(Bb d r i).2=0:=Classical.byContradiction h1
  by_cases h2:I8 d (Bb d r i).1 i=true
  ·rw[if_pos h2]at h;exact absurd (Prod.mk.inj h).2 (by decide)
  ·rw[if_neg h2]at h
   by_cases h3:Hk (Bb d r i).1.right (Bb d r i).1.label=true
   ·rw[if_pos h3]at h;exact absurd (Prod.mk.inj h).2 (by decide)
   ·rw[if_neg h3]at h
    by_cases h4:(Bb d r i).1.dummies.any (Alv d r)=true
    ·rw[if_pos h4]at h;exact absurd (Prod.mk.inj h).2 (by decide)
    ·rw[if_neg h4]at h
     split at h
     ·exact absurd (Prod.mk.inj h).2 (by decide)
     ·split at h
      ·exact absurd (Prod.mk.inj h).2 (by decide)
      ·have hx:=(Prod.mk.inj h).1;rw[hx]at h2 h3;refine⟨Prod.ext hx h1,?_,?_⟩
       ·cases hq:I8 d x i with
        |false=>rfl
        |true=>exact absurd hq h2
       ·cases hq:Hk x.right x.label with
        |false=>rfl
        |true=>exact absurd hq h3
def eFt(x:Nat×Int):List AV:=[.fn (.func x.1) [] [],iV x.2]
def fts:List (Nat×Int):=[(171,213),(172,214),(173,215),(174,216)]
theorem f143s(σ:Sto):Cv 143 [] σ (slV eFt 2 fts):=f143 σ
theorem f101{d:Db}{r:Rs}{P mT:Nat}{σ:Sto}(hD:DbB d)(hvf:d.vars.length+d.frames.length<1000000)(hok:∀f∈d.frames,Acx f.text/\∀h∈f.hyps,Acx h.text)(hne:Pne d)(hrb:r.bound.length<=1000000)(h:BkS d r P mT σ){i:Nat}{f:Fr}(hfr:d.frames[i]? =some f)(hi:i<d.frames.length)(hap:f.apart.length<=1000000)
  (hxb:∀x,Bb d r i=(x,0)->KB x.right/\x.args.length<=10000/\x.dummies.length<=10000)(h53:∀σ,BkS d r P mT σ->Al Ew 53 [.pr P 0,nV i] σ fun v σ'=>v=.tup [.agg (eDf (Bb d r i).1),iV (Bb d r i).2]/\BkS d r P mT σ'/\PkF mT σ σ'):
  Al Ew 101 [.pr P 0,nV i] σ fun v σ'=>v=.tup [.agg (eDf (Ck d r i).1),iV (Ck d r i).2]/\BkS d r P mT σ'/\PkF mT σ σ':=by
 have hiN:i<1000000:=gr;refine Aj Tryz.func101 rfl rfl fun hw hu0=>?_
 have hPl:=(hw _ _ h.ob).1
 have hml:mT<nx σ:=by
  obtain⟨M,⟨v,hM⟩,_⟩:=h.mp;exact(hw _ _ hM).1
 refine G2 ?_;refine O1 (Bu ziC) ?_;refine G2 ?_;obtain⟨σ1,hσ1⟩:∃σ1,σ.new (.cells z5)=σ1:=⟨_,rfl⟩;rw[hσ1];have n1:nx σ1=nx σ+1:=gr;have g1:∀b,b<nx σ->σ1.get b=σ.get b:=gr;have r1:σ1.get (nx σ)=some (.cells z5):=gr;have h1:BkS d r P mT σ1:=h.of_get (g1 P hPl) (g1 mT hml);obtain⟨x,e,hx⟩:∃x e,Bb d r i=(x,e):=⟨_,_,rfl⟩;have h53:=h53 σ1 h1;rw[hx]at h53;refine G4 ?_;refine Az rfl rfl rfl rfl h53 ?_;rintro _ σ2 ⟨rfl,h2,f2⟩;have n2:=f2.n
 have r2:σ2.get (nx σ)=some (.cells z5):=by rw[f2.g _ Om Om];exact r1
 refine G3 ?_;refine Ho ziC ldC rfl (fun _=>rfl) rfl (A7 (F8 x)) rfl rfl ?_
 refine G2 ?_
 have key:∀τ:Sto,BkS d r P mT τ->PkF mT σ1 τ->BkS d r P mT (τ.set (nx σ) (.cells z5))/\PkF mT σ (τ.set (nx σ) (.cells z5)):=fun τ hb hf=>by
  have hn:=hf.n
  exact⟨hb.of_get gr gr,gr,fun b q1 q2=>by rw[aa_,if_neg Om,hf.g b Om q2];exact g1 b q1⟩
 have hc0:Ck d r i=if e≠0 then(zDf,e)else if I8 d x i=true then(zDf,213)else if Hk x.right x.label=true then(zDf,214)else
   if x.dummies.any (Alv d r)=true then(zDf,215)else if Yf d f x=true then(zDf,216)else(x,0):=by
  unfold Ck;rw[hx,hfr]
 refine G6 ?_;refine Ab rfl ?_ ?_<;>intro h3
 ·have he:e≠0:=gr;have hr:Ck d r i=(zDf,e):=gr;refine G4 ?_;refine O1 (sO (cs':=z5) r2) ?_;refine G2 ?_;refine Bo fun hw9=>?_
  refine G ?_
  exact⟨[.agg z5,_],Am (vs:=z5) (ldC (t:=41)) rfl (by simp only[Sto.cells];grind) rfl (Ba rfl rfl),.tup [.agg [sV [],.sv [] 1 0 none,.sv [] 1 0 none,sV [],.sv [] 2 0 none],_],_,a_ hw9 nl (fun _ _=>rfl),gr,.tup (.cons (.agg (.cons (.same rfl) (.cons (.nils gr) (.cons (.nils gr) (.cons (.same rfl) (.cons (.nils gr) .nil)))))) (.cons (.same rfl) .nil)),by rw[hr];rfl,(key σ2 h2 f2).1,(key σ2 h2 f2).2⟩
 ·have he:e=0:=gr;rw[if_neg (fun q=>q he)]at hc0
  obtain⟨hkb,hal,hdl⟩:=hxb x (by rw[hx,he])
  refine G4 ?_;refine Ca (f143s _) ?_;refine G4 ?_
  refine Ci (fun q:Nat=>[(0,.pr P 0),(1,nV i),(4,.pr (nx σ) 0),(6,.pv (eDf x)),(20,slV eFt 2 fts),(21,nV 4),(22,nV q)]) (fun q τ=>q<=4/\BkS d r P mT τ/\PkF mT σ1 τ/\(1<=q->I8 d x i=false)/\(2<=q->Hk x.right x.label=false)/\(3<=q->x.dummies.any (Alv d r)=false)/\(4<=q->Yf d f x=false)) (fun q=>4-q) 0 SL ⟨by omega,h2,f2,gr,gr,gr,gr⟩ ?_
  rintro q τ ⟨hq,hb,hf,k1,k2,k3,k4⟩;have hnf:=hf.n
  have rτ:τ.get (nx σ)=some (.cells z5):=by rw[hf.g _ Om Om];exact r1
  refine G5 ?_;refine Ab rfl ?_ ?_<;>intro h4
  ·have hq4:q<4:=Int.ofNat_lt.1 (of_decide_eq_true h4);refine G3 ?_
   match q,hq4,k1,k2,k3,k4 with
   |0,_,k1,k2,k3,k4=>
    refine G2 ?_;refine O1 (A1 elC (fun _=>rfl) rfl rfl (show fts[0]? =some (171,213)from rfl)) ?_
    refine G9 ?_
    refine O1 (Ac ldC rfl rfl (show Cz 5 true (eDf x)=some (.agg (eDf x))from by have:=A6 (F8 x) [];grind)) ?_
    refine Az rfl rfl rfl rfl (f171 hD hvf hok hb hi x) ?_;rintro _ τ' ⟨rfl,hb',hf3⟩;refine G ?_;have hf':=hf.trans hf3
    have r':τ'.get (nx σ)=some (.cells z5):=by rw[hf'.g _ Om Om];exact r1
    refine Ab rfl ?_ ?_<;>intro h5
    ·have hr:Ck d r i=(zDf,213):=gr;refine G ?_;refine L4 (Rr:=Dk []) (anns:=[⟨.pure,0,0⟩,⟨.pure,0,1⟩,⟨.read,0,1⟩,⟨.eff,0,1⟩,⟨.pure,1,1⟩]) Di (Bw (l:=[]) trivial) Kr ?_;refine G3 ?_;refine DT (sO (cs':=z5) r') ?_;refine G2 ?_;refine⟨⟨trivial,trivial,(fun s hs=>⟨_,Ac (ldC (t:=32)) rfl rfl rfl⟩),trivial,trivial,trivial⟩,?_⟩
     refine Bo fun hw9=>?_
     refine G ?_
     exact⟨[.agg z5,_],Am (vs:=z5) (ldC (t:=41)) rfl (by simp only[Sto.cells];grind) rfl (Ba rfl rfl),.tup [.agg [sV [],.sv [] 1 0 none,.sv [] 1 0 none,sV [],.sv [] 2 0 none],_],_,a_ hw9 nl (fun _ _=>rfl),by rw[Aq];have:=hf'.n;omega,.tup (.cons (.agg (.cons (.same rfl) (.cons (.nils gr) (.cons (.nils gr) (.cons (.same rfl) (.cons (.nils gr) .nil)))))) (.cons (.same rfl) .nil)),by rw[hr];rfl,(key τ' hb' hf').1,(key τ' hb' hf').2⟩
    ·refine G5 ?_
     exact⟨1,by omega,SL,by omega,hb',hf',fun _=>h5,gr,gr,gr⟩
   |1,_,k1,k2,k3,k4=>
    refine G2 ?_;refine O1 (A1 elC (fun _=>rfl) rfl rfl (show fts[1]? =some (172,214)from rfl)) ?_
    refine G9 ?_
    refine O1 (Ac ldC rfl rfl (show Cz 5 true (eDf x)=some (.agg (eDf x))from by have:=A6 (F8 x) [];grind)) ?_
    refine Az rfl rfl rfl rfl (f172 P i hkb _) ?_;rintro _ τ' ⟨rfl,rfl⟩;refine G ?_;have hb':=hb;have hf':=hf;have r':=rτ;refine Ab rfl ?_ ?_<;>intro h5
    ·have hr:Ck d r i=(zDf,214):=gr;refine G ?_;refine L4 (Rr:=Dk []) (anns:=[⟨.pure,0,0⟩,⟨.pure,0,1⟩,⟨.read,0,1⟩,⟨.eff,0,1⟩,⟨.pure,1,1⟩]) Di (Bw (l:=[]) trivial) Kr ?_;refine G3 ?_;refine DT (sO (cs':=z5) r') ?_;refine G2 ?_;refine⟨⟨trivial,trivial,(fun s hs=>⟨_,Ac (ldC (t:=32)) rfl rfl rfl⟩),trivial,trivial,trivial⟩,?_⟩
     refine Bo fun hw9=>?_
     refine G ?_
     exact⟨[.agg z5,_],Am (vs:=z5) (ldC (t:=41)) rfl (by simp only[Sto.cells];grind) rfl (Ba rfl rfl),.tup [.agg [sV [],.sv [] 1 0 none,.sv [] 1 0 none,sV [],.sv [] 2 0 none],_],_,a_ hw9 nl (fun _ _=>rfl),gr,.tup (.cons (.agg (.cons (.same rfl) (.cons (.nils gr) (.cons (.nils gr) (.cons (.same rfl) (.cons (.nils gr) .nil)))))) (.cons (.same rfl) .nil)),by rw[hr];rfl,(key τ' hb' hf').1,(key τ' hb' hf').2⟩
    ·refine G5 ?_
     exact⟨2,by omega,SL,by omega,hb',hf',fun _=>k1 Om,fun _=>h5,gr,gr⟩
   |2,_,k1,k2,k3,k4=>
    refine G2 ?_;refine O1 (A1 elC (fun _=>rfl) rfl rfl (show fts[2]? =some (173,215)from rfl)) ?_
    refine G9 ?_
    refine O1 (Ac ldC rfl rfl (show Cz 5 true (eDf x)=some (.agg (eDf x))from by have:=A6 (F8 x) [];grind)) ?_
    refine Az rfl rfl rfl rfl (f173 hb.ob hrb i Om) ?_;rintro _ τ' ⟨rfl,rfl⟩;refine G ?_;have hb':=hb;have hf':=hf;have r':=rτ;refine Ab rfl ?_ ?_<;>intro h5
    ·have hr:Ck d r i=(zDf,215):=gr;refine G ?_;refine L4 (Rr:=Dk []) (anns:=[⟨.pure,0,0⟩,⟨.pure,0,1⟩,⟨.read,0,1⟩,⟨.eff,0,1⟩,⟨.pure,1,1⟩]) Di (Bw (l:=[]) trivial) Kr ?_;refine G3 ?_;refine DT (sO (cs':=z5) r') ?_;refine G2 ?_;refine⟨⟨trivial,trivial,(fun s hs=>⟨_,Ac (ldC (t:=32)) rfl rfl rfl⟩),trivial,trivial,trivial⟩,?_⟩
     refine Bo fun hw9=>?_
     refine G ?_
     exact⟨[.agg z5,_],Am (vs:=z5) (ldC (t:=41)) rfl (by simp only[Sto.cells];grind) rfl (Ba rfl rfl),.tup [.agg [sV [],.sv [] 1 0 none,.sv [] 1 0 none,sV [],.sv [] 2 0 none],_],_,a_ hw9 nl (fun _ _=>rfl),gr,.tup (.cons (.agg (.cons (.same rfl) (.cons (.nils gr) (.cons (.nils gr) (.cons (.same rfl) (.cons (.nils gr) .nil)))))) (.cons (.same rfl) .nil)),by rw[hr];rfl,(key τ' hb' hf').1,(key τ' hb' hf').2⟩
    ·refine G5 ?_
     exact⟨3,by omega,SL,by omega,hb',hf',fun _=>k1 Om,fun _=>k2 Om,fun _=>h5,gr⟩
   |3,_,k1,k2,k3,k4=>
    refine G2 ?_;refine O1 (A1 elC (fun _=>rfl) rfl rfl (show fts[3]? =some (174,216)from rfl)) ?_
    refine G9 ?_
    refine O1 (Ac ldC rfl rfl (show Cz 5 true (eDf x)=some (.agg (eDf x))from by have:=A6 (F8 x) [];grind)) ?_
    refine Az rfl rfl rfl rfl (f174 hb.ob hne hfr hap hal Om) ?_;rintro _ τ' ⟨rfl,rfl⟩;refine G ?_;have hb':=hb;have hf':=hf;have r':=rτ;refine Ab rfl ?_ ?_<;>intro h5
    ·have hr:Ck d r i=(zDf,216):=gr;refine G ?_;refine L4 (Rr:=Dk []) (anns:=[⟨.pure,0,0⟩,⟨.pure,0,1⟩,⟨.read,0,1⟩,⟨.eff,0,1⟩,⟨.pure,1,1⟩]) Di (Bw (l:=[]) trivial) Kr ?_;refine G3 ?_;refine DT (sO (cs':=z5) r') ?_;refine G2 ?_;refine⟨⟨trivial,trivial,(fun s hs=>⟨_,Ac (ldC (t:=32)) rfl rfl rfl⟩),trivial,trivial,trivial⟩,?_⟩
     refine Bo fun hw9=>?_
     refine G ?_
     exact⟨[.agg z5,_],Am (vs:=z5) (ldC (t:=41)) rfl (by simp only[Sto.cells];grind) rfl (Ba rfl rfl),.tup [.agg [sV [],.sv [] 1 0 none,.sv [] 1 0 none,sV [],.sv [] 2 0 none],_],_,a_ hw9 nl (fun _ _=>rfl),gr,.tup (.cons (.agg (.cons (.same rfl) (.cons (.nils gr) (.cons (.nils gr) (.cons (.same rfl) (.cons (.nils gr) .nil)))))) (.cons (.same rfl) .nil)),by rw[hr];rfl,(key τ' hb' hf').1,(key τ' hb' hf').2⟩
    ·refine G5 ?_
     exact⟨4,by omega,SL,by omega,hb',hf',fun _=>k1 Om,fun _=>k2 Om,fun _=>k3 Om,fun _=>h5⟩
  ·have hq4:q=4:=gr;subst hq4;have hr:Ck d r i=(x,0):=gr;refine G3 ?_
   refine O1 (Ac ldC rfl rfl (show Cz 5 true (eDf x)=some (.agg (eDf x))from by have:=A6 (F8 x) [];grind)) ?_
   refine O1 (G1 (cs':=eDf x) rτ ldC rfl rfl (A7 (F8 x)) (Hh (F8 x))) ?_;refine G2 ?_;refine Bo fun hw9=>?_
   refine G ?_
   exact⟨[.agg (eDf x),_],Am (vs:=eDf x) (ldC (t:=41)) rfl (by simp only[Sto.cells];grind) (show Cz 5 true (eDf x)=some (.agg (eDf x))from by have:=A6 (F8 x) [];grind) (Ba rfl rfl),_,_,a_ hw9 nl (fun _ _=>rfl),gr,.same (by
    have h1:AV.unds (nx (τ.set (nx σ) (.cells (eDf x)))) (eDf x)=true:=Uz (by
     show(true&&(AV.und _ (Af x.args)&&(AV.und _ (Af x.dummies)&&true)))=true
     rw[show AV.und _ (Af x.args)=true from Fv D9 _,show AV.und _ (Af x.dummies)=true from Fv D9 _];rfl) (Es _)
    show(AV.unds _ (eDf x)&&(true&&true))=true
    rw[h1];rfl),by rw[hr];rfl,hb.of_get gr gr,gr,fun b q1 q2=>by rw[aa_,if_neg Om,hf.g b Om q2];exact g1 b q1⟩
theorem f56o{l:List Str}{s:Str}{v:AV}{N:Nat}{σ:Sto}(bf:Own σ N e1 1 l v)(hb:l.length<=1000000):Al Ew 56 [v,sV s] σ fun u σ'=>∃n:Int,u=iV n/\decide (0<=n)=Ki l s/\σ'=σ:=by
 refine Aj Tryz.func56 rfl rfl fun hw hu0=>?_
 refine G8 ?_;refine O1 (Bf slC rfl bf.lenA.1 bf.lenA.2) ?_;refine G3 ?_
 refine Bz l.length (fun i0=>[(0,v),(1,sV s),(7,nV l.length),(8,nV i0)]) (fun i0 σ0=>σ0=σ/\∀x∈l.take i0,s≠x) SL ⟨rfl,fun x h=>by simp at h⟩ ?_
 rintro i0 σ0 hi0 ⟨rfl,hz0⟩;refine G5 ?_;refine Ab rfl ?_ ?_<;>intro h1
 ·have bc:i0<l.length:=Int.ofNat_lt.1 (of_decide_eq_true h1);obtain⟨x,hx⟩:=Ar bc;have htk:=List.take_add_one (l:=l) (i:=i0);rw[hx]at htk;obtain⟨a,tl,_,_,rfl,hg⟩:=bf.sr bc
  iterate 13 refine G ?_
  refine O1 (Br elC rfl rfl bc) (O1 (Dg (enc:=e1) e1L ldC rfl hg hx fun _=>rfl) ?_)
  refine G2 ?_;refine Ab rfl ?_ ?_<;>intro h2
  ·have hm:Ki l s=true:=e_.2 ⟨x,ab_ hx,h2⟩;refine G6 ?_
   exact⟨_,rfl,_,_,a_ hw nl (fun _ _=>rfl),nl,.same rfl,Int.ofNat i0,rfl,by rw[hm];exact decide_eq_true (Int.natCast_nonneg i0),rfl⟩
  ·have hne:s≠x:=of_decide_eq_false h2;refine G5 ?_;refine⟨bc,SL,rfl,fun u hu=>?_⟩
   rw[htk]at hu
   rcases bb_.1 hu with hu|hu
   ·exact hz0 u hu
   ·simp at hu;subst hu;exact hne
 ·have bj:l.length<=i0:=bm_.1 (Int.not_lt.1 (fun q=>of_decide_eq_false h1 q))
  rw[at_ bj]at hz0
  have hm:Ki l s=false:=dv_.2 fun x hx=>by simp[hz0 x hx]
  refine G6 ?_
  exact⟨_,rfl,_,_,a_ hw nl (fun _ _=>rfl),nl,.same rfl,-1,rfl,by rw[hm];rfl,rfl⟩
theorem f15o{l:List Str}{s:Str}{v:AV}{N:Nat}{σ:Sto}(bf:Own σ N e1 1 l v)(hb:l.length<=1000000):Al Ew 15 [v,sV s] σ fun u σ'=>u=.bool (Ki l s)/\σ'=σ:=by
 refine Aj Tryz.func15 rfl rfl fun hw hu0=>?_
 refine G8 ?_;refine Az rfl rfl rfl rfl (f56o bf hb) ?_;rintro _ _ ⟨n,rfl,hn,rfl⟩;refine G4 ?_;exact⟨_,rfl,_,_,a_ hw nl (fun _ _=>rfl),nl,.same rfl,congrArg AV.bool hn,rfl⟩
end Go.AM
