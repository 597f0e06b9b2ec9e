/- A part of the proof; shortened by program. -/
import Derived.Test.YtmkaboegdoadhaaGreatDoorP14
set_option maxRecDepth 100000
set_option maxHeartbeats 4000000
set_option linter.unusedSimpArgs false
set_option linter.unusedVariables false
namespace Go.AM
open Go Go.Proofs
theorem Ha{α p}:∀(l:List α) (i:Nat),(A5 p l i= -1/\∀a∈l,p a=false)∨∃n a,A5 p l i=Int.ofNat (i+n)/\l[n]? =some a/\p a=true/\∀b∈l.take n,p b=false
 |[],i=>.inl ⟨rfl,gr⟩
 |a::r,i=>by
  unfold A5;cases hp:p a with
  |true=>exact .inr ⟨0,a,rfl,rfl,hp,gr⟩
  |false=>
   rcases Ha (p:=p) r (i+1)with⟨h1,h2⟩|⟨n,b,h1,h2,h3,h4⟩
   ·grind
   ·refine .inr ⟨n+1,b,gr,gr,h3,fun c hc=>?_⟩
    grind
def Eo{α:Type}(p:α->Bool)(l:List α):List α:=l.filter fun x=> !p x
theorem Ab3{α p}{l:List α}(h:∀a∈l,p a=false):Eo p l=l:=er_.2 gr
theorem Ru{α p l}{a:α}:Eo p (l++[a])=Eo p l++(if p a then[]else[a]):=by
 unfold Eo;grind
theorem H0{α p}{l:List α}:(Eo p l).length<=l.length:=ee_ _ _
structure Vc {α:Type}(p:α->Bool)(l c:List α)(j:Nat):Prop where
 len:c.length=l.length
 fst:c.take (Eo p (l.take j)).length=Eo p (l.take j)
 snd:c.drop j=l.drop j
theorem Vc.start{α p l n}{a:α}(h1:l[n]? =some a)(h2:p a=true)(h3:∀b∈l.take n,p b=false):(Eo p (l.take (n+1))).length=n/\Vc p l l (n+1):=by
 have h:Eo p (l.take (n+1))=l.take n:=by rw[Fw h1,Ru,Ab3 h3,if_pos h2,bh_]
 have hn:=(ae_.1 h1).1;have h4:(Eo p (l.take (n+1))).length=n:=gr
 exact⟨h4,rfl,by rw[h4,h],rfl⟩
theorem Vc.at{α p}{l c:List α}{j}(h:Vc p l c j):c[j]? =l[j]? :=by
 have:=congrArg (fun k:List α=>k[0]?) h.snd
 grind
theorem Vc.out{α p l c j}{a:α}(h:Vc p l c j)(ha:l[j]? =some a)(hp:p a=true):(Eo p (l.take (j+1))).length=(Eo p (l.take j)).length/\Vc p l c (j+1):=by
 have h1:Eo p (l.take (j+1))=Eo p (l.take j):=by rw[Fw ha,Ru,if_pos hp,bh_]
 refine⟨by rw[h1],h.len,by rw[h1];exact h.fst,?_⟩
 have:=congrArg (List.drop 1) h.snd
 simpa[eo_,fz_]using this
theorem Vc.keep{α p l c j}{a:α}(h:Vc p l c j)(ha:l[j]? =some a)(hp:p a=false):
  (Eo p (l.take (j+1))).length=(Eo p (l.take j)).length+1/\(Eo p (l.take j)).length<c.length/\Vc p l (c.set (Eo p (l.take j)).length a) (j+1):=by
 have hj:=(ae_.1 ha).1
 have h1:Eo p (l.take (j+1))=Eo p (l.take j)++[a]:=by rw[Fw ha,Ru,if_neg (by simp[hp])]
 have hw:(Eo p (l.take j)).length<=j:=ai_ H0 gr
 have hlt:(Eo p (l.take j)).length<c.length:=by rw[h.len];omega
 refine⟨gr,hlt,by rw[dc_];exact h.len,?_,?_⟩
 ·rw[h1,bx_,fh_,Fw (a:=a) gr,List.take_set_of_le nl,h.fst]
 ·rw[List.drop_set_of_lt Om];have:=congrArg (List.drop 1) h.snd
  simpa[eo_,fz_]using this
theorem f98o(p l a tl k cap σ)(hb:l.length<1000000)(hg:σ.get a=some (.cells (l.flatMap eH++tl)))(hk:∀x∈l,Al Ew k ([.agg (eH x)]++cap) σ fun v σ'=>v=.bool (p x)/\σ'=σ):Cv 98 [.sr a 0 3 l.length none,.fn (.func k) [] cap] σ (iV (A5 p l 0)):=by
 refine Aj Tryz.func98 rfl rfl fun hw hu0=>?_
 refine G8 ?_;refine O1 (Bf slC rfl rfl rfl) ?_;refine G3 ?_;refine Bz l.length (fun i0=>[(0,.sr a 0 3 l.length none),(1,.fn (.func k) [] cap),(7,iV (.ofNat l.length)),(8,iV (.ofNat i0))]) (fun i0 σ0=>σ0=σ/\A5 p l 0=A5 p (l.drop i0) i0) SL ⟨rfl,rfl⟩ ?_
 rintro i0 σ0 hi0 ⟨rfl,hf0⟩;refine G5 ?_;refine Ab rfl ?_ ?_<;>intro h1
 ·have bc:i0<l.length:=gr;obtain⟨a0,ha0⟩:=Ar bc;have hd0:=A4 ha0
  iterate 13 refine G ?_
  refine O1 (Br elC rfl rfl bc) (O1 (Dg (enc:=eH) (v:=.agg (eH a0)) (fun _=>rfl) ldC rfl hg ha0 (fun _=>rfl)) ?_)
  refine Ca (hk a0 (ab_ ha0)) ?_;refine G ?_;refine Ab rfl ?_ ?_<;>intro h2
  ·refine G6 ?_;refine B4 hw rfl ?_
   exact(by rw[hf0,hd0];simp only[A5,h2,cond_true];rfl)
  ·refine G5 ?_
   refine⟨bc,SL,rfl,by rw[hf0,hd0];simp only[A5,h2,cond_false]⟩
 ·have bj:l.length<=i0:=gr;refine G6 ?_;refine B4 hw rfl ?_
  exact(by rw[hf0,ah_ bj];rfl)
theorem f223e(k:Nat)(cap v₀)(hv:v₀=nS∨v₀=.sv [] 3 0 (some 0))(σ):Cv 223 [v₀,.fn (.func k) [] cap] σ v₀:=by
 refine Aj Tryz.func223 rfl rfl fun hw hu0=>?_
 refine G8 ?_
 refine Nm rfl rfl rfl rfl ((f98 (fun _=>false) [] k cap σ (by simp) gr).wk (.cons (by rcases hv with rfl|rfl<;>first|exact Agy|exact Dv) .refl)) ?_
 refine G6 ?_;refine O1 (H4 (q:=(-1)) okC rfl rfl) ?_;refine G ?_;refine Ab rfl ?_ ?_<;>intro h1
 ·refine G6 ?_
  exact⟨_,rfl,_,_,a_ hw nl (fun _ _=>rfl),nl,.same (by rcases hv with rfl|rfl<;>rfl),rfl,rfl⟩
 ·exact absurd h1 (by simp[A5])
theorem f223o(p l a N tl k cap σ)(hb:l.length<1000000)(hN:N<=a)(hg:σ.get a=some (.cells (l.flatMap eH++tl)))(hk:∀x∈l,∀τ,(∀b,b<N->τ.get b=σ.get b)->nx τ=nx σ->Al Ew k ([.agg (eH x)]++cap) τ fun v σ'=>v=.bool (p x)/\σ'=τ):Al Ew 223 [.sr a 0 3 l.length none,.fn (.func k) [] cap] σ fun v σ'=>Own σ' N eH 3 (Eo p l) v/\Below N σ σ':=by
 refine Aj Tryz.func223 rfl rfl fun hw hu0=>?_
 have gd:=(hw _ _ hg).1;refine G8 ?_;refine Ca (f98o p l a tl k cap _ hb hg (fun x hx=>hk x hx _ (fun _ _=>rfl) rfl)) ?_
 refine G6 ?_;refine O1 (H4 (q:=(-1)) okC rfl rfl) ?_;refine G ?_;refine Ab rfl ?_ ?_<;>intro h1
 ·refine G5 ?_;obtain hs:Eo p l=l:=Ab3 ((Ha (p:=p) l 0).resolve_right gr).2;refine G ?_
  exact⟨_,rfl,_,_,a_ hw nl (fun _ _=>rfl),nl,.same (Ce gd),.inr ⟨a,tl,hN,gd,by rw[hs];rfl,gr⟩,.rfl'⟩
 ·rcases Ha (p:=p) l 0 with⟨hf,hno⟩|⟨n,x,hf,hx,hpx,hpb⟩
  ·grind
  obtain⟨hst,jw⟩:=Vc.start hx hpx hpb;have hn:=(ae_.1 hx).1;rw[hf,bn_];refine G9 ?_;refine Ci (fun q:Nat×Nat=>[(0,.sr a 0 3 l.length none),(1,.fn (.func k) [] cap),(5,iV (.ofNat q.2)),(6,iV (.ofNat q.1))])
   (fun q σ0=>q.1<=l.length/\q.2=(Eo p (l.take q.1)).length/\nx σ0=nx σ/\(∀b,b≠a->σ0.get b=σ.get b)/\∃c,Vc p l c q.1/\σ0.get a=some (.cells (c.flatMap eH++tl))) (fun q=>l.length-q.1) (n+1,n) SL ⟨hn,hst.symm,rfl,fun _ _=>rfl,l,jw,hg⟩ ?_
  rintro⟨j,w⟩ σ0 ⟨hjl,hw0,hnx,dq,c,hdi,hc⟩;simp only at hjl hw0 hdi;refine G5 ?_;refine O1 (Bf slC rfl rfl rfl) ?_;refine G2 ?_;refine Ab rfl ?_ ?_<;>intro h2
  ·have bc:j<l.length:=gr;obtain⟨b,hb0⟩:=Ar bc;have hcb:=hdi.at.trans hb0
   have hwl:w<=j:=by rw[hw0];exact ai_ H0 gr
   refine G7 ?_;refine O1 (Br elC rfl rfl bc) (O1 (Dg (enc:=eH) (v:=.agg (eH b)) (fun _=>rfl) ldC rfl hc hcb (fun _=>rfl)) ?_)
   refine G6 ?_;refine Ca (hk b (ab_ hb0) σ0 (fun b' hb'=>dq b' Om) hnx) ?_
   refine G2 ?_;refine Ab rfl ?_ ?_<;>intro h3
   ·have h4:p b=false:=gr;obtain⟨e1,e2,e3⟩:=hdi.keep hb0 h4;rw[←hw0]at e1 e2 e3;refine G5 ?_;refine O1 (Br elC rfl rfl Om) ?_;refine O1 (Tb (enc:=eH) (u:=b) (fun _=>rfl) ldC rfl rfl rfl hc e2) ?_
    refine G11 ?_;refine⟨(j+1,w+1),gr,SL,bc,e1.symm,gr,gr,c.set w b,e3,gr⟩
   ·have h4:p b=true:=gr;obtain⟨e1,e2⟩:=hdi.out hb0 h4;rw[←hw0]at e1;refine G6 ?_;refine⟨(j+1,w),gr,SL,bc,e1.symm,hnx,dq,c,e2,hc⟩
  ·have bj:j=l.length:=gr
   have hwl:w<=l.length:=by rw[hw0];exact ai_ H0 gr
   refine G5 ?_
   refine O1 (Aim elC rfl rfl hwl) (O1 (Aez (enc:=eH) (l:=c) (b:=w) (fun _=>rfl) elC rfl rfl hc (by rw[hdi.len];omega)) ?_)
   refine G5 ?_;refine O1 (Uv elC rfl rfl hwl) ?_;refine G2 ?_;have hs:Eo p (l.take j)=Eo p l:=gr;rw[hs]at hw0;have jx:=hdi.fst;rw[hs,←hw0]at jx;refine Bo fun hw'=>?_
   refine G ?_
   refine⟨_,rfl,_,_,a_ hw' nl (fun _ _=>rfl),ef_ gr,.same (Ce gr),.inr ⟨a,rep [.str [],.bool false,nS] (l.length-w)++tl,hN,gr,by rw[←hw0];rfl,?_⟩,⟨ef_ gr,gr⟩⟩
   grind
theorem f288o(p l a tl k cap σ)(hb:l.length<1000000)(hg:σ.get a=some (.cells (l.flatMap eP++tl)))(hk:∀x∈l,Al Ew k ([.agg (eP x)]++cap) σ fun v σ'=>v=.bool (p x)/\σ'=σ):Cv 288 [.sr a 0 2 l.length none,.fn (.func k) [] cap] σ (iV (A5 p l 0)):=by
 refine Aj Tryz.func288 rfl rfl fun hw hu0=>?_
 refine G8 ?_;refine O1 (Bf slC rfl rfl rfl) ?_;refine G3 ?_;refine Bz l.length (fun i0=>[(0,.sr a 0 2 l.length none),(1,.fn (.func k) [] cap),(7,iV (.ofNat l.length)),(8,iV (.ofNat i0))]) (fun i0 σ0=>σ0=σ/\A5 p l 0=A5 p (l.drop i0) i0) SL ⟨rfl,rfl⟩ ?_
 rintro i0 σ0 hi0 ⟨rfl,hf0⟩;refine G5 ?_;refine Ab rfl ?_ ?_<;>intro h1
 ·have bc:i0<l.length:=gr;obtain⟨a0,ha0⟩:=Ar bc;have hd0:=A4 ha0
  iterate 13 refine G ?_
  refine O1 (Br elC rfl rfl bc) (O1 (Dg (enc:=eP) (v:=.agg (eP a0)) (fun _=>rfl) ldC rfl hg ha0 (fun _=>rfl)) ?_)
  refine Ca (hk a0 (ab_ ha0)) ?_;refine G ?_;refine Ab rfl ?_ ?_<;>intro h2
  ·refine G6 ?_;refine B4 hw rfl ?_
   exact(by rw[hf0,hd0];simp only[A5,h2,cond_true];rfl)
  ·refine G5 ?_
   refine⟨bc,SL,rfl,by rw[hf0,hd0];simp only[A5,h2,cond_false]⟩
 ·have bj:l.length<=i0:=gr;refine G6 ?_;refine B4 hw rfl ?_
  exact(by rw[hf0,ah_ bj];rfl)
theorem f272e(k:Nat)(cap v₀)(hv:v₀=nS∨v₀=.sv [] 2 0 (some 0))(σ):Cv 272 [v₀,.fn (.func k) [] cap] σ v₀:=by
 refine Aj Tryz.func272 rfl rfl fun hw hu0=>?_
 refine G8 ?_
 refine Nm rfl rfl rfl rfl ((f288 (fun _=>false) [] k cap σ (by simp) gr).wk (.cons (by rcases hv with rfl|rfl<;>first|exact Agy|exact Dv) .refl)) ?_
 refine G6 ?_;refine O1 (H4 (q:=(-1)) okC rfl rfl) ?_;refine G ?_;refine Ab rfl ?_ ?_<;>intro h1
 ·refine G6 ?_
  exact⟨_,rfl,_,_,a_ hw nl (fun _ _=>rfl),nl,.same (by rcases hv with rfl|rfl<;>rfl),rfl,rfl⟩
 ·exact absurd h1 (by simp[A5])
theorem f272o(p l a N tl k cap σ)(hb:l.length<1000000)(hN:N<=a)(hg:σ.get a=some (.cells (l.flatMap eP++tl)))(hk:∀x∈l,∀τ,(∀b,b<N->τ.get b=σ.get b)->nx τ=nx σ->Al Ew k ([.agg (eP x)]++cap) τ fun v σ'=>v=.bool (p x)/\σ'=τ):Al Ew 272 [.sr a 0 2 l.length none,.fn (.func k) [] cap] σ fun v σ'=>Own σ' N eP 2 (Eo p l) v/\Below N σ σ':=by
 refine Aj Tryz.func272 rfl rfl fun hw hu0=>?_
 have gd:=(hw _ _ hg).1;refine G8 ?_;refine Ca (f288o p l a tl k cap _ hb hg (fun x hx=>hk x hx _ (fun _ _=>rfl) rfl)) ?_
 refine G6 ?_;refine O1 (H4 (q:=(-1)) okC rfl rfl) ?_;refine G ?_;refine Ab rfl ?_ ?_<;>intro h1
 ·refine G5 ?_;obtain hs:Eo p l=l:=Ab3 ((Ha (p:=p) l 0).resolve_right gr).2;refine G ?_
  exact⟨_,rfl,_,_,a_ hw nl (fun _ _=>rfl),nl,.same (Ce gd),.inr ⟨a,tl,hN,gd,by rw[hs];rfl,gr⟩,.rfl'⟩
 ·rcases Ha (p:=p) l 0 with⟨hf,hno⟩|⟨n,x,hf,hx,hpx,hpb⟩
  ·grind
  obtain⟨hst,jw⟩:=Vc.start hx hpx hpb;have hn:=(ae_.1 hx).1;rw[hf,bn_];refine G9 ?_;refine Ci (fun q:Nat×Nat=>[(0,.sr a 0 2 l.length none),(1,.fn (.func k) [] cap),(5,iV (.ofNat q.2)),(6,iV (.ofNat q.1))])
   (fun q σ0=>q.1<=l.length/\q.2=(Eo p (l.take q.1)).length/\nx σ0=nx σ/\(∀b,b≠a->σ0.get b=σ.get b)/\∃c,Vc p l c q.1/\σ0.get a=some (.cells (c.flatMap eP++tl))) (fun q=>l.length-q.1) (n+1,n) SL ⟨hn,hst.symm,rfl,fun _ _=>rfl,l,jw,hg⟩ ?_
  rintro⟨j,w⟩ σ0 ⟨hjl,hw0,hnx,dq,c,hdi,hc⟩;simp only at hjl hw0 hdi;refine G5 ?_;refine O1 (Bf slC rfl rfl rfl) ?_;refine G2 ?_;refine Ab rfl ?_ ?_<;>intro h2
  ·have bc:j<l.length:=gr;obtain⟨b,hb0⟩:=Ar bc;have hcb:=hdi.at.trans hb0
   have hwl:w<=j:=by rw[hw0];exact ai_ H0 gr
   refine G7 ?_;refine O1 (Br elC rfl rfl bc) (O1 (Dg (enc:=eP) (v:=.agg (eP b)) (fun _=>rfl) ldC rfl hc hcb (fun _=>rfl)) ?_)
   refine G6 ?_;refine Ca (hk b (ab_ hb0) σ0 (fun b' hb'=>dq b' Om) hnx) ?_
   refine G2 ?_;refine Ab rfl ?_ ?_<;>intro h3
   ·have h4:p b=false:=gr;obtain⟨e1,e2,e3⟩:=hdi.keep hb0 h4;rw[←hw0]at e1 e2 e3;refine G5 ?_;refine O1 (Br elC rfl rfl Om) ?_;refine O1 (Tb (enc:=eP) (u:=b) (fun _=>rfl) ldC rfl rfl rfl hc e2) ?_
    refine G11 ?_;refine⟨(j+1,w+1),gr,SL,bc,e1.symm,gr,gr,c.set w b,e3,gr⟩
   ·have h4:p b=true:=gr;obtain⟨e1,e2⟩:=hdi.out hb0 h4;rw[←hw0]at e1;refine G6 ?_;refine⟨(j+1,w),gr,SL,bc,e1.symm,hnx,dq,c,e2,hc⟩
  ·have bj:j=l.length:=gr
   have hwl:w<=l.length:=by rw[hw0];exact ai_ H0 gr
   refine G5 ?_
   refine O1 (Aim elC rfl rfl hwl) (O1 (Aez (enc:=eP) (l:=c) (b:=w) (fun _=>rfl) elC rfl rfl hc (by rw[hdi.len];omega)) ?_)
   refine G5 ?_;refine O1 (Uv elC rfl rfl hwl) ?_;refine G2 ?_;have hs:Eo p (l.take j)=Eo p l:=gr;rw[hs]at hw0;have jx:=hdi.fst;rw[hs,←hw0]at jx;refine Bo fun hw'=>?_
   refine G ?_
   refine⟨_,rfl,_,_,a_ hw' nl (fun _ _=>rfl),ef_ gr,.same (Ce gr),.inr ⟨a,rep [.str [],.str []] (l.length-w)++tl,hN,gr,by rw[←hw0];rfl,?_⟩,⟨ef_ gr,gr⟩⟩
   grind
theorem f223(p l N k cap v₀ σ)(h:Own σ N eH 3 l v₀)(hb:l.length<1000000)(hk:∀x∈l,∀τ,(∀b,b<N->τ.get b=σ.get b)->nx τ=nx σ->Al Ew k ([.agg (eH x)]++cap) τ fun v σ'=>v=.bool (p x)/\σ'=τ):
  Al Ew 223 [v₀,.fn (.func k) [] cap] σ fun v σ'=>Own σ' N eH 3 (Eo p l) v/\Below N σ σ':=by
 rcases h with⟨rfl,hv⟩|⟨a,tl,h1,h2,rfl,h4⟩
 ·exact(f223e k cap v₀ hv σ).mono fun v τ ⟨e1,e2⟩=>by subst e1 e2;exact⟨.inl ⟨rfl,hv⟩,.rfl'⟩
 ·exact f223o p l a N tl k cap σ hb h1 h4 hk
theorem f272(p l N k cap v₀ σ)(h:Own σ N eP 2 l v₀)(hb:l.length<1000000)(hk:∀x∈l,∀τ,(∀b,b<N->τ.get b=σ.get b)->nx τ=nx σ->Al Ew k ([.agg (eP x)]++cap) τ fun v σ'=>v=.bool (p x)/\σ'=τ):
  Al Ew 272 [v₀,.fn (.func k) [] cap] σ fun v σ'=>Own σ' N eP 2 (Eo p l) v/\Below N σ σ':=by
 rcases h with⟨rfl,hv⟩|⟨a,tl,h1,h2,rfl,h4⟩
 ·exact(f272e k cap v₀ hv σ).mono fun v τ ⟨e1,e2⟩=>by subst e1 e2;exact⟨.inl ⟨rfl,hv⟩,.rfl'⟩
 ·exact f272o p l a N tl k cap σ hb h1 h4 hk
theorem Mr{N}(h):AV.unds N (eH h)=true:=by
 show(true&&(true&&(AV.und N (Af h.text)&&true)))=true
 rw[Fv (fun _=>rfl) h.text];rfl
theorem Am6{N}(h):AV.unds N (eP h)=true:=rfl
theorem Arr{N}(l):AV.und N (slV eH 3 l)=true:=Fv Mr l
def Vd(h:Hp):Bool:= !h.floating
theorem f225(h σ):Cv 225 [.agg (eH h)] σ (.bool h.floating):=by
 refine Aj Tryz.func225 rfl rfl fun hw hu0=>?_
 refine G12 ?_;refine B4 hw rfl ?_;exact rfl
theorem f226(h σ):Cv 226 [.agg (eH h)] σ (.bool (Vd h)):=by
 refine Aj Tryz.func226 rfl rfl fun hw hu0=>?_
 iterate 13 refine G ?_
 refine B4 hw rfl ?_;exact rfl
theorem f177(f σ)(hb:f.hyps.length<1000000):Cv 177 [.agg (eF f)] σ (slV eH 3 (Eo (fun h=>h.floating) f.hyps)):=by
 refine Aj Tryz.func177 rfl rfl fun hw hu0=>?_
 refine G9 ?_;refine Az rfl rfl rfl rfl (f224 f.hyps _ hb) fun v τ ⟨bf,cb⟩=>?_
 refine Az rfl rfl rfl rfl (f223 (fun h=>h.floating) f.hyps (nx σ) 225 [] v τ bf hb (fun x _ τ _ _=>f225 x τ)) fun v2 τ2 ⟨bw,b7⟩=>?_
 refine G3 ?_;exact⟨_,rfl,slV eH 3 (Eo (fun h=>h.floating) f.hyps),σ,am_ hw (cb.trans b7),nl,bw.fz (fun _=>rfl) (fun a ha=>hw.none ha) (A2 Mr _),rfl,rfl⟩
theorem f178(l σ)(hb:l.length<1000000):Cv 178 [slV eH 3 l] σ (slV eH 3 (Eo Vd l)):=by
 refine Aj Tryz.func178 rfl rfl fun hw hu0=>?_
 refine G7 ?_;refine Az rfl rfl rfl rfl (f224 l _ hb) fun v τ ⟨bf,cb⟩=>?_
 refine Az rfl rfl rfl rfl (f223 Vd l (nx σ) 226 [] v τ bf hb (fun x _ τ _ _=>f226 x τ)) fun v2 τ2 ⟨bw,b7⟩=>?_
 refine G3 ?_;exact⟨_,rfl,slV eH 3 (Eo Vd l),σ,am_ hw (cb.trans b7),nl,bw.fz (fun _=>rfl) (fun a ha=>hw.none ha) (A2 Mr _),rfl,rfl⟩
theorem f274(p r m σ)(hm:Fi σ r m):Cv 274 [.agg (eP p),.pv [.mp r]] σ (.bool (!m.has p.a|| !m.has p.b)):=by
 refine Aj Tryz.func274 rfl rfl fun hw hu0=>?_
 refine G10 ?_;refine O1 (De st9 Cr rfl hm rfl) ?_;refine G2 ?_;refine TOr 5 ?_ (fun hg=>?_) ?_
 rotate_left
 ·iterate 3 refine Gn hg ?_
  refine On hg (De st9 Cr rfl hm rfl) ?_;refine Gn hg ?_;exact Ez
 refine G3 ?_;refine B4 hw rfl ?_;exact rfl
theorem f251(r m l σ)(hm:Fi σ r m)(hb:l.length<1000000):Cv 251 [.mp r,slV eP 2 l] σ (slV eP 2 (Eo (fun p=> !m.has p.a|| !m.has p.b) l)):=by
 refine Aj Tryz.func251 rfl rfl fun hw hu0=>?_
 refine G8 ?_;refine Az rfl rfl rfl rfl (f273 l _ hb) fun v τ ⟨bf,cb⟩=>?_
 refine G ?_
 refine Az rfl rfl rfl rfl (f272 (fun p=> !m.has p.a|| !m.has p.b) l (nx σ) 274 [.pv [.mp r]] v τ bf hb (fun x _ τ3 h3 _=>f274 x r m τ3 (hm.of_get ((h3 r (hm.lt hw)).trans (cb.2 r (hm.lt hw)))))) fun v2 τ2 ⟨bw,b7⟩=>?_
 refine G3 ?_
 exact⟨_,rfl,slV eP 2 (Eo (fun p=> !m.has p.a|| !m.has p.b) l),σ,am_ hw (cb.trans b7),nl,bw.fz (fun _=>rfl) (fun a ha=>hw.none ha) (A2 Am6 _),rfl,rfl⟩
def H8(l:List Hp):List (List Str):=(Eo (fun h=>h.floating) l).map (·.text)
theorem Afa{l:List Hp}{i}{a:Hp}(ha:l[i]? =some a):H8 (l.take (i+1))=H8 (l.take i)++(if a.floating then[]else[a.text]):=by
 unfold H8;rw[Fw ha,Ru,co_];grind
theorem Am7{l}:(H8 l).length<=l.length:=by unfold H8;rw[cx_];exact H0
abbrev eL(t:List Str):List AV:=[Af t]
theorem Axb:∀t,(eL t).length=1:=fun _=>rfl
theorem Qq:∀t,(eH t).length=3:=fun _=>rfl
theorem Am8{N}(t):AV.unds N (eL t)=true:=by show(AV.und N (Af t)&&true)=true;rw[Fv (fun _=>rfl)];rfl
theorem f248(l t σ)(hb:l.length<1000000):Cv 248 [slV eH 3 l,Af t] σ (slV eL 1 (t::H8 l)):=by
 refine Aj Tryz.func248 rfl rfl fun hw hu0=>?_
 refine G7 ?_;refine O1 (Ai elC byW rfl rfl rfl) ?_;refine G10 ?_;refine Ci (fun q:Nat×AV=>[(5,q.2),(10,slV eH 3 l),(11,iV (.ofNat l.length)),(12,iV (.ofNat q.1))]) (fun q σ0=>q.1<=l.length/\Ad0 σ0 (nx σ) eL 1 (t::H8 (l.take q.1)) q.2/\Below (nx σ) σ σ0) (fun q=>l.length-q.1) (0,.sv [Af t] 1 1 (some 1)) SL ⟨aq_ _,.inl rfl,.rfl'⟩ ?_
 rintro⟨i0,v0⟩ σ0 hP0;obtain⟨hi0,c7,cp⟩:i0<=l.length/\Ad0 σ0 (nx σ) eL 1 (t::H8 (l.take i0)) v0/\Below (nx σ) σ σ0:=hP0;refine G5 ?_;refine Ab rfl ?_ ?_<;>intro h1
 ·have bc:i0<l.length:=gr;obtain⟨a0,ha0⟩:=Ar bc;have hd0:=A4 ha0
  iterate 15 refine G ?_
  refine Ab rfl ?_ ?_<;>intro h2
  ·have h4:a0.floating=false:=gr
   have bn:((t::H8 (l.take i0)).length+[a0.text].length)*(24+1)<=sizeLim:=by have:=Am7 (l:=l.take i0);rw[cb_]at this;simp[sizeLim];omega
   obtain⟨v,τ,c5,cn,mo,_⟩:=c7.app (by':=24) Axb cp.1 [a0.text] bn
   refine G4 ?_;refine Cx (Ai elC byW rfl rfl rfl) (Dv (len:=1)) rfl rfl (O1 (Av elC rfl slC rfl rfl rfl (new:=eL a0.text) rfl c5) ?_);refine G6 ?_
   refine⟨(i0+1,v),gr,SL,bc,by rw[Afa ha0,if_neg gr];exact cn,cp.trans mo⟩
  ·have h4:a0.floating=true:=gr;refine G5 ?_
   refine⟨(i0+1,v0),gr,SL,bc,by rw[Afa ha0,if_pos h4,bh_];exact c7,cp⟩
 ·have bj:l.length<=i0:=gr;refine G6 ?_;rw[at_ bj]at c7;refine G ?_;exact⟨_,rfl,slV eL 1 (t::H8 l),σ,am_ hw cp,nl,c7.fz (fun _=>rfl) (fun a ha=>hw.none ha) (A2 Am8 _),rfl,rfl⟩
theorem in3:Ak8 Ew.P 3=true:=Kr
theorem f180(h σ)(hb:h.text.length<1000000):Cv 180 [.agg (eH h)] σ (.agg (eH h)):=by
 refine Aj Tryz.func180 rfl rfl fun hw hu0=>?_
 refine G2 ?_;refine O1 (Aqy ldC rfl rfl) (O1 (Bu ziC) ?_);refine G4 ?_
 refine O1 (Ac (cs:=(eH h).drop 2) ldC rfl (by simp only[Em,Aio Av5]) rfl) ?_
 refine Ca (f227 h.text _ hb) ?_;refine G ?_;refine O1 (By (vs:=eH h) (vs':=eH h) ldC rfl rfl rfl (Aio Av5) rfl) ?_;refine G3 ?_
 refine O1 (Ac (cs:=eH h) ldC rfl (by simp only[Em,Sto.cells,aa_,if_true];rfl) rfl) ?_
 refine O1 (By (vs:=[.str [],.bool false,nS]) (vs':=eH h) ldC rfl rfl rfl (by unfold Sto.cells;grind) rfl) ?_
 refine G2 ?_
 exact⟨_,Am (vs:=eH h) (v:=.agg (eH h)) (ldC (t:=74)) rfl (by unfold Sto.cells;grind) rfl rfl,.agg (eH h),σ,am_ hw ((((Below.rfl'.new nl _).new nl _).set nl _).set gr _),nl,.same (Mr h),rfl,rfl⟩
theorem f245(n σ)(hn:n<1000000):Al Ew 245 [nS,iV (.ofNat n)] σ fun v σ'=>Own σ' (nx σ) eH 3 [] v/\Below (nx σ) σ σ':=by
 refine Aj Tryz.func245 rfl rfl fun hw hu0=>?_
 refine G10 ?_;refine Ab rfl ?_ ?_<;>intro h1
 ·grind
 ·refine G6 ?_;refine O1 (Zz slC rfl) ?_;refine G ?_;refine O1 (Bf slC rfl rfl rfl) (O1 (W2 (p:=0) (q:=0) okC rfl rfl Om Om) ?_);refine O1 (W2 (p:=n) (q:=0) okC rfl rfl Om Om) ?_;refine G7 ?_;refine Ab rfl ?_ ?_<;>intro h2
  ·obtain⟨n,rfl⟩:∃k,n=k+1:=⟨n-1,gr⟩;refine G3 ?_;refine O1 (Zz slC rfl) (O1 (Ams elC rfl rfl) ?_);refine G ?_
   refine O1 (Ain (n:=n) elC rfl in3 rfl rfl (by simp[sizeLim];omega)) ?_
   refine G ?_;refine O1 (Bf slC rfl rfl rfl) (O1 (Uv (b:=0) elC rfl rfl Om) ?_);refine G7 ?_;refine Bo fun hw'=>?_
   refine G ?_;exact⟨_,rfl,_,_,a_ hw' nl (fun _ _=>rfl),gr,.same (Ce gr),.inr ⟨nx σ,rep [.str [],.bool false,nS] (n+1),nl,gr,rfl,gr⟩,Below.rfl'.new nl _⟩
  ·refine G7 ?_;exact⟨_,rfl,_,_,a_ hw nl (fun _ _=>rfl),nl,.same rfl,.nil,.rfl'⟩
abbrev eLH(l:List Hp):List AV:=[slV eH 3 l]
theorem Np{α:Type}{ls:List (List α)}{i a}(ha:ls[i]? =some a):(ls.take (i+1)).flatten=(ls.take i).flatten++a:=by rw[Fw ha,List.flatten_append];simp
theorem K9{α:Type}(ls:List (List α))(i):((ls.take i).flatten).length<=ls.flatten.length:=by
 have h:ls.flatten=(ls.take i).flatten++(ls.drop i).flatten:=by rw[←List.flatten_append,cc_]
 grind
def H1:List Hp->List Hp->Nat
 |a::r,b::s=>if a.label=b.label then H1 r s+1 else 0
 |_,_=>0
def Ms(a b:List Hp)(n:Nat):Bool:=match a[n]?,b[n]? with
 |some x,some y=>decide (x.label=y.label)
 |_,_=>false
theorem Tm{a b n x y}(hx:a[n]? =some x)(hy:b[n]? =some y):Ms a b n=decide (x.label=y.label):=by simp only[Ms,hx,hy]
theorem Ot{a b n}(h:a.length<=n∨b.length<=n):Ms a b n=false:=by
 unfold Ms
 grind
theorem Ab4{a b n}(h:Ms a b n=true):n<a.length/\n<b.length:=by
 refine⟨Nat.lt_of_not_le fun hh=>?_,Nat.lt_of_not_le fun hh=>?_⟩
 ·rw[Ot (.inl hh)]at h;cases h
 ·rw[Ot (.inr hh)]at h;cases h
theorem Ag6{a b n}(h:Ms a b n=true):H1 (a.drop n) (b.drop n)=H1 (a.drop (n+1)) (b.drop (n+1))+1:=by
 obtain⟨h1,h2⟩:=Ab4 h;obtain⟨x,hx⟩:=Ar h1;obtain⟨y,hy⟩:=Ar h2;rw[Tm hx hy]at h;rw[A4 hx,A4 hy,H1,if_pos (of_decide_eq_true h)]
theorem Ag7{a b n}(h:Ms a b n=false):H1 (a.drop n) (b.drop n)=0:=by
 by_cases h1:n<a.length
 ·by_cases h2:n<b.length
  ·obtain⟨x,hx⟩:=Ar h1;obtain⟨y,hy⟩:=Ar h2;rw[Tm hx hy]at h;rw[A4 hx,A4 hy,H1,if_neg (of_decide_eq_false h)]
  ·rw[ah_ (show b.length<=n by omega)];cases a.drop n<;>rfl
 ·rw[ah_ (show a.length<=n by omega)];rfl
theorem Ab5:∀(a b:List Hp),H1 a b<=b.length
 |a::r,b::s=>by unfold H1;split<;>simp[Ab5 r s]
 |[],_=>aq_ _
 |_::_,[]=>aq_ _
theorem f214(ls σ)(hb:ls.length<1000)(hb2:ls.flatten.length<1000000):Cv 214 [slV eLH 1 ls] σ (slV eH 3 ls.flatten):=by
 refine Aj Tryz.func214 rfl rfl fun hw hu0=>?_
 iterate 16 refine G ?_
 refine Ci (fun q:Nat×AV=>[(0,slV eLH 1 ls),(3,q.2),(9,slV eLH 1 ls),(10,iV (.ofNat ls.length)),(11,iV (.ofNat q.1))]) (fun q σ0=>q.1<=ls.length/\σ0=σ/\∃s,q.2=iV (.ofNat s)/\s=((ls.take q.1).flatten).length) (fun q=>ls.length-q.1) (0,iV (.ofNat 0)) SL ⟨aq_ _,rfl,0,rfl,rfl⟩ ?_
 rintro⟨i0,v0⟩ σ0 hP0;obtain⟨hi0,rfl,s,hvs,hs⟩:i0<=ls.length/\σ0=σ/\∃s,v0=iV (.ofNat s)/\s=((ls.take i0).flatten).length:=hP0;refine G5 ?_;refine Ab rfl ?_ ?_<;>intro h1
 ·have bc:i0<ls.length:=gr;obtain⟨a0,ha0⟩:=Ar bc;have hd0:=A4 ha0;subst hvs
  have hfl:((ls.take i0).flatten).length+a0.length<=ls.flatten.length:=by have:=K9 ls (i0+1);grind
  iterate 14 refine G ?_
  refine O1 (D3 (p:=s) (q:=a0.length) okC rfl rfl Om) ?_;refine G7 ?_;refine Ab rfl ?_ ?_<;>intro h2
  ·grind
  ·refine G5 ?_;refine⟨(i0+1,iV (.ofNat (s+a0.length))),gr,SL,bc,rfl,_,rfl,gr⟩
 ·have bj:ls.length<=i0:=gr;subst hvs;rw[at_ bj]at hs;subst hs;refine G4 ?_;refine Az rfl rfl rfl rfl (f245 ls.flatten.length _ hb2) fun v τ ⟨bf,cb⟩=>?_
  refine G10 ?_;refine Ci (fun q:Nat×AV=>[(6,q.2),(25,slV eLH 1 ls),(26,iV (.ofNat ls.length)),(27,iV (.ofNat q.1))]) (fun q σ2=>q.1<=ls.length/\Own σ2 (nx σ0) eH 3 ((ls.take q.1).flatten) q.2/\Below (nx σ0) σ0 σ2) (fun q=>ls.length-q.1) (0,v) SL ⟨aq_ _,bf,cb⟩ ?_
  rintro⟨i2,v2⟩ σ2 hP2;obtain⟨hi2,bw,b7⟩:i2<=ls.length/\Own σ2 (nx σ0) eH 3 ((ls.take i2).flatten) v2/\Below (nx σ0) σ0 σ2:=hP2;refine G5 ?_;refine Ab rfl ?_ ?_<;>intro h2
  ·have bv:i2<ls.length:=gr;obtain⟨a2,ha2⟩:=Ar bv;have hd2:=A4 ha2
   have bn:(((ls.take i2).flatten).length+a2.length)*(48+1)<=sizeLim:=by have:=K9 ls (i2+1);rw[Np ha2,bx_]at this;simp only[sizeLim];omega
   obtain⟨v,τ3,c5,gg,gp,_⟩:=bw.app (by':=48) Qq b7.1 a2 bn
   refine G12 ?_;refine O1 (Av elC rfl slC rfl rfl rfl (X7 Qq _ a2) c5) ?_;refine G6 ?_;refine⟨(i2+1,v),gr,SL,bv,gr,b7.trans gp⟩
  ·have ba:ls.length<=i2:=gr;refine G6 ?_;rw[at_ ba]at bw;refine G ?_;exact⟨_,rfl,slV eH 3 ls.flatten,σ0,am_ hw b7,nl,bw.fz Qq (fun a ha=>hw.none ha) (A2 Mr _),rfl,rfl⟩
theorem f220(a b σ)(hb:a.length<1000000):Cv 220 [slV eH 3 a,slV eH 3 b] σ (iV (.ofNat (H1 a b))):=by
 refine Aj Tryz.func220 rfl rfl fun hw hu0=>?_
 refine G10 ?_;refine Bz a.length (fun i0=>[(0,slV eH 3 a),(1,slV eH 3 b),(5,iV (.ofNat i0))]) (fun i0 σ0=>σ0=σ/\H1 a b=i0+H1 (a.drop i0) (b.drop i0)) SL ⟨rfl,(bn_ _).symm⟩ ?_
 rintro i0 σ0 hi0 ⟨rfl,hf0⟩;refine G ?_;refine Gg [(28,.bool (Ms a b i0))] ?_ ?_
 ·rcases av_ (decide (Int.ofNat i0<Int.ofNat a.length))with hg4|hg4
  ·rcases av_ (decide (Int.ofNat i0<Int.ofNat b.length))with bt|bt
   ·obtain⟨x,hx⟩:=Ar (show i0<a.length by simpa using hg4)
    obtain⟨y,hy⟩:=Ar (show i0<b.length by simpa using bt)
    refine X0 ?_;refine DF (Ag rfl) (DF (Ag rfl) (DF (Jl slC rfl) (DF (Qe okC rfl rfl) (DF (Ag rfl) (Wn (w:=R2 bt hg4) (Ag rfl) (Wn (w:=R2 bt hg4) (Ag rfl) (Wn (w:=R2 bt hg4) (Jl slC rfl) ?_)))))));refine Wn (w:=R2 bt hg4) (Qe okC rfl rfl) (DF (A3 rfl (R2 bt hg4) rfl) (DF (Ag rfl) (Wn (w:=R2 bt hg4) (Ag rfl) (Wn (w:=R2 bt hg4) (Ag rfl) (Wn (w:=R2 bt hg4) (A1 elC (fun _=>rfl) rfl rfl hx) ?_)))))
    refine Wn (w:=R2 bt hg4) (Ae fdC rfl rfl) (Wn (w:=R2 bt hg4) (Ac ldC rfl rfl rfl) (Wn (w:=R2 bt hg4) (Ag rfl) (Wn (w:=R2 bt hg4) (Ag rfl) (Wn (w:=R2 bt hg4) (A1 elC (fun _=>rfl) rfl rfl hy) ?_))))
    refine Wn (w:=R2 bt hg4) (Ae fdC rfl rfl) (Wn (w:=R2 bt hg4) (Ac ldC rfl rfl rfl) (Wn (w:=R2 bt hg4) (H5 okC rfl rfl) (DF (A3 rfl (R2 bt hg4) rfl) (C1 ?_))));exact⟨rfl,rfl,⟨⟨congrArg (fun b=>some (AV.bool b)) (Tm hx hy).symm,trivial⟩,sb,rfl⟩⟩
   ·refine X0 ?_;refine DF (Ag rfl) (DF (Ag rfl) (DF (Jl slC rfl) (DF (Qe okC rfl rfl) (DF (Ag rfl) (Wn (w:=R2 bt hg4) (Ag rfl) (Wn (w:=R2 bt hg4) (Ag rfl) (Wn (w:=R2 bt hg4) (Jl slC rfl) ?_)))))));refine Wn (w:=R2 bt hg4) (Qe okC rfl rfl) (DF (A3 rfl (R2 bt hg4) rfl) (DF (Ag rfl) (Wx (w:=R2 bt hg4) (Wx (w:=R2 bt hg4) (Wx (w:=R2 bt hg4) (Wx (w:=R2 bt hg4) (Wx (w:=R2 bt hg4) ?_)))))));refine Wx (w:=R2 bt hg4) (Wx (w:=R2 bt hg4) (Wx (w:=R2 bt hg4) (Wx (w:=R2 bt hg4) (Wx (w:=R2 bt hg4) (Wx (w:=R2 bt hg4) (DF (Au rfl (R2 bt hg4) rfl) (C1 ?_)))))));exact⟨rfl,rfl,⟨⟨congrArg (fun b=>some (AV.bool b)) (Ot (.inr gr)).symm,trivial⟩,sb,rfl⟩⟩
  ·refine X0 ?_;refine DF (Ag rfl) (DF (Ag rfl) (DF (Jl slC rfl) (DF (Qe okC rfl rfl) (DF (Ag rfl) (Wx (w:=R1 hg4) (Wx (w:=R1 hg4) (Wx (w:=R1 hg4) ?_)))))));refine Wx (w:=R1 hg4) (DF (Au rfl (R1 hg4) rfl) (DF (Ag rfl) (Wx (w:=R1 hg4) (Wx (w:=R1 hg4) (Wx (w:=R1 hg4) (Wx (w:=R1 hg4) (Wx (w:=R1 hg4) ?_)))))));refine Wx (w:=R1 hg4) (Wx (w:=R1 hg4) (Wx (w:=R1 hg4) (Wx (w:=R1 hg4) (Wx (w:=R1 hg4) (Wx (w:=R1 hg4) (DF (Au rfl (R1 hg4) rfl) (C1 ?_)))))));exact⟨rfl,rfl,⟨⟨congrArg (fun b=>some (AV.bool b)) (Ot (.inl gr)).symm,trivial⟩,sb,rfl⟩⟩
 refine Ab rfl ?_ ?_<;>intro h1
 ·have bc:i0<a.length:=(Ab4 h1).1;refine G7 ?_
  refine⟨bc,SL,rfl,by rw[hf0,Ag6 h1];omega⟩
 ·have hs0:=Ag7 h1;refine G7 ?_;refine B4 hw rfl ?_
  exact(by rw[hf0,hs0];rfl)
def zH:List AV:=[.str [],.bool false,nS]
def hcs(o:Option Hp):List AV:=match o with|some h=>eH h|none=>zH
theorem Jx(o):(hcs o).length=3:=by cases o<;>rfl
theorem Ve{N}(o):AV.unds N (hcs o)=true:=by cases o with|none=>rfl|some h=>exact Mr h
theorem Vf{ρ σ Rr x y m s r}(hx:Ah Ew ρ x=some (.mp r))(hm:B8 hV σ r m)(hy:Ah Ew ρ y=some (sV s)):
  As Ew Rr (.lookup 221 x y true) ρ σ (.tup [.agg (hcs (m.get s)),.bool (m.get s).isSome]) σ:=by
 have:=Ag1 (Rr:=Rr) st9 Qo hx hm hy
 have e:((m.get s).map hV).getD (.agg [.str [],.bool false,nS])=.agg (hcs (m.get s)):=by cases m.get s<;>rfl
 grind
theorem Ai1{ρ σ Rr x y m s r}(hx:Ah Ew ρ x=some (.mp r))(hm:B8 sV σ r m)(hy:Ah Ew ρ y=some (sV s)):
  As Ew Rr (.lookup 333 x y true) ρ σ (.tup [sV ((m.get s).getD []),.bool (m.get s).isSome]) σ:=by
 have:=Ag1 (Rr:=Rr) st9 Ae6 hx hm hy
 have e:((m.get s).map sV).getD (.str [])=sV ((m.get s).getD []):=by cases m.get s<;>rfl
 grind
theorem f221(m k h σ)(hk:Hj σ m k):Cv 221 [.agg (eH h),.pv [knV m]] σ (.bool (k.hyps.get h.label).isSome):=by
 refine Aj Tryz.func221 rfl rfl fun hw hu0=>?_
 refine G5 ?_;refine Gz 4 zH (hcs (k.hyps.get h.label)) [(5,.bool (k.hyps.get h.label).isSome)] (Ve _) rfl (fun hw=>?_) ?_
 refine XX 1 (l:=[]) trivial ?_;refine G6 ?_;refine DF (Vf rfl hk.h rfl) ?_;refine G3 ?_;refine DT (Bu ziC) (DT (By (vs:=zH) (vs':=hcs (k.hyps.get h.label)) ldC rfl rfl (A7 (Jx _)) Eg (Hh (Jx _))) ?_);refine G2 ?_
 exact⟨(by intro e he;simp at he;rcases he with rfl|rfl<;>first|exact .refl|exact K4 hw),⟨rfl,trivial⟩,sb,rfl,rfl⟩
 refine G6 ?_;refine B4 hw rfl ?_;exact rfl
def Am9(o:Option Hp)(b:Hp):Bool:=match o with|some a=>Am5 a b|none=>false
theorem Av9(o b σ)(ho:o.isSome=true)(hb:b.text.length<4611686018427387904):Cv 181 [.agg (hcs o),.agg (eH b)] σ (.bool (Am9 o b)):=by
 cases o with
 |none=>cases ho
 |some a=>exact f181 a b σ hb
def Awa(h:Hp)(du:Bool):Bool:=((!Mq [2] h.label||(du&& !h.floating))||(h.floating&& !decide (Int.ofNat h.text.length=2)))||(!h.floating&&(decide (Int.ofNat h.text.length=0)||decide ((200:Int)<Int.ofNat h.text.length)))
def hypT(k:Kn)(h:Hp):Int:=if((k.hyps.get h.label).isSome&& !Am9 (k.hyps.get h.label) h)=true then 6 else 0
def hypX(k:Kn)(ty:SM Str)(t0 t1:Str):Bool:=((k.types.get t1).isSome&& !decide ((k.types.get t1).getD []=t0))||((ty.get t1).isSome&& !decide ((ty.get t1).getD []=t0))
def Vg(k:Kn)(lab:SM Bool)(ty:SM Str)(h:Hp)(du:Bool):Int:=
 if Awa h du=true then 2 else if((k.isSym h.label||k.frames.has h.label)||lab.has h.label)=true then 6
 else if h.floating=true then
  if(!k.consts.has (h.text.headD [])|| !k.vars.has (h.text.tail.headD []))=true then 12
  else if hypX k ty (h.text.headD []) (h.text.tail.headD [])=true then 11
  else if(ty.get (h.text.tail.headD [])).isSome=true then 6 else hypT k h
 else if(!decide (k.textF h.text=0))=true then k.textF h.text else hypT k h
theorem f215p(m k ra rb lab ty lb fl tx du σ)(hk:Hj σ m k)(hl:Fi σ ra lab)(ht:B8 sV σ rb ty)(hb:tx.length<1000000):Cv 215 [knV m,.agg [.mp ra,.mp rb],.agg [sV lb,.bool fl,Af tx],.bool du] σ (iV (Vg k lab ty ⟨lb,fl,tx⟩ du)):=by
 refine Aj Tryz.func215 rfl rfl fun hw hu0=>?_
 refine G11 ?_;refine Ca (f213 lb _) ?_;refine G2 ?_;refine TOr 6 ?_ (fun hg=>?_) ?_
 rotate_left
 ·iterate 2 refine Gn hg ?_
  refine Hq 3 _ ?_ rfl rfl rfl rfl rfl (Ft rfl rfl rfl rfl (by rw[hg];rfl)) (fun hg=>?_) (fun hg=>?_) ?_
  rotate_left
  ·iterate 3 refine Gn hg ?_
   refine G ?_;refine⟨rfl,?_,?_⟩
   ·exact sb
   ·exact rfl
  ·iterate 3 refine Gn hg ?_
   refine G ?_;exact⟨rfl,sb⟩
  exact Ez
 refine G ?_;refine TOr 8 ?_ (fun hg=>?_) ?_
 rotate_left
 ·iterate 3 refine Gn hg ?_
  refine Hq 4 _ ?_ rfl rfl rfl rfl rfl (Ft rfl rfl rfl rfl (by rw[hg];rfl)) (fun hg=>?_) (fun hg=>?_) ?_
  rotate_left
  ·iterate 4 refine Gn hg ?_
   refine G ?_;refine⟨rfl,?_,?_⟩
   ·exact sb
   ·exact rfl
  ·iterate 4 refine Gn hg ?_
   refine G ?_;exact⟨rfl,sb⟩
  exact Ez
 refine G ?_;refine TOr 15 ?_ (fun hg=>?_) ?_
 rotate_left
 ·iterate 4 refine Gn hg ?_
  refine Hq 10 _ ?_ rfl rfl rfl rfl rfl (Ft rfl rfl rfl rfl (by rw[hg];rfl)) (fun hg=>?_) (fun hg=>?_) ?_
  rotate_left
  ·iterate 5 refine Gn hg ?_
   refine Qh 4 _ ?_ rfl rfl rfl rfl rfl (Ft rfl rfl rfl rfl (by rw[hg];rfl)) (fun hg=>?_) (fun hg=>?_) ?_
   rotate_left
   ·iterate 4 refine Gn hg ?_
    refine G ?_;refine⟨rfl,?_,?_⟩
    ·exact sb
    ·exact rfl
   ·iterate 4 refine Gn hg ?_
    refine G ?_;exact⟨rfl,sb⟩
   refine G ?_;refine⟨rfl,?_,?_⟩
   ·exact sb
   ·exact rfl
  ·iterate 10 refine Gn hg ?_
   refine G ?_;exact⟨rfl,sb⟩
  exact Ez
 refine G ?_;refine Ab rfl ?_ ?_<;>intro h1
 ·refine G5 ?_;refine B4 hw rfl ?_;exact congrArg iV (if_pos h1).symm
 ·refine G2 ?_
  refine Gg [(74,.bool ((k.isSym lb||k.frames.has lb)||lab.has lb))] ?_ ?_
  ·rcases av_ ((k.isSym lb))with hg4|hg4
   ·refine XS (l:=[(212,[knV m,sV lb],σ,.bool (k.isSym lb),σ)]) ⟨Aiz m k lb σ hk,trivial⟩ ?_
    iterate 21 refine G ?_
    exact⟨⟨Cb,trivial⟩,sb,rfl⟩
   ·rcases av_ ((k.frames.has lb))with bo|bo
    ·refine XS (l:=[(212,[knV m,sV lb],σ,.bool (k.isSym lb),σ)]) ⟨Aiz m k lb σ hk,trivial⟩ ?_;refine DF (Ag rfl) (DF (Ae fdC rfl rfl) (DF (Ac ldC rfl rfl rfl) (DT (Bq rfl rfl Bv) (DF (Ag rfl) (Wn (w:=R2 bo hg4) (Ag rfl) (Wn (w:=R2 bo hg4) (Eq rfl) (Wn (w:=R2 bo hg4) (Ae fdC rfl rfl) ?_)))))));refine Wn (w:=R2 bo hg4) (Ac ldC rfl rfl rfl) (Wn (w:=R2 bo hg4) (Ae fdC rfl rfl) (Wn (w:=R2 bo hg4) (Ac ldC rfl rfl rfl) (Wn (w:=R2 bo hg4) (De st9 Cr rfl hk.f rfl) (DF (Au rfl (R2 bo hg4) rfl) (DF (Ag rfl) (Wx (w:=R2 bo hg4) (Wx (w:=R2 bo hg4) ?_)))))));refine Wx (w:=R2 bo hg4) (Wx (w:=R2 bo hg4) (Wx (w:=R2 bo hg4) (DF (A3 rfl (R2 bo hg4) rfl) (C1 ?_))));exact⟨⟨congrArg (fun b=>some (AV.bool b)) (R2 bo hg4),trivial⟩,sb,rfl⟩
    ·refine XS (l:=[(212,[knV m,sV lb],σ,.bool (k.isSym lb),σ)]) ⟨Aiz m k lb σ hk,trivial⟩ ?_;refine DF (Ag rfl) (DF (Ae fdC rfl rfl) (DF (Ac ldC rfl rfl rfl) (DT (Bq rfl rfl Bv) (DF (Ag rfl) (Wn (w:=R2 bo hg4) (Ag rfl) (Wn (w:=R2 bo hg4) (Eq rfl) (Wn (w:=R2 bo hg4) (Ae fdC rfl rfl) ?_)))))));refine Wn (w:=R2 bo hg4) (Ac ldC rfl rfl rfl) (Wn (w:=R2 bo hg4) (Ae fdC rfl rfl) (Wn (w:=R2 bo hg4) (Ac ldC rfl rfl rfl) (Wn (w:=R2 bo hg4) (De st9 Cr rfl hk.f rfl) (DF (Au rfl (R2 bo hg4) rfl) (DF (Ag rfl) (Wn (w:=R2 bo hg4) (Ae fdC rfl rfl) (Wn (w:=R2 bo hg4) (Ac ldC rfl rfl rfl) ?_)))))));refine Wn (w:=R2 bo hg4) (Ae fdC rfl rfl) (Wn (w:=R2 bo hg4) (Ac ldC rfl rfl rfl) (Wn (w:=R2 bo hg4) (De st9 Cr rfl hl rfl) (DF (Au rfl (R2 bo hg4) rfl) (C1 ?_))));exact⟨⟨congrArg (fun b=>some (AV.bool b)) (R2 bo hg4),trivial⟩,sb,rfl⟩
  refine Ab rfl ?_ ?_<;>intro h2
  ·refine G5 ?_;refine B4 hw rfl ?_;exact congrArg iV ((if_neg (fun hh=>Bool.noConfusion (h1.symm.trans hh))).trans (if_pos h2)).symm
  ·refine G7 ?_;refine Ab rfl ?_ ?_<;>intro h3
   ·have h3':fl=true:=h3;subst h3'
    obtain⟨t0,t1,rfl⟩:∃t0 t1,tx=[t0,t1]:=by
     have h4:tx.length=2:=gr
     match tx,h4 with
     |[a,b],_=>exact⟨a,b,rfl⟩
    refine G ?_
    refine Gg [(98,.bool (!k.consts.has t0|| !k.vars.has t1))] ?_ ?_
    ·rcases av_ ((!k.consts.has t0))with bt|bt
     ·refine X0 ?_;refine G6 ?_;refine DF (A1 elC (fun _=>rfl) rfl rfl rfl (i:=0)) ?_
      refine G ?_;refine DF (De st9 Cr rfl hk.c rfl) ?_
      iterate 14 refine G ?_
      exact⟨rfl,rfl,⟨⟨Cb,trivial⟩,sb,rfl⟩⟩
     ·refine X0 ?_;refine G6 ?_;refine DF (A1 elC (fun _=>rfl) rfl rfl rfl (i:=0)) ?_
      refine G ?_;refine DF (De st9 Cr rfl hk.c rfl) ?_;refine G8 ?_;refine Xn (A1 elC (fun _=>rfl) rfl rfl rfl (i:=1)) ?_
      refine G ?_;refine Wn (w:=R1 bt) (De st9 Cr rfl hk.v rfl) (Wn (w:=R1 bt) (Dc rfl) (DF (Au rfl (R1 bt) rfl) (C1 ?_)));exact⟨rfl,rfl,⟨⟨congrArg (fun b=>some (AV.bool b)) (R1 bt),trivial⟩,sb,rfl⟩⟩
    refine Ab rfl ?_ ?_<;>intro h4
    ·refine G5 ?_;refine B4 hw rfl ?_;exact congrArg iV ((if_neg (fun hh=>Bool.noConfusion (h1.symm.trans hh))).trans ((if_neg (fun hh=>Bool.noConfusion (h2.symm.trans hh))).trans ((if_pos h3).trans (if_pos h4)))).symm
    ·refine G2 ?_;refine X0 ?_;refine G4 ?_;refine DF (A1 elC (fun _=>rfl) rfl rfl rfl (i:=1)) ?_
     refine G ?_;refine DF (Ai1 rfl ht rfl) ?_;refine G6 ?_;refine⟨rfl,rfl,?_⟩;refine G2 ?_;refine X0 ?_;refine G6 ?_;refine DF (A1 elC (fun _=>rfl) rfl rfl rfl (i:=1)) ?_
     refine G ?_;refine DF (Ai1 rfl hk.t rfl) ?_;refine G6 ?_;refine⟨rfl,rfl,?_⟩;refine G4 ?_;refine TAn 6 ?_ (fun hg=>?_) ?_
     rotate_left
     ·iterate 3 refine Gn hg ?_
      refine On hg (A1 elC (fun _=>rfl) rfl rfl rfl (i:=0)) ?_
      refine Gn hg ?_;refine On hg (Ko okC rfl rfl) ?_;exact Ez
     refine G ?_;refine TOr 9 ?_ (fun hg=>?_) ?_
     rotate_left
     ·iterate 2 refine Gn hg ?_
      refine Hq 6 _ ?_ rfl rfl rfl rfl rfl (Ft rfl rfl rfl rfl (by rw[hg];rfl)) (fun hg=>?_) (fun hg=>?_) ?_
      rotate_left
      ·iterate 3 refine Gn hg ?_
       refine On hg (A1 elC (fun _=>rfl) rfl rfl rfl (i:=0)) ?_
       refine Gn hg ?_;refine On hg (Ko okC rfl rfl) ?_;refine G ?_;refine⟨rfl,?_,?_⟩
       ·exact sb
       ·exact rfl
      ·iterate 6 refine Gn hg ?_
       refine G ?_;exact⟨rfl,sb⟩
      exact Ez
     refine G ?_;refine Ab rfl ?_ ?_<;>intro h5
     ·refine G5 ?_;refine B4 hw rfl ?_;exact congrArg iV ((if_neg (fun hh=>Bool.noConfusion (h1.symm.trans hh))).trans ((if_neg (fun hh=>Bool.noConfusion (h2.symm.trans hh))).trans ((if_pos h3).trans ((if_neg (fun hh=>Bool.noConfusion (h4.symm.trans hh))).trans (if_pos h5))))).symm
     ·refine G5 ?_;refine Ab rfl ?_ ?_<;>intro h6
      ·refine G5 ?_;refine B4 hw rfl ?_;exact congrArg iV ((if_neg (fun hh=>Bool.noConfusion (h1.symm.trans hh))).trans ((if_neg (fun hh=>Bool.noConfusion (h2.symm.trans hh))).trans ((if_pos h3).trans ((if_neg (fun hh=>Bool.noConfusion (h4.symm.trans hh))).trans ((if_neg (fun hh=>Bool.noConfusion (h5.symm.trans hh))).trans (if_pos h6)))))).symm
      ·refine G2 ?_;refine Gz 14 zH (hcs (k.hyps.get lb)) [(15,.bool (k.hyps.get lb).isSome)] (Ve _) rfl (fun hw=>?_) ?_
       refine XX 1 (l:=[]) trivial ?_;refine G6 ?_;refine DF (Vf rfl hk.h rfl) ?_;refine G3 ?_;refine DT (Bu ziC) (DT (By (vs:=zH) (vs':=hcs (k.hyps.get lb)) ldC rfl rfl (A7 (Jx _)) Eg (Hh (Jx _))) ?_);refine G2 ?_
       exact⟨(by intro e he;simp at he;rcases he with rfl|rfl<;>first|exact .refl|exact K4 hw),⟨rfl,trivial⟩,sb,rfl,rfl⟩
       refine G4 ?_;refine TAn 4 ?_ (fun hg=>?_) ?_
       rotate_left
       ·refine On hg (Ac (v:=.agg (hcs (k.hyps.get lb))) ldC rfl rfl (Wz (Jx _))) ?_;refine Gn hg ?_
        refine Bh rfl rfl rfl (by rw[hg];rfl) rfl rfl rfl rfl (Av9 _ ⟨lb,true,[t0,t1]⟩ _ hg (by simp)) ?_
        refine Gn hg ?_;exact Ez
       refine G ?_;refine Ab rfl ?_ ?_<;>intro h7
       ·refine G5 ?_;refine B4 hw rfl ?_;exact congrArg iV ((if_neg (fun hh=>Bool.noConfusion (h1.symm.trans hh))).trans ((if_neg (fun hh=>Bool.noConfusion (h2.symm.trans hh))).trans ((if_pos h3).trans ((if_neg (fun hh=>Bool.noConfusion (h4.symm.trans hh))).trans ((if_neg (fun hh=>Bool.noConfusion (h5.symm.trans hh))).trans ((if_neg (fun hh=>Bool.noConfusion (h6.symm.trans hh))).trans (if_pos h7))))))).symm
       ·refine G6 ?_;refine B4 hw rfl ?_;exact congrArg iV ((if_neg (fun hh=>Bool.noConfusion (h1.symm.trans hh))).trans ((if_neg (fun hh=>Bool.noConfusion (h2.symm.trans hh))).trans ((if_pos h3).trans ((if_neg (fun hh=>Bool.noConfusion (h4.symm.trans hh))).trans ((if_neg (fun hh=>Bool.noConfusion (h5.symm.trans hh))).trans ((if_neg (fun hh=>Bool.noConfusion (h6.symm.trans hh))).trans (if_neg (fun hh=>Bool.noConfusion (h7.symm.trans hh))))))))).symm
   ·refine G5 ?_;refine Ca (f216 m k tx _ hk Om) ?_;refine G7 ?_;refine Ab rfl ?_ ?_<;>intro h4
    ·refine G6 ?_;refine B4 hw rfl ?_;exact congrArg iV ((if_neg (fun hh=>Bool.noConfusion (h1.symm.trans hh))).trans ((if_neg (fun hh=>Bool.noConfusion (h2.symm.trans hh))).trans ((if_neg (fun hh=>Bool.noConfusion (h3.symm.trans hh))).trans (if_pos h4)))).symm
    ·refine G2 ?_;refine Gz 14 zH (hcs (k.hyps.get lb)) [(15,.bool (k.hyps.get lb).isSome)] (Ve _) rfl (fun hw=>?_) ?_
     refine XX 1 (l:=[]) trivial ?_;refine G6 ?_;refine DF (Vf rfl hk.h rfl) ?_;refine G3 ?_;refine DT (Bu ziC) (DT (By (vs:=zH) (vs':=hcs (k.hyps.get lb)) ldC rfl rfl (A7 (Jx _)) Eg (Hh (Jx _))) ?_);refine G2 ?_
     exact⟨(by intro e he;simp at he;rcases he with rfl|rfl<;>first|exact .refl|exact K4 hw),⟨rfl,trivial⟩,sb,rfl,rfl⟩
     refine G4 ?_;refine TAn 4 ?_ (fun hg=>?_) ?_
     rotate_left
     ·refine On hg (Ac (v:=.agg (hcs (k.hyps.get lb))) ldC rfl rfl (Wz (Jx _))) ?_;refine Gn hg ?_
      refine Bh rfl rfl rfl (by rw[hg];rfl) rfl rfl rfl rfl (Av9 _ ⟨lb,fl,tx⟩ _ hg gr) ?_
      refine Gn hg ?_;exact Ez
     refine G ?_;refine Ab rfl ?_ ?_<;>intro h5
     ·refine G5 ?_;refine B4 hw rfl ?_;exact congrArg iV ((if_neg (fun hh=>Bool.noConfusion (h1.symm.trans hh))).trans ((if_neg (fun hh=>Bool.noConfusion (h2.symm.trans hh))).trans ((if_neg (fun hh=>Bool.noConfusion (h3.symm.trans hh))).trans ((if_neg (fun hh=>Bool.noConfusion (h4.symm.trans hh))).trans (if_pos h5))))).symm
     ·refine G6 ?_;refine B4 hw rfl ?_;exact congrArg iV ((if_neg (fun hh=>Bool.noConfusion (h1.symm.trans hh))).trans ((if_neg (fun hh=>Bool.noConfusion (h2.symm.trans hh))).trans ((if_neg (fun hh=>Bool.noConfusion (h3.symm.trans hh))).trans ((if_neg (fun hh=>Bool.noConfusion (h4.symm.trans hh))).trans (if_neg (fun hh=>Bool.noConfusion (h5.symm.trans hh))))))).symm
theorem f215(m k ra rb lab ty h du σ)(hk:Hj σ m k)(hl:Fi σ ra lab)(ht:B8 sV σ rb ty)(hb:h.text.length<1000000):
  Cv 215 [knV m,.agg [.mp ra,.mp rb],.agg (eH h),.bool du] σ (iV (Vg k lab ty h du)):=f215p m k ra rb lab ty h.label h.floating h.text du σ hk hl ht hb
theorem Ab6{f:Nat}{args σ v}(he:Aa2 Ew.P f)(h:∀C w (vs:Array Value),RL C (nx σ) w args vs.toList->∃x,Calls Ew.P f vs w (fun e w'=>e=.returned x/\w'=w)/\R C (nx σ) w v x):Al Ew f args σ fun u τ=>u=v/\τ=σ:=by
 intro C w vs hs hg ha;obtain⟨x,h1,h2⟩:=h C w vs ha;refine⟨he,h1.mono fun e w' hq=>?_⟩
 obtain⟨rfl,rfl⟩:=hq;exact⟨v,σ,C,⟨rfl,rfl⟩,hs,cf_ _ _ _,h2⟩
theorem Ars{C N w s x}(h:R C N w (sV s) x):∃b:ByteArray,x=.string b/\b.data.toList=s:=by
 unfold sV R at h;obtain⟨b,h1,h2⟩:=h;exact⟨b,h1,Fu.1 h2⟩
theorem Art{C N w a b vs}(h:RL C N w [a,b] vs.toList):∃x y,vs=#[x,y]/\R C N w a x/\R C N w b y:=by
 obtain⟨l⟩:=vs
 match l,h with
 |[],h=>unfold RL at h;exact h.elim
 |[_],h=>unfold RL at h;have:=h.2;unfold RL at this;exact this.elim
 |[x,y],h=>unfold RL at h;have:=h.2;unfold RL at this;exact⟨x,y,rfl,h.1,this.1⟩
 |_::_::_::_,h=>unfold RL at h;have:=h.2;unfold RL at this;have:=this.2;unfold RL at this;exact this.elim
theorem f271(s t σ):Cv 271 [sV s,sV t] σ (iV (Lib.compareBytes s t)):=by
 refine Ab6 ⟨_,Tryz.func271,rfl,rfl⟩ fun C w vs ha=>?_
 obtain⟨x,y,rfl,hx,hy⟩:=Art ha;obtain⟨a,rfl,rfl⟩:=Ars hx;obtain⟨b,rfl,rfl⟩:=Ars hy
 exact⟨_,Tryz.strings_Compare a b w,by unfold iV R;rfl⟩
def Apc(m:SM Bool):List Str->SM Bool×Nat->SM Bool×Nat
 |[],q=>q
 |s::r,q=>Apc m r (if m.has s then(q.1.put s true,q.2+1)else q)
def Alh(m:SM Bool):List (List Str)->SM Bool×Nat->SM Bool×Nat
 |[],q=>q
 |t::r,q=>Alh m r (Apc m t q)
def occM(m:SM Bool)(ll:List (List Str)):SM Bool:=(Alh m ll ([],0)).1
def Sg(m:SM Bool)(ll:List (List Str)):AO:=.map 9 (Cn bV (occM m ll)) (Alh m ll ([],0)).2
theorem undB{N}(m):Jc N (Cn bV m)=true:=Aey (fun _=>rfl) m
theorem f247x(r m ll σ)(hm:Fi σ r m)(hb:ll.length<2000000)(hb2:∀t∈ll,t.length<1000000):Al Ew 247 [.mp r,slV eL 1 ll] σ fun v σ'=>v=.mp (nx σ)/\σ'=σ.new (Sg m ll):=by
 refine Aj Tryz.func247 rfl rfl fun hw hu0=>?_
 refine G6 ?_;refine O1 (Gx Cr) ?_;refine G10 ?_
 refine Bz ll.length (fun i0=>[(0,.mp r),(5,.mp (nx σ)),(11,slV eL 1 ll),(12,iV (.ofNat ll.length)),(13,iV (.ofNat i0))]) (fun i0 σ0=>nx σ<nx σ0/\Below (nx σ) σ σ0/\∃q,σ0.get (nx σ)=some (.map 9 (Cn bV q.1) q.2)/\Alh m ll ([],0)=Alh m (ll.drop i0) q) SL ⟨by rw[Ao];omega,Below.rfl'.new nl _,([],0),by rw[ag_,if_pos rfl];rfl,rfl⟩ ?_
 rintro i0 σ0 hi0 ⟨hn0,cp,q0,ho0,hf0⟩;refine G5 ?_;refine Ab rfl ?_ ?_<;>intro h1
 ·have bc:i0<ll.length:=by simpa using h1
  obtain⟨a0,ha0⟩:=Ar bc;have hd0:=A4 ha0;have hb3:=hb2 a0 (ab_ ha0)
  iterate 16 refine G ?_
  refine Bz a0.length (fun i2=>[(0,.mp r),(5,.mp (nx σ)),(11,slV eL 1 ll),(12,iV (.ofNat ll.length)),(13,iV (.ofNat i0)),(17,Af a0),(18,iV (.ofNat a0.length)),(19,iV (.ofNat i2))]) (fun i2 σ2=>nx σ<nx σ2/\Below (nx σ) σ σ2/\∃q,σ2.get (nx σ)=some (.map 9 (Cn bV q.1) q.2)/\Apc m a0 q0=Apc m (a0.drop i2) q) SL ⟨hn0,cp,q0,ho0,rfl⟩ ?_
  rintro i2 σ2 hi2 ⟨hn2,b7,q2,ho2,hf2⟩;refine G5 ?_;refine Ab rfl ?_ ?_<;>intro h2
  ·have bv:i2<a0.length:=by simpa using h2
   obtain⟨a2,ha2⟩:=Ar bv;have hd2:=A4 ha2;have hr:=hm.lt hw;have hm2:Fi σ2 r m:=hm.of_get (b7.2 r hr)
   iterate 13 refine G ?_
   refine O1 (De st9 Cr rfl hm2 rfl) ?_;refine G ?_;refine Ab rfl ?_ ?_<;>intro h3
   ·refine G3 ?_
    refine O1 (Gh (v:=true) st9 Cr rfl ho2 rfl rfl (fun te k1 k2=>by first|exact I0 k1 k2|exact I1 k1 k2|exact I2 k1 k2|exact Jn k1 k2|exact H6 k1 k2 rfl)) ?_
    refine G5 ?_
    refine⟨bv,SL,by rw[Aq];exact hn2,b7.set nl _,(q2.1.put a2 true,q2.2+1),by rw[aa_,if_pos rfl],by rw[hf2,hd2,Apc,if_pos h3]⟩
   ·refine G5 ?_
    refine⟨bv,SL,hn2,b7,q2,ho2,by rw[hf2,hd2,Apc,if_neg (by rw[h3];simp)]⟩
  ·have ba:a0.length<=i2:=by simpa using h2
   refine G5 ?_
   refine⟨bc,SL,hn2,b7,q2,ho2,by rw[hf0,hd0,Alh,hf2,ah_ ba];rfl⟩
 ·have bj:ll.length<=i0:=by simpa using h1
  refine G6 ?_
  have hq:Alh m ll ([],0)=q0:=by rw[hf0,ah_ bj];rfl
  subst hq;refine G ?_
  exact⟨_,rfl,_,σ.new (Sg m ll),Ds.newMap hw cp ho0 hn0 (undB _),by rw[Ao];exact dm_ _,.same (Ce (by rw[Ao];exact bl_ _)),rfl,rfl⟩
def cmpP(p q:Pr):Int:=if(!decide (Lib.compareBytes p.a q.a=0))=true then Lib.compareBytes p.a q.a else Lib.compareBytes p.b q.b
theorem f249(p q σ):Cv 249 [.agg (eP p),.agg (eP q)] σ (iV (cmpP p q)):=by
 refine Aj Tryz.func249 rfl rfl fun hw hu0=>?_
 iterate 13 refine G ?_
 refine Ca (f271 p.a q.a _) ?_;refine G7 ?_;refine Ab rfl ?_ ?_<;>intro h1
 ·refine G6 ?_;refine B4 hw rfl ?_;exact congrArg iV (if_pos h1).symm
 ·refine G7 ?_;refine Ca (f271 p.b q.b _) ?_;refine G3 ?_;refine B4 hw rfl ?_;exact congrArg iV (if_neg (fun hh=>Bool.noConfusion (h1.symm.trans hh))).symm
end Go.AM
