/- A part of the proof; shortened by program. -/
import Derived.Test.YtmkaboegdoadhaaGreatDoorP18
set_option maxRecDepth 100000
set_option maxHeartbeats 4000000
set_option linter.unusedSimpArgs false
set_option linter.unusedVariables false
namespace Go.AM
open Go Go.Proofs
theorem f56r(l:List Str)(s:Str)(a:Nat)(tl:List AV)(σ:Sto)(hg:σ.get a=some (.cells (l.flatMap e1++tl)))(hb:l.length<1000000):Cv 56 [.sr a 0 1 l.length none,sV s] σ (iV (A5 (fun x=>decide (s=x)) l 0)):=by
 refine Aj Tryz.func56 rfl rfl fun hw hu0=>?_
 refine G8 ?_;refine O1 (Bf slC rfl rfl rfl) ?_;refine G3 ?_;refine Bz l.length (fun i0=>[(0,.sr a 0 1 l.length none),(1,sV s),(7,iV (.ofNat l.length)),(8,iV (.ofNat i0))]) (fun i0 σ0=>σ0=σ/\A5 (fun x=>decide (s=x)) l 0=A5 (fun x=>decide (s=x)) (l.drop i0) i0) SL ⟨rfl,rfl⟩ ?_
 rintro i0 σ0 hi0 ⟨rfl,hf0⟩;refine G5 ?_;refine Ab rfl ?_ ?_<;>intro h1
 ·have bc:i0<l.length:=by simpa using h1
  obtain⟨a0,ha0⟩:=Ar bc;have hd0:=A4 ha0
  iterate 13 refine G ?_
  refine O1 (Br elC rfl rfl bc) (O1 (Dg (enc:=e1) (v:=sV a0) (fun _=>rfl) ldC rfl hg ha0 (fun _=>rfl)) ?_)
  refine G2 ?_;refine Ab rfl ?_ ?_<;>intro h2
  ·refine G6 ?_;refine B4 hw rfl ?_
   exact(by rw[hf0,hd0];simp only[A5,show decide (s=a0)=true from h2,cond_true];rfl)
  ·refine G5 ?_
   refine⟨bc,SL,rfl,by rw[hf0,hd0];simp only[A5,show decide (s=a0)=false from h2,cond_false]⟩
 ·have bj:l.length<=i0:=by simpa using h1
  refine G6 ?_;refine B4 hw rfl ?_
  exact(by rw[hf0,ah_ bj];rfl)
theorem f15r(l:List Str)(s:Str)(a:Nat)(tl:List AV)(σ:Sto)(hg:σ.get a=some (.cells (l.flatMap e1++tl)))(hb:l.length<1000000):Cv 15 [.sr a 0 1 l.length none,sV s] σ (.bool (l.any fun x=>decide (s=x))):=by
 refine Aj Tryz.func15 rfl rfl fun hw hu0=>?_
 refine G8 ?_;refine Ca (f56r l s a tl _ hg hb) ?_;refine G4 ?_;refine B4 hw rfl ?_;exact congrArg AV.bool (Gf l)
theorem f15w{N:Nat}(l:List Str)(s:Str)(v:AV)(σ:Sto)(h:Own σ N e1 1 l v)(hb:l.length<1000000):Al Ew 15 [v,sV s] σ fun u σ'=>u=.bool (l.any fun x=>decide (s=x))/\σ'=σ:=by
 rcases h with⟨rfl,rfl|rfl⟩|⟨a,tl,_,_,rfl,hg⟩
 ·exact(f15 [] s σ (by simp)).wk (.cons Agy .refl)
 ·exact(f15 [] s σ (by simp)).wk (.cons Dv .refl)
 ·exact f15r l s a tl σ hg hb
def Il(l:List Hp)(m:SM Hp):SM Hp:=l.foldl (fun m h=>m.put (txv h) h) m
theorem Afi:∀{l:List Hp} {m:SM Hp} {v:Str},(∃h∈l,txv h=v)->∃h∈l,(Il l m).get v=some h/\txv h=v
 |[],_,_,⟨_,h,_⟩=>by cases h
 |x::l,m,v,hx=>by
  by_cases hl:∃h∈l,txv h=v
  ·obtain⟨h,h1,h2⟩:=Afi (m:=m.put (txv x) x) hl;exact⟨h,aj_ _ h1,h2⟩
  ·obtain⟨h,hm,e⟩:=hx
   rcases an_.1 hm with rfl|hm
   ·refine⟨h,ap_ ..,?_,e⟩
    show(Il l (m.put (txv h) h)).get v=some h
    have key:∀{l:List Hp} {m:SM Hp},(∀y∈l,txv y≠v)->(Il l m).get v=m.get v:=by
     intro l
     induction l with
     |nil=>intro m _;rfl
     |cons y l ih=>
      intro m hy
      show(Il l (m.put (txv y) y)).get v=_
      rw[ih (fun z hz=>hy z (aj_ _ hz)),ch_,if_neg (gx_ (hy y (ap_ ..)))]
    rw[key (fun y hy e=>hl ⟨y,hy,e⟩),ch_,if_pos e.symm]
   grind
def zG:Gr:=⟨[],[]⟩
def Vk(g:Gr)(t0:Str):List Str:=if(!(g.sorts.any fun x=>decide (t0=x)))=true then g.sorts++[t0]else g.sorts
def varG(h:Hp)(v:Str)(g:Gr):Gr:=⟨Vk g (h.text.headD []),g.rules++[⟨h.label,h.text.headD [],[⟨v,[],0⟩],true⟩]⟩
def Kw(hy:SM Hp):List Str->Gr->Option Gr
 |[],g=>some g
 |v::r,g=>match hy.get v with
  |none=>none
  |some h=>if decide (h.text.headD []=[124,45])=true then none else Kw hy r (varG h v g)
def Acf(f:Fr)(g:Gr):Bool:=(f.thm||f.hyps.any (fun h=> !h.floating))|| !(g.sorts.any fun x=>decide (f.text.headD []=x))
def F6:List Fr->Gr->Option Gr
 |[],g=>some g
 |f::r,g=>if Acf f g=true then F6 r g else match Hs f with
  |none=>none
  |some rl=>F6 r ⟨g.sorts,g.rules++[rl]⟩
def ofF(d:Db):Gr×Int:=
 if(!decide (Ea d=0))=true then(zG,Ea d)
 else match Kw (Il (Bt d) []) d.vars zG with
  |none=>(zG,11)
  |some g=>match F6 d.frames g with
   |none=>(zG,150)
   |some g=>if(!decide (Eb g=0))=true then(zG,4)else(g,0)
def eRg(r:Rl):List AV:=[sV r.label,sV r.sort,.sv (r.parts.flatMap ePt) 3 r.parts.length (if r.var=true then some 1 else none),.bool r.var]
theorem Axi{σ τ:Sto}(r:Rl):FzL σ τ (eRg r) (eR r):=.cons (.same rfl) (.cons (.same rfl) (.cons (.sv gr (.same (A2 Acb _))) (.cons (.same rfl) .nil)))
theorem Acg{f:Fr}{r:Rl}(h:Hs f=some r):r.var=false:=by
 unfold Hs at h
 grind
theorem Axj{r:Rl}(h:r.var=false):eRg r=eR r:=by unfold eRg eR slV;rw[h];rfl
theorem Ahb{args:SM Nat}{hyps:List Hp}:∀{l:List Str} {met:SM Bool} {ps q:List Pt},axP args hyps l met ps=some q->q.length=ps.length+l.length
 |[],_,ps,q,h=>by cases h;rfl
 |s::l,met,ps,q,h=>by
  unfold axP at h
  split at h
  ·have:=Ahb h;grind
  ·split at h
   ·cases h
   ·have:=Ahb h;grind
theorem Alm{f:Fr}{r:Rl}(h:Hs f=some r):r.parts.length<=f.text.length:=by
 unfold Hs at h
 split at h
 ·cases h
 ·rename_i ps hp;cases h
  have:=Ahb hp
  grind
theorem Aje{pw:Str->Bool}{k:Kn}{f:Fr}{before:List Hp}(h:E9 pw k f before=0):∃t0 tl,f.text=t0::tl:=by
 have ht:(k.fr f.label).textF f.text=0:=by
  unfold E9 at h
  grind
 cases hx:f.text with
 |nil=>unfold Kn.textF at ht;rw[hx]at ht;simp at ht
 |cons a l=>exact⟨a,l,rfl⟩
theorem Aln{pw:Str->Bool}{d:Db}(h:Fy pw d=0){f:Fr}(hf:f∈d.frames):∃t0 tl,f.text=t0::tl:=by
 obtain⟨k',be',_,h2⟩:=To (Ab9 h) f hf;exact Aje h2
theorem Afj{d:Db}(h:Ea d=0):Fy Fb d=0/\(∀x∈Bt d,∃a b,x.text=[a,b])/\∀v∈d.vars,∃x∈Bt d,txv x=v:=by
 unfold Ea at h
 split at h
 ·rename_i hc
  split at h
  ·rename_i ho
   obtain⟨l,hl⟩:=bg_.1 ho
   have e:Bt d=l:=by unfold Bt;grind
   rw[e];exact⟨hc,Ai9 hc hl⟩
  ·cases h
 grind
theorem Ajf{vars:List Str}{s:Ord}:∀{n:Nat} {done:SM Bool} {out l:List Hp},W7 vars s n done out=some l->l.length=out.length+n
 |0,_,_,_,e=>by cases e;rfl
 |n+1,done,out,l,e=>by
  unfold W7 at e
  split at e
  ·cases e
  ·split at e
   ·cases e
   ·rw[Ajf e,bx_];simp;omega
theorem Ajg(d:Db):(Bt d).length<=d.vars.length:=by
 unfold Bt
 split
 ·cases ho:Fa d with
  |none=>simp
  |some l=>
   show l.length<=_
   unfold Fa at ho
   split at ho
   ·grind
   ·split at ho
    ·cases ho
    ·rw[Ajf ho];simp
 ·simp
def I9:List AV:=[nS,nS]
structure GSt (σ τ:Sto)(hy:SM Hp)(g:Gr)(vS vR:AV):Prop where
 n:nx σ+3<=nx τ
 g0:∀b,b<nx σ->τ.get b=σ.get b
 t:τ.get (nx σ)=some (.cells I9)
 m:B8 hV τ (nx σ+1) hy
 c:τ.get (nx σ+2)=some (.cells [vS,vR])
 s:Own τ (nx σ+3) e1 1 g.sorts vS
 r:Own τ (nx σ+3) eRg 4 g.rules vR
 d:∀a b x y,vS=.sr a 0 1 x none->vR=.sr b 0 4 y none->a≠b
theorem Ahc{σ:Sto}{N sz a:Nat}{α:Type}{enc:α->List AV}{l:List α}{v:AV}(h:Own σ N enc sz l v){n:Nat}(e:v=.sr a 0 sz n none):N<=a/\a<nx σ:=by
 rcases h with⟨_,rfl|rfl⟩|⟨b,tl,h1,h2,h3,_⟩
 ·cases e
 ·cases e
 grind
theorem GSt.addS{σ τ:Sto}{hy:SM Hp}{g:Gr}{vS vR:AV}(h:GSt σ τ hy g vS vR)(t0:Str)(bn:(g.sorts.length+1)*(16+1)<=sizeLim):
  ∃σ1 v1,B6 τ 1 16 vS 1 (e1 t0)=some (v1,σ1)/\v1.cellsN 1=some [v1]/\σ1.get (nx σ+2)=some (.cells [vS,vR])/\GSt σ (σ1.set (nx σ+2) (.cells [v1,vR])) hy ⟨g.sorts++[t0],g.rules⟩ v1 vR:=by
 have hn:=h.n
 obtain⟨σ1,h1,h2,h3,h4,h5⟩:=Own.app1 (sz:=1) (enc:=e1) (by':=16) (fun _=>rfl) (show nx σ+3<=nx τ from hn) h.s t0 bn
 have lo:∀b,b<nx σ+3->σ1.get b=τ.get b:=fun b hb=>h5 b Om fun c hc e=>by have:=(Ahc h.s hc).1;omega
 refine⟨σ1,_,h1,rfl,(lo _ Om).trans h.c,⟨gr,fun b hb=>by rw[aa_,if_neg Om,lo b Om];exact h.g0 b hb,by rw[aa_,if_neg Om,lo _ Om];exact h.t,(h.m.of_get (lo _ Om)).set Om,gr,h4.mono gr gr,?_,fun a b x y e1' e2=>?_⟩⟩
 ·refine h.r.mono gr fun a tl hv k1 k2 _=>?_
  rw[aa_,if_neg Om];exact h5 a k2 fun c hc e=>h.d c a _ _ hc hv e.symm
 ·cases e1';have:=(Ahc h.r e2).2;omega
theorem GSt.addR{σ τ:Sto}{hy:SM Hp}{g:Gr}{vS vR:AV}(h:GSt σ τ hy g vS vR)(r:Rl)(bn:(g.rules.length+1)*(64+1)<=sizeLim):
  ∃σ1 v1,B6 τ 4 64 vR 1 (eRg r)=some (v1,σ1)/\v1.cellsN 1=some [v1]/\σ1.get (nx σ+2)=some (.cells [vS,vR])/\GSt σ (σ1.set (nx σ+2) (.cells [vS,v1])) hy ⟨g.sorts,g.rules++[r]⟩ vS v1:=by
 have hn:=h.n
 obtain⟨σ1,h1,h2,h3,h4,h5⟩:=Own.app1 (sz:=4) (enc:=eRg) (by':=64) (fun _=>rfl) (show nx σ+3<=nx τ from hn) h.r r bn
 have lo:∀b,b<nx σ+3->σ1.get b=τ.get b:=fun b hb=>h5 b Om fun c hc e=>by have:=(Ahc h.r hc).1;omega
 refine⟨σ1,_,h1,rfl,(lo _ Om).trans h.c,⟨gr,fun b hb=>by rw[aa_,if_neg Om,lo b Om];exact h.g0 b hb,by rw[aa_,if_neg Om,lo _ Om];exact h.t,(h.m.of_get (lo _ Om)).set Om,gr,?_,h4.mono gr gr,fun a b x y e1' e2=>?_⟩⟩
 ·refine h.s.mono gr fun a tl hv k1 k2 _=>?_
  rw[aa_,if_neg Om];exact h5 a k2 fun c hc e=>h.d a c _ _ hv hc e
 ·cases e2;have:=(Ahc h.s e1').2;omega
theorem Ad2{pw:Str->Bool}{d:Db}(h:Fy pw d=0){f:Fr}(hf:f∈d.frames)(ha:(f.hyps.any fun h=> !h.floating)=false):∀x∈f.hyps,∃a b,x.text=[a,b]:=fun x hx=>by
 refine((Vh h hf).1 x (by simp[Fr.all,hx]) ?_).1
 grind
theorem Axk(o:Option Rl):axV o=.tup [.agg (eR (o.getD ⟨[],[],[],false⟩)),.bool o.isSome]:=by cases o<;>rfl
theorem Ar8{N:Nat}(g:Gr)(i:Int):AV.und N (.tup [grV g,iV i])=true:=by
 show((AV.und N (Af g.sorts)&&(AV.und N (slV eR 4 g.rules)&&true))&&(true&&true))=true
 rw[show AV.und N (Af g.sorts)=true from Fv D9 _,Fv Vj];rfl
theorem Ar9{σ:Sto}(hw:WFS σ):WFS (σ.new (.cells I9)):=hw.new rfl trivial
theorem f116g(f:Fr)(σ:Sto)(t0:Str)(hB:FrB f)(htx:∃tl,f.text=t0::tl)(hh:∀h∈f.hyps,∃a b,h.text=[a,b]):Cv 116 [.agg (eF f)] σ (.tup [.agg (eR ((Hs f).getD ⟨[],[],[],false⟩)),.bool (Hs f).isSome]):=by
 rw[←Axk];exact f116 f σ t0 hB htx hh
theorem f66(d:Db)(σ:Sto)(hB:DbB d)(hvf:d.vars.length+d.frames.length<1000000):Cv 66 [dbV d] σ (.tup [grV (ofF d).1,iV (ofF d).2]):=by
 refine Aj Tryz.func66 rfl rfl fun hw hu0=>?_
 refine G3 ?_;refine O1 (Bu ziC) ?_;refine G5 ?_;refine Ca (f114 d _ hB) ?_;refine G12 ?_;refine Ab rfl ?_ ?_<;>intro h1
 ·refine G4 ?_
  refine O1 (By (ad:=nx σ) (off:=0) (vs:=I9) (vs':=I9) (cs:=I9) ldC rfl rfl rfl (by simp only[Sto.cells];rw[ag_,if_pos rfl];rfl) rfl) ?_
  refine G2 ?_;have hF:ofF d=(zG,Ea d):=if_pos h1;refine G ?_
  exact⟨[.agg I9,iV (Ea d)],Am (ldC (t:=141)) rfl (by simp only[Sto.cells];rw[aa_,if_pos rfl]) rfl (Ba rfl rfl),.tup [grV zG,iV (Ea d)],σ,am_ hw ⟨gr,gr⟩,nl,.tup (.cons (.agg (.cons Ex (.cons Ex .nil))) (.cons (.same rfl) .nil)),by rw[hF],rfl⟩
 ·have he0:Ea d=0:=gr;obtain⟨hok,bs,jy⟩:=Afj he0;have hfl:=Ajg d;have hbv:=hB.v;have hbn:=hB.n;refine G3 ?_;refine O1 (Cd (n:=nx σ+1) Qo (nx1 rfl)) ?_;refine G10 ?_
  refine Bz (Bt d).length (fun i0=>[(1,.pv [Af d.consts,Af d.vars,slV eF 8 d.frames]),(2,.pr (nx σ) 0),(6,.mp (nx σ+1)),(28,slV eH 3 (Bt d)),(29,iV (.ofNat (Bt d).length)),(30,iV (.ofNat i0))]) (fun i0 σ0=>nx σ0=nx σ+2/\σ0.get (nx σ)=some (.cells I9)/\(∀b,b<nx σ->σ0.get b=σ.get b)/\∃m,B8 hV σ0 (nx σ+1) m/\(Il (Bt d) [])=Il ((Bt d).drop i0) m) SL ⟨gr,by rw[ag_,if_neg gr,ag_,if_pos rfl];rfl,gr,[],⟨0,by rw[ag_,if_pos (by rw[Ao])];rfl⟩,rfl⟩ ?_
  rintro i0 σ0 hi0 ⟨hn0,h20,hg0,m,hm0,hf0⟩;refine G5 ?_;refine Ab rfl ?_ ?_<;>intro h2
  ·have bc:i0<(Bt d).length:=gr;obtain⟨a0,ha0⟩:=Ar bc;have hd0:=A4 ha0;obtain⟨u0,u1,hux⟩:=bs a0 (ab_ ha0);obtain⟨vm,hvm⟩:=id hm0;refine G9 ?_;refine XS (l:=[]) trivial ?_;refine G3 ?_
   refine DF (A1 elC (fun _=>rfl) rfl rfl (by grind:a0.text[1]? =some u1) (i:=1)) ?_
   refine G2 ?_
   refine DT (Gh (v:=a0) st9 Qo rfl hvm rfl rfl (fun te k1 k2=>by first|exact I0 k1 k2|exact I1 k1 k2|exact I2 k1 k2|exact Jn k1 k2|exact H6 k1 k2 rfl)) ?_
   refine G5 ?_
   refine⟨bc,SL,gr,gr,gr,m.put u1 a0,dz_,by rw[hf0,hd0];show Il _ (m.put (txv a0) a0)=_;rw[Z2 hux]⟩
  ·have bj:(Bt d).length<=i0:=gr
   have bp:(Il (Bt d) [])=m:=by rw[hf0,ah_ bj];rfl
   rw[←bp]at hm0;refine G4 ?_
   refine O1 (Bj (n:=nx σ+2) ziC hn0) (O1 (By (ad:=nx σ+2) (off:=0) (vs:=I9) (vs':=I9) (cs:=I9) ldC rfl rfl rfl (by simp only[Sto.cells];rw[ag_,if_pos hn0.symm];rfl) rfl) ?_)
   refine G9 ?_
   have er:∃g vS vR,GSt σ ((σ0.new (.cells I9)).set (nx σ+2) (.cells I9)) (Il (Bt d) []) g vS vR/\g.sorts.length<=0/\g.rules.length<=0/\(∀r∈g.rules,r.parts.length<1000000)/\Kw (Il (Bt d) []) d.vars zG=Kw (Il (Bt d) []) (d.vars.drop 0) g:=by
    have hlo:∀b,b<nx σ+2->((σ0.new (.cells I9)).set (nx σ+2) (.cells I9)).get b=σ0.get b:=gr
    exact⟨zG,nS,nS,⟨gr,fun b hb=>(hlo b Om).trans (hg0 b hb),(hlo _ Om).trans h20,hm0.of_get (hlo _ Om),by rw[aa_,if_pos rfl];rfl,.nil,.nil,gr⟩,nl,nl,fun r hr=>(by cases hr),rfl⟩
   refine G ?_;refine Bz d.vars.length (fun i2=>[(1,.pv [Af d.consts,Af d.vars,slV eF 8 d.frames]),(2,.pr (nx σ) 0),(6,.mp (nx σ+1)),(9,.pr (nx σ+2) 0),(43,Af d.vars),(44,iV (.ofNat d.vars.length)),(45,iV (.ofNat i2))]) (fun i2 σ2=>∃g vS vR,GSt σ σ2 (Il (Bt d) []) g vS vR/\g.sorts.length<=i2/\g.rules.length<=i2/\(∀r∈g.rules,r.parts.length<1000000)/\Kw (Il (Bt d) []) d.vars zG=Kw (Il (Bt d) []) (d.vars.drop i2) g) SL er ?_
   rintro i2 σ2 hi2 ⟨g,vS,vR,hG2,hsl,hrl,hpl,hf2⟩;refine G5 ?_;refine Ab rfl ?_ ?_<;>intro h3
   ·have bv:i2<d.vars.length:=gr;obtain⟨a2,ha2⟩:=Ar bv;have hd2:=A4 ha2;obtain⟨x2,hx2,hxv⟩:=jy a2 (ab_ ha2);obtain⟨hh,hhm,hhg,hhv⟩:=Afi (m:=[]) ⟨x2,hx2,hxv⟩;obtain⟨u0,u1,hux⟩:=bs hh hhm;have hu:hh.text.headD []=u0:=gr
    iterate 13 refine G ?_
    refine O1 (Nr st9 Qo rfl hG2.m rfl hhg) ?_;refine G7 ?_
    refine O1 (A1 elC (fun _=>rfl) rfl rfl (by grind:hh.text[0]? =some u0) (i:=0)) ?_
    refine G ?_;refine O1 (H5 (q:=[124,45]) okC rfl rfl) ?_;refine G ?_;refine Ab rfl ?_ ?_<;>intro h4
    ·refine G3 ?_
     refine O1 (By (ad:=nx σ) (off:=0) (vs:=I9) (vs':=I9) (cs:=I9) ldC rfl rfl rfl (by simp only[Sto.cells,hG2.t]) rfl) ?_
     refine G2 ?_
     have hv0:Kw (Il (Bt d) []) d.vars zG=none:=by rw[hf2,hd2,Kw,hhg];grind
     have hF:ofF d=(zG,11):=(if_neg (fun hc=>Bool.noConfusion (h1.symm.trans hc))).trans (by rw[hv0])
     refine G ?_
     exact⟨[.agg I9,iV (11)],Am (ldC (t:=141)) rfl (by simp only[Sto.cells];rw[aa_,if_pos rfl]) rfl (Ba rfl rfl),.tup [grV zG,iV (11)],σ,am_ hw ⟨by rw[Aq];have:=hG2.n;omega,fun b hb=>by rw[aa_,if_neg Om];exact hG2.g0 b hb⟩,nl,.tup (.cons (.agg (.cons Ex (.cons Ex .nil))) (.cons (.same rfl) .nil)),by rw[hF],rfl⟩
    ·refine G3 ?_;refine XS (l:=[(15,[vS,sV u0],σ2,.bool (g.sorts.any fun x=>decide (u0=x)),σ2)]) ⟨f15w g.sorts u0 vS σ2 hG2.s Om,trivial⟩ ?_
     refine G ?_
     refine DF (Ac (u:=.pr (nx σ+2) 0) (cs:=[vS,vR]) ldC rfl (by simp only[Em,Sto.cells,hG2.c];rfl) rfl) ?_
     refine G2 ?_
     refine DF (A1 elC (fun _=>rfl) rfl rfl (by grind:hh.text[0]? =some u0) (i:=0)) ?_
     refine G4 ?_;refine Ab rfl ?_ ?_<;>intro h5
     ·obtain⟨σ3,v1,hap,hc1,hcS,hG3⟩:=hG2.addS u0 (by simp[sizeLim];omega)
      obtain⟨σ5,v2,jh,hc2,hcR,hG2''⟩:=hG3.addR (⟨hh.label,u0,[⟨a2,[],0⟩],true⟩:Rl) (by simp[sizeLim];omega)
      have eu:∀r∈g.rules++[(⟨hh.label,u0,[⟨a2,[],0⟩],true⟩:Rl)],r.parts.length<1000000:=gr;refine XS (l:=[]) trivial ?_;refine G ?_
      refine DF (Ac (u:=.pr (nx σ+2) 0) (cs:=[vS,vR]) ldC rfl (by simp only[Em,Sto.cells,hG2.c];rfl) rfl) ?_
      refine G2 ?_
      refine DF (A1 elC (fun _=>rfl) rfl rfl (by grind:hh.text[0]? =some u0) (i:=0)) ?_
      refine G ?_;refine DF (Ai elC byW rfl rfl rfl) (DT (Av elC rfl slC rfl rfl rfl (new:=e1 u0) rfl hap) ?_);refine G ?_
      refine DT (By (ad:=nx σ+2) (off:=0) (vs:=[vS,vR]) (vs':=[v1,vR]) (cs:=[v1]) ldC rfl rfl hc1 (by simp only[Sto.cells,hcS]) rfl) ?_
      refine G ?_;refine XS (l:=[]) trivial ?_;refine G ?_
      refine DF (Ac (u:=.pr (nx σ+2) 1) (cs:=[vR]) ldC rfl (by simp only[Em,Sto.cells,hG3.c];rfl) rfl) ?_
      refine G4 ?_
      refine DF (A1 elC (fun _=>rfl) rfl rfl (by grind:hh.text[0]? =some u0) (i:=0)) ?_
      refine G3 ?_;refine DF (Ai elC byW rfl rfl rfl) ?_;refine G ?_;refine DF (Ai elC byW rfl rfl rfl) (DT (Av elC rfl slC rfl rfl rfl (new:=eRg (⟨hh.label,u0,[⟨a2,[],0⟩],true⟩:Rl)) rfl jh) ?_);refine G ?_
      refine DT (By (ad:=nx σ+2) (off:=1) (vs:=[v1,vR]) (vs':=[v1,v2]) (cs:=[v2]) ldC rfl rfl hc2 (by simp only[Sto.cells,hcR]) rfl) ?_
      refine G5 ?_
      refine⟨bv,SL,⟨g.sorts++[u0],g.rules++[(⟨hh.label,u0,[⟨a2,[],0⟩],true⟩:Rl)]⟩,v1,v2,hG2'',by simp;omega,by simp;omega,eu,by rw[hf2,hd2,Kw,hhg];simp only[hu];rw[if_neg gr];unfold varG Vk;grind⟩
     ·obtain⟨σ5,v2,jh,hc2,hcR,hG2''⟩:=hG2.addR (⟨hh.label,u0,[⟨a2,[],0⟩],true⟩:Rl) (by simp[sizeLim];omega)
      have eu:∀r∈g.rules++[(⟨hh.label,u0,[⟨a2,[],0⟩],true⟩:Rl)],r.parts.length<1000000:=gr;refine G ?_;refine XS (l:=[]) trivial ?_;refine G ?_
      refine DF (Ac (u:=.pr (nx σ+2) 1) (cs:=[vR]) ldC rfl (by simp only[Em,Sto.cells,hG2.c];rfl) rfl) ?_
      refine G4 ?_
      refine DF (A1 elC (fun _=>rfl) rfl rfl (by grind:hh.text[0]? =some u0) (i:=0)) ?_
      refine G3 ?_;refine DF (Ai elC byW rfl rfl rfl) ?_;refine G ?_;refine DF (Ai elC byW rfl rfl rfl) (DT (Av elC rfl slC rfl rfl rfl (new:=eRg (⟨hh.label,u0,[⟨a2,[],0⟩],true⟩:Rl)) rfl jh) ?_);refine G ?_
      refine DT (By (ad:=nx σ+2) (off:=1) (vs:=[vS,vR]) (vs':=[vS,v2]) (cs:=[v2]) ldC rfl rfl hc2 (by simp only[Sto.cells,hcR]) rfl) ?_
      refine G5 ?_
      refine⟨bv,SL,⟨g.sorts,g.rules++[(⟨hh.label,u0,[⟨a2,[],0⟩],true⟩:Rl)]⟩,vS,v2,hG2'',by simp;omega,by simp;omega,eu,by rw[hf2,hd2,Kw,hhg];simp only[hu];rw[if_neg gr];unfold varG Vk;grind⟩
   ·have ba:d.vars.length<=i2:=gr
    have hv2:Kw (Il (Bt d) []) d.vars zG=some g:=by rw[hf2,ah_ ba];rfl
    obtain⟨gv,hgv⟩:∃x,x=g:=⟨_,rfl⟩;rw[←hgv]at hv2
    have je:∃g4 vS vR,GSt σ σ2 (Il (Bt d) []) g4 vS vR/\g4.sorts.length<=d.vars.length/\g4.rules.length<=d.vars.length+0/\(∀r∈g4.rules,r.parts.length<1000000)/\F6 d.frames gv=F6 (d.frames.drop 0) g4:=⟨g,vS,vR,hG2,by omega,by omega,hpl,gr⟩
    iterate 14 refine G ?_
    refine Bz d.frames.length (fun i4=>[(2,.pr (nx σ) 0),(9,.pr (nx σ+2) 0),(13,.fn (.func 115) [] []),(92,slV eF 8 d.frames),(93,iV (.ofNat d.frames.length)),(94,iV (.ofNat i4))]) (fun i4 σ4=>∃g vS vR,GSt σ σ4 (Il (Bt d) []) g vS vR/\g.sorts.length<=d.vars.length/\g.rules.length<=d.vars.length+i4/\(∀r∈g.rules,r.parts.length<1000000)/\F6 d.frames gv=F6 (d.frames.drop i4) g) SL je ?_
    rintro i4 σ4 hi4 ⟨g,vS,vR,hG4,hsl,hrl,hpl,hf4⟩;refine G5 ?_;refine Ab rfl ?_ ?_<;>intro h4
    ·have dy:i4<d.frames.length:=gr;obtain⟨a4,ha4⟩:=Ar dy;have hd4:=A4 ha4;have hFa:=hB.f a4 (ab_ ha4);obtain⟨t0,tl,htx⟩:=Aln hok (ab_ ha4);have htd:a4.text.headD []=t0:=gr;refine G10 ?_
     refine Gg [(115,.bool ((a4.thm||a4.hyps.any (fun h=> !h.floating))|| !(g.sorts.any fun x=>decide (t0=x))))] ?_ ?_
     ·rcases av_ (a4.thm)with hg2|hg2
      ·refine XS (l:=[(45,[slV eH 3 a4.hyps,.fn (.func 115) [] []],σ4,.bool (a4.hyps.any fun h=> !h.floating),σ4),(15,[vS,sV t0],σ4,.bool (g.sorts.any fun x=>decide (t0=x)),σ4)]) ⟨f45 (fun h=> !h.floating) a4.hyps 115 [] σ4 (by have:=hFa.h;omega) (fun a _=>f115 a σ4),f15w g.sorts t0 vS σ4 hG4.s Om,trivial⟩ ?_
       refine G6 ?_;refine K5 rfl rfl rfl rfl (R1 hg2) rfl rfl ?_;refine G8 ?_;refine K5 rfl rfl rfl rfl (R1 hg2) rfl rfl ?_;refine G3 ?_;exact⟨⟨Cb,trivial⟩,sb,rfl⟩
      ·rcases av_ ((a4.hyps.any fun h=> !h.floating))with hg8|hg8
       ·refine XS (l:=[(45,[slV eH 3 a4.hyps,.fn (.func 115) [] []],σ4,.bool (a4.hyps.any fun h=> !h.floating),σ4),(15,[vS,sV t0],σ4,.bool (g.sorts.any fun x=>decide (t0=x)),σ4)]) ⟨f45 (fun h=> !h.floating) a4.hyps 115 [] σ4 (by have:=hFa.h;omega) (fun a _=>f115 a σ4),f15w g.sorts t0 vS σ4 hG4.s Om,trivial⟩ ?_
        refine G6 ?_;refine Ol rfl rfl rfl rfl (R2 hg8 hg2) rfl rfl (Bq rfl rfl Bv) (DF (Au rfl (R2 hg8 hg2) rfl) (DF (Ag rfl) (Wx (w:=R2 hg8 hg2) (Wx (w:=R2 hg8 hg2) (Wx (w:=R2 hg8 hg2) (Wx (w:=R2 hg8 hg2) (Wx (w:=R2 hg8 hg2) ?_)))))));refine Wx (w:=R2 hg8 hg2) (K5 rfl rfl rfl rfl (R2 hg8 hg2) rfl rfl ?_);refine G3 ?_;exact⟨⟨congrArg (fun b=>some (AV.bool b)) (R2 hg8 hg2),trivial⟩,sb,rfl⟩
       ·refine XS (l:=[(45,[slV eH 3 a4.hyps,.fn (.func 115) [] []],σ4,.bool (a4.hyps.any fun h=> !h.floating),σ4),(15,[vS,sV t0],σ4,.bool (g.sorts.any fun x=>decide (t0=x)),σ4)]) ⟨f45 (fun h=> !h.floating) a4.hyps 115 [] σ4 (by have:=hFa.h;omega) (fun a _=>f115 a σ4),f15w g.sorts t0 vS σ4 hG4.s Om,trivial⟩ ?_
        refine DF (Ae fdC rfl rfl) (DF (Ac ldC rfl rfl rfl) (DF (Ag rfl) (Wn (w:=R2 hg8 hg2) (Ae fdC rfl rfl) (Wn (w:=R2 hg8 hg2) (Ac ldC rfl rfl rfl) (Wn (w:=R2 hg8 hg2) (Ag rfl) (Ol rfl rfl rfl rfl (R2 hg8 hg2) rfl rfl (Bq rfl rfl Bv) (DF (Au rfl (R2 hg8 hg2) rfl) ?_)))))))
        refine DF (Ag rfl) (Wn (w:=R2 hg8 hg2) (Ae fdC rfl rfl) (Wn (w:=R2 hg8 hg2) (Ac (u:=.pr (nx σ+2) 0) (cs:=[vS,vR]) ldC rfl (by simp only[Em,Sto.cells,hG4.c];rfl) rfl) ?_))
        refine G2 ?_
        refine Wn (w:=R2 hg8 hg2) (A1 elC (fun _=>rfl) rfl rfl (by grind:a4.text[0]? =some t0) (i:=0)) ?_
        refine Wn (w:=R2 hg8 hg2) (Ac ldC rfl rfl rfl) (Ol rfl rfl rfl rfl (R2 hg8 hg2) rfl rfl (Bq rfl rfl (Dw (by decide) Bv)) ?_)
        refine Wn (w:=R2 hg8 hg2) (Dc rfl) (DF (Au rfl (R2 hg8 hg2) rfl) (C1 ?_));exact⟨⟨congrArg (fun b=>some (AV.bool b)) (R2 hg8 hg2),trivial⟩,sb,rfl⟩
     refine Ab rfl ?_ ?_<;>intro h5
     ·replace h5:Acf a4 g=true:=by unfold Acf;grind
      refine G5 ?_
      refine⟨dy,SL,g,vS,vR,hG4,hsl,by omega,hpl,by rw[hf4,hd4,F6,if_pos h5]⟩
     ·replace h5:Acf a4 g=false:=by unfold Acf;grind
      have hfl:∀x∈a4.hyps,∃a b,x.text=[a,b]:=Ad2 hok (ab_ ha4) (by unfold Acf at h5;grind)
      refine G4 ?_;refine Ca (f116g a4 σ4 t0 hFa ⟨tl,htx⟩ hfl) ?_;refine G12 ?_;refine Ab rfl ?_ ?_<;>intro h6
      ·have hax:Hs a4=none:=by simpa using h6
       refine G3 ?_
       refine O1 (By (ad:=nx σ) (off:=0) (vs:=I9) (vs':=I9) (cs:=I9) ldC rfl rfl rfl (by simp only[Sto.cells,hG4.t]) rfl) ?_
       refine G2 ?_
       have hfr:F6 d.frames gv=none:=by rw[hf4,hd4,F6,if_neg gr,hax]
       have hF:ofF d=(zG,150):=(if_neg (fun hc=>Bool.noConfusion (h1.symm.trans hc))).trans gr
       refine G ?_
       exact⟨[.agg I9,iV (150)],Am (ldC (t:=141)) rfl (by simp only[Sto.cells];rw[aa_,if_pos rfl]) rfl (Ba rfl rfl),.tup [grV zG,iV (150)],σ,am_ hw ⟨by rw[Aq];have:=hG4.n;omega,fun b hb=>by rw[aa_,if_neg Om];exact hG4.g0 b hb⟩,nl,.tup (.cons (.agg (.cons Ex (.cons Ex .nil))) (.cons (.same rfl) .nil)),by rw[hF],rfl⟩
      ·obtain⟨rl,hax⟩:∃rl,Hs a4=some rl:=bg_.1 gr
       obtain⟨σ5,v1,hap,hc1,hcR,hG5⟩:=hG4.addR rl (by simp[sizeLim];omega)
       have eu:∀r∈g.rules++[rl],r.parts.length<1000000:=fun r hr=>by
        rcases bb_.1 hr with hr|hr
        ·exact hpl r hr
        ·rw[ao_.1 hr];exact gc_ (Alm hax) hFa.t
       refine G3 ?_
       refine O1 (Ac (u:=.pr (nx σ+2) 1) (cs:=[vR]) ldC rfl (by simp only[Em,Sto.cells,hG4.c];rfl) rfl) ?_
       refine G ?_
       refine Cx (Ai elC byW rfl rfl rfl) (Dv (len:=1)) rfl rfl (O1 (Av elC rfl slC rfl rfl rfl (new:=eRg rl) (by rw[hax,Axj (Acg hax)];rfl) hap) ?_)
       refine G ?_
       refine O1 (By (ad:=nx σ+2) (off:=1) (vs:=[vS,vR]) (vs':=[vS,v1]) (cs:=[v1]) ldC rfl rfl hc1 (by simp only[Sto.cells,hcR]) rfl) ?_
       refine G5 ?_
       refine⟨dy,SL,⟨g.sorts,g.rules++[rl]⟩,vS,v1,hG5,hsl,by simp;omega,eu,by rw[hf4,hd4,F6,if_neg gr,hax]⟩
    ·have jn:d.frames.length<=i4:=gr
     have hfr:F6 d.frames gv=some g:=by rw[hf4,ah_ jn];rfl
     refine G ?_
     have hGB:GrB g:=⟨by omega,by omega,hpl⟩
     have hn4:=hG4.n
     refine Av2 (σ.new (.cells I9)) [(2,.pr (nx σ) 0),(9,.pv [Af g.sorts,slV eR 4 g.rules])] (a_ (Ar9 hw) gr fun b hb=>?_) gr ⟨⟨_,rfl,.same ?_⟩,⟨_,rfl,.pr hG4.c (by rw[ag_,if_neg Om];exact hw.none Om) (.cons (hG4.s.fz (fun _=>rfl) (fun a ha=>by rw[ag_,if_neg Om];exact hw.none Om) (A2 D9 _)) (.cons (hG4.r.fzE (fun _=>rfl) (fun a ha=>by rw[ag_,if_neg Om];exact hw.none Om) Axi) .nil))⟩,trivial⟩ ?_
     ·rw[Ao]at hb;rw[ag_]
      split
      ·rename_i e;rw[e];exact hG4.t
      ·exact hG4.g0 b Om
     ·unfold AV.und;rw[Ao];simp
     refine G4 ?_;refine Ca (f117 g _ hGB) ?_;refine G2 ?_;refine Ab rfl ?_ ?_<;>intro h5
     ·refine G3 ?_
      refine O1 (By (ad:=nx σ) (off:=0) (vs:=I9) (vs':=I9) (cs:=I9) ldC rfl rfl rfl (by simp only[Sto.cells];grind) rfl) ?_
      refine G2 ?_;have hF:ofF d=(zG,4):=(if_neg (fun hc=>Bool.noConfusion (h1.symm.trans hc))).trans gr
      refine G ?_
      exact⟨[.agg I9,iV (4)],Am (ldC (t:=141)) rfl (by simp only[Sto.cells];rw[aa_,if_pos rfl]) rfl (Ba rfl rfl),.tup [grV zG,iV (4)],σ,am_ hw ⟨gr,gr⟩,nl,.tup (.cons (.agg (.cons Ex (.cons Ex .nil))) (.cons (.same rfl) .nil)),by rw[hF],rfl⟩
     ·refine G4 ?_
      refine O1 (By (ad:=nx σ) (off:=0) (vs:=I9) (vs':=[Af g.sorts,slV eR 4 g.rules]) (cs:=[Af g.sorts,slV eR 4 g.rules]) ldC rfl rfl rfl (by simp only[Sto.cells];grind) rfl) ?_
      refine G2 ?_;have hF:ofF d=(g,0):=(if_neg (fun hc=>Bool.noConfusion (h1.symm.trans hc))).trans gr
      refine G ?_
      exact⟨[grV g,iV 0],Am (ldC (t:=141)) rfl (by simp only[Sto.cells];rw[aa_,if_pos rfl]) rfl (Ba rfl rfl),.tup [grV g,iV 0],σ,am_ hw ⟨gr,gr⟩,nl,.same (Ar8 _ _),by rw[hF],rfl⟩
mutual
def M6:Ax->Nat
 |.node _ ks=>1+Ach ks
def Ach:List Ax->Nat
 |[]=>0
 |t::r=>M6 t+Ach r
end
mutual
def dpT:Ax->Nat->Nat
 |.node _ ks,lv=>dpL ks (lv+1) lv
def dpL:List Ax->Nat->Nat->Nat
 |[],_,d=>d
 |t::r,lv,d=>dpL r lv (max d (dpT t lv))
end
theorem Asa(t:Ax):1<=M6 t:=by cases t;unfold M6;omega
theorem Ajh:∀l:List Ax,l.length<=Ach l
 |[]=>nl
 |t::r=>by have:=Ajh r;have:=Asa t;simp only[as_,Ach];omega
theorem Cg(l:Str)(ks:List Ax):En (.node l ks)=.agg [sV l,slV eT 2 ks]:=by rw[En,Cl]
section
open Go
abbrev It:=Nat×Nat×Nat
abbrev Sp:=Str×Nat×Nat
def rPt(g:Gr)(r:Nat):List Pt:=match g.rules[r]? with|some x=>x.parts|none=>[]
def rSo(g:Gr)(r:Nat):Str:=match g.rules[r]? with|some x=>x.sort|none=>[]
def nxI(g:Gr)(x:It):Option Pt:=(rPt g x.1)[x.2.1]?
def E5(g:Gr)(s:Str):List Nat:=(List.range g.rules.length).filter fun i=>decide (rSo g i=s)
def mxP(g:Gr):Nat:=(g.rules.map (·.parts.length)).foldr max 0
def Cu(g:Gr)(n:Nat):Nat:=g.rules.length*((mxP g+1)*(n+1))
structure Ch where
 sets:List (List It)
 done:List Sp
def Ch.set(S:Ch)(at':Nat):List It:=S.sets.getD at' []
def Ch.add(S:Ch)(at':Nat)(x:It):Ch:=if x∈S.set at' then S else{ S with sets:=S.sets.set at' (S.set at'++[x]) }
def Ch.adds(at':Nat)(l:List It)(S:Ch):Ch:=l.foldl (fun S x=>S.add at' x) S
def Su(g:Gr)(s:Str)(at':Nat):List It:=(E5 g s).map fun r=>(r,0,at')
def Ch.pred(g:Gr)(S:Ch)(s:Str)(at':Nat):Ch:=S.adds at' (Su g s at')
def upI(x:It):It:=(x.1,x.2.1+1,x.2.2)
def Fc(g:Gr)(s:Sp)(x:It)(S:Ch):Ch:=match nxI g x with
 |some p=>if p.sort=s.1 then S.add s.2.2 (upI x)else S
 |none=>S
def adv(g:Gr)(s:Sp):Nat->Nat->Ch->Ch
 |0,_,S=>S
 |f+1,i,S=>match(S.set s.2.1)[i]? with
  |none=>S
  |some x=>adv g s f (i+1) (Fc g s x S)
def Dj(g:Gr)(n at':Nat)(x:It)(S:Ch):Ch:=match nxI g x with
 |none=>if(rSo g x.1,x.2.2,at')∈S.done then S else adv g (rSo g x.1,x.2.2,at') (Cu g n+1) 0 { S with done:=(rSo g x.1,x.2.2,at')::S.done }
 |some p=>if p.sort=[]then S else if(p.sort,at',at')∈S.done then(S.pred g p.sort at').add at' (upI x)else S.pred g p.sort at'
def cls(g:Gr)(n at':Nat):Nat->Nat->Ch->Ch
 |0,_,S=>S
 |f+1,i,S=>match(S.set at')[i]? with
  |none=>S
  |some x=>cls g n at' f (i+1) (Dj g n at' x S)
def Ahd(g:Gr)(sym:Str)(x:It):Option It:=match nxI g x with
 |some p=>if p.sort=[]/\p.symbol=sym then some (upI x)else none
 |none=>none
def Ma(g:Gr)(l:List It)(sym:Str):List It:=l.filterMap (Ahd g sym)
def Ch.open'(S:Ch):Ch:={ S with sets:=S.sets++[[]] }
def Ch.scan(g:Gr)(text:List Str)(at':Nat)(S:Ch):Option Ch:=
 match Ma g (S.set at') (text.getD at' [])with
 |[]=>none
 |l=>some (S.open'.adds (at'+1) l)
def Aji(g:Gr)(text:List Str):Nat->Nat->Ch->Ch
 |0,_,S=>S
 |f+1,at',S=>match(if at'=text.length then none else(cls g text.length at' (Cu g text.length+1) 0 S).scan g text at')with
  |none=>cls g text.length at' (Cu g text.length+1) 0 S
  |some S'=>Aji g text f (at'+1) S'
def Aci(g:Gr)(sort:Str):Ch:=Ch.pred g ⟨[[]],[]⟩ sort 0
def Ej(g:Gr)(sort:Str)(text:List Str):Ch:=Aji g text (text.length+1) 0 (Aci g sort)
def ldP(D:List Sp)(text:List Str)(to:Nat):List Pt->Nat->Bool
 |[],a=>decide (a=to)
 |p::ps,a=>if p.sort=[]then decide (a<to)&&decide (text.getD a []=p.symbol)&&ldP D text to ps (a+1)
  else(List.range' a (to+1-a)).any fun e=>decide ((p.sort,a,e)∈D)&&ldP D text to ps e
def wyP(D:List Sp)(text:List Str)(to:Nat):List Pt->Nat->List Sp->List (List Sp)
 |[],a,kids=>if ldP D text to [] a then[kids]else[]
 |p::ps,a,kids=>if ldP D text to (p::ps) a=false then[]else
  if p.sort=[]then wyP D text to ps (a+1) kids
  else(List.range' a (to+1-a)).flatMap fun e=>if(p.sort,a,e)∈D then wyP D text to ps e (kids.set p.arg.toNat (p.sort,a,e))else[]
def zSp:Sp:=([],0,0)
def Qx(g:Gr)(D:List Sp)(text:List Str)(r:Nat)(a to:Nat):List (List Sp):=
 wyP D text to (rPt g r) a (List.replicate ((rPt g r).filter fun p=>decide (p.sort≠[])).length zSp)
structure Wy where
 rule:Nat
 kids:List Nat
structure Nde where
 sp:Sp
 ways:List Wy
def D2(L:List Sp)(s:Sp):Nat×List Sp:=if s∈L then(L.idxOf s,L)else(L.length,L++[s])
def Ct:List Sp->List Sp->List Nat->List Nat×List Sp
 |L,[],o=>(o,L)
 |L,s::r,o=>Ct (D2 L s).2 r (o++[(D2 L s).1])
structure Pk where
 total:Nat
 list:List Sp
 ways:List Wy
def F7(x:Nat×List Sp)(P:Pk):Option Pk:=
 if P.total+1>40000∨(Ct P.list x.2 []).2.length>4000 then none
 else some ⟨P.total+1,(Ct P.list x.2 []).2,P.ways++[⟨x.1,(Ct P.list x.2 []).1⟩]⟩
def Pj:List (Nat×List Sp)->Pk->Option Pk
 |[],P=>some P
 |x::r,P=>match F7 x P with|none=>none|some P'=>Pj r P'
def Ajj(g:Gr)(D:List Sp)(text:List Str)(s:Sp):List (Nat×List Sp):=(E5 g s.1).flatMap fun r=>(Qx g D text r s.2.1 s.2.2).map fun l=>(r,l)
def Pf(g:Gr)(D:List Sp)(text:List Str):Nat->Nat->Nat->List Sp->List Nde->Option (List Nde)
 |0,_,_,_,_=>none
 |f+1,i,total,L,nodes=>match L[i]? with
  |none=>some nodes
  |some s=>match Pj (Ajj g D text s) ⟨total,L,[]⟩with
   |none=>none
   |some P=>Pf g D text f (i+1) P.total P.list (nodes++[⟨s,P.ways⟩])
def Im(g:Gr)(D:List Sp)(text:List Str)(w:Sp):Option (List Nde):=Pf g D text 4002 0 0 [w] []
def mxT:Nat:=1000000001
abbrev Cs:=List Nat×List Nat
def Ad3(rec:Nat->Cs->Option Cs):List Nat->Nat->Cs->Option (Nat×Cs)
 |[],p,c=>some (p,c)
 |k::r,p,c=>match rec k c with
  |none=>none
  |some c'=>Ad3 rec r (min (p*c'.2.getD k 0) mxT) c'
def Acj(rec:Nat->Cs->Option Cs):List Wy->Nat->Cs->Option (Nat×Cs)
 |[],t,c=>some (t,c)
 |w::r,t,c=>match Ad3 rec w.kids 1 c with
  |none=>none
  |some (p,c')=>Acj rec r (min (t+p) mxT) c'
def La(F:List Nde):Nat->Nat->Cs->Option Cs
 |0,_,_=>none
 |f+1,n,c=>if c.1.getD n 0=1 then none else if c.1.getD n 0=2 then some c else
  match F[n]? with
  |none=>none
  |some x=>match Acj (La F f) x.ways 0 (c.1.set n 1,c.2)with
   |none=>none
   |some (t,c')=>some (c'.1.set n 2,c'.2.set n t)
def Yx(F:List Nde):Option Cs:=La F (F.length+1) 0 (List.replicate F.length 0,List.replicate F.length 0)
def Gp(tr:List Nat)(w:Wy):Nat:=w.kids.foldl (fun n k=>min (n*tr.getD k 0) mxT) 1
def Md(g:Gr)(r:Nat):Str:=match g.rules[r]? with|some x=>x.label|none=>[]
def Yy(g:Gr)(F:List Nde)(tr:List Nat):Nat->Nat->Ax
 |0,_=>.node [] []
 |f+1,n=>match F[n]? with
  |none=>.node [] []
  |some x=>match x.ways.find? fun w=>decide (Gp tr w≠0)with
   |none=>.node [] []
   |some w=>.node (Md g w.rule) (w.kids.map (Yy g F tr f))
def Ek:Ax:=.node [] []
def Fj(g:Gr)(sort:Str)(text:List Str):Option (List Nde)×Int:=
 if Eb g≠0 then(none,Eb g)else if sort∉g.sorts then(none,5)else if text.length>200 then(none,4)else
 if(Ej g sort text).sets.length<=text.length∨(sort,0,text.length)∉(Ej g sort text).done then(none,160)else
 match Im g (Ej g sort text).done text (sort,0,text.length)with
 |none=>(none,15)
 |some F=>(some F,0)
def D7(t:Str):Str:=if t=[124,45]then[119,102,102]else t
def Mu(g:Gr)(F:List Nde):Ax×Int:=match Yx F with
 |none=>(Ek,191)
 |some c=>if c.2.getD 0 0≠1 then(Ek,191)else
  if M6 (Yy g F c.2 (F.length+1) 0)>4000 then(Ek,4)else if dpT (Yy g F c.2 (F.length+1) 0) 1>100 then(Ek,9)else(Yy g F c.2 (F.length+1) 0,0)
def B1(d:Db)(l:List Str):Ax×Int:=
 if(ofF d).2≠0 then(Ek,(ofF d).2)else match l with
 |[]=>(Ek,2)
 |t::text=>if D7 t∉(ofF d).1.sorts then(Ek,11)else match Fj (ofF d).1 (D7 t) text with
  |(none,e)=>(Ek,if e=160 then 190 else e)
  |(some F,_)=>Mu (ofF d).1 F
end
section
open Go
theorem Vl:∀(N:Nat) (l:List Nat),l.Nodup->(∀x∈l,x<N)->l.length<=N
 |0,[],_,_=>nl
 |0,x::_,_,h=>absurd (h x (ap_ ..)) (gz_ _)
 |N+1,l,hn,h=>by
  by_cases hm:N∈l
  ·have:=Vl N (l.erase N) (hn.erase N) gr
   grind
  ·have:=Vl N l hn gr;omega
theorem Ajk{K a b c d:Nat}(hb:b<K)(hd:d<K)(h:a*K+b=c*K+d):a=c/\b=d:=by
 have hK:0<K:=by omega
 have h1:=congrArg (· / K) h;have h2:=congrArg (·%K) h;simp only[Nat.mul_comm _ K,Nat.mul_add_div hK,Nat.mul_add_mod,Nat.div_eq_of_lt hb,Nat.div_eq_of_lt hd,go_ hb,go_ hd]at h1 h2
 grind
theorem Z4{K A a b:Nat}(ha:a<A)(hb:b<K):a*K+b<A*K:=by
 have:(a+1)*K<=A*K:=el_ K ha
 grind
theorem Afk{α β:Type}{f:α->β}:∀{l:List α},l.Nodup->(∀x∈l,∀y∈l,f x=f y->x=y)->(l.map f).Nodup
 |[],_,_=>dk_
 |x::l,hn,h=>by
  rw[cn_,ed_];rw[ed_]at hn;refine⟨fun hm=>?_,Afk hn.2 fun a ha b hb=>h a (aj_ _ ha) b (aj_ _ hb)⟩
  grind
theorem W9{g:Gr}{r:Nat}:(rPt g r).length<=mxP g:=by
 unfold rPt
 split
 ·rename_i x hx
  unfold mxP;have hm:x.parts.length∈g.rules.map (·.parts.length):=bt_.2 ⟨x,au_.2 ⟨_,hx⟩,rfl⟩
  generalize g.rules.map (·.parts.length)=l at hm
  induction l with
  |nil=>cases hm
  |cons y l ih=>
   simp only[List.foldr_cons]
   rcases an_.1 hm with rfl|hm
   ·grind
   ·grind
 grind
def Vm(g:Gr)(at':Nat)(x:It):Prop:=x.1<g.rules.length/\x.2.1<=(rPt g x.1).length/\x.2.2<=at'
def Anh(g:Gr)(at':Nat)(l:List It):Prop:=l.Nodup/\∀x∈l,Vm g at' x
theorem Anh.bound{g:Gr}{at' n:Nat}{l:List It}(h:Anh g at' l)(hn:at'<=n):l.length<=Cu g n:=by
 have h1:(l.map fun x:It=>x.1*((mxP g+1)*(n+1))+(x.2.1*(n+1)+x.2.2)).Nodup:=by
  refine Afk h.1 fun x hx y hy e=>?_
  obtain⟨a1,a2,a3⟩:=h.2 x hx;obtain⟨b1,b2,b3⟩:=h.2 y hy;have a4:=ai_ a2 W9;have b4:=ai_ b2 W9;obtain⟨e1,e2⟩:=Ajk (Z4 Om Om) (Z4 Om Om) e;obtain⟨e3,e4⟩:=Ajk Om Om e2
  grind
 have h2:=Vl (Cu g n) _ h1 fun v hv=>by
  obtain⟨x,hx,rfl⟩:=bt_.1 hv;obtain⟨a1,a2,a3⟩:=h.2 x hx;have a4:=ai_ a2 W9;exact Z4 a1 (Z4 Om Om)
 grind
def Gj(g:Gr)(S:Ch):Prop:=∀j l,S.sets[j]? =some l->Anh g j l
theorem Ch.set_get{S:Ch}{j:Nat}{l:List It}(h:S.sets[j]? =some l):S.set j=l:=by unfold Ch.set;grind
abbrev ej_:=@Ch.set_get
theorem Gj.set{g:Gr}{S:Ch}{j:Nat}(h:Gj g S):Anh g j (S.set j):=by
 cases hj:S.sets[j]? with
 |some l=>rw[ej_ hj];exact h j l hj
 |none=>unfold Ch.set;rw[List.getD_eq_getElem?_getD,hj];exact⟨dk_,gr⟩
theorem Ch.add_len{S:Ch}{j:Nat}{x:It}:(S.add j x).sets.length=S.sets.length:=by unfold Ch.add;split<;>simp
abbrev gj_:=@Ch.add_len
theorem Ch.add_done{S:Ch}{j:Nat}{x:It}:(S.add j x).done=S.done:=by unfold Ch.add;split<;>rfl
abbrev gn_:=@Ch.add_done
theorem Gj.add{g:Gr}{S:Ch}{j:Nat}{x:It}(h:Gj g S)(hx:Vm g j x):Gj g (S.add j x):=by
 unfold Ch.add
 split
 ·exact h
 ·rename_i hn
  intro k l hk;simp only[List.getElem?_set]at hk
  split at hk
  ·rename_i e
   subst e
   split at hk
   ·cases hk;have hs:=h.set (j:=j)
    exact⟨dt_.2 ⟨hs.1,by simp,fun a ha b hb e=>hn gr⟩,fun y hy=>by
     rcases bb_.1 hy with hy|hy
     ·exact hs.2 y hy
     grind⟩
   ·cases hk
  ·exact h k l hk
theorem Gj.adds{g:Gr}{j:Nat}:∀{l:List It} {S:Ch},Gj g S->(∀x∈l,Vm g j x)->Gj g (S.adds j l)
 |[],_,h,_=>h
 |x::l,S,h,hx=>by
  show Gj g ((S.add j x).adds j l)
  exact Gj.adds (h.add (hx x (ap_ ..))) fun y hy=>hx y (aj_ _ hy)
theorem Ch.adds_len{j:Nat}:∀{l:List It} {S:Ch},(S.adds j l).sets.length=S.sets.length
 |[],_=>rfl
 |x::l,S=>by show((S.add j x).adds j l).sets.length=_;rw[Ch.adds_len,gj_]
abbrev dx_:=@Ch.adds_len
theorem Vn{g:Gr}{s:Str}{j:Nat}:∀x∈Su g s j,Vm g j x:=fun x hx=>by
 obtain⟨r,hr,rfl⟩:=bt_.1 hx;have:=(cp_.1 hr).1;exact⟨cw_.1 this,aq_ _,nl⟩
theorem Asb{g:Gr}{j k:Nat}{x:It}{p:Pt}(h:Vm g j x)(hk:j<=k)(hp:nxI g x=some p):Vm g k (upI x):=
 ⟨h.1,(ae_.1 hp).1,ai_ h.2.2 hk⟩
structure Kp (g:Gr)(S T:Ch):Prop where
 ok:Gj g T
 len:T.sets.length=S.sets.length
theorem Tq{g:Gr}{s:Sp}{x:It}{S:Ch}(h:Gj g S)(hs:s.2.1<=s.2.2)(hx:Vm g s.2.1 x):Kp g S (Fc g s x S)/\(Fc g s x S).done=S.done:=by
 unfold Fc
 split
 ·rename_i p hp
  split
  ·exact⟨⟨h.add (Asb hx hs hp),gj_⟩,gn_⟩
  ·exact⟨⟨h,rfl⟩,rfl⟩
 ·exact⟨⟨h,rfl⟩,rfl⟩
theorem Asc{g:Gr}{s:Sp}(hs:s.2.1<=s.2.2):∀(f i:Nat) (S:Ch),Gj g S->Kp g S (adv g s f i S)/\(adv g s f i S).done=S.done
 |0,_,_,h=>⟨⟨h,rfl⟩,rfl⟩
 |f+1,i,S,h=>by
  unfold adv
  split
  ·exact⟨⟨h,rfl⟩,rfl⟩
  ·rename_i x hx
   have h1:=Tq (x:=x) h hs (h.set.2 x (au_.2 ⟨_,hx⟩));have h2:=Asc hs f (i+1) _ h1.1.ok;exact⟨⟨h2.1.ok,h2.1.len.trans h1.1.len⟩,h2.2.trans h1.2⟩
theorem Ack{g:Gr}{n j:Nat}{x:It}{S:Ch}(h:Gj g S)(hx:Vm g j x):Kp g S (Dj g n j x S):=by
 unfold Dj
 split
 ·split
  ·exact⟨h,rfl⟩
  ·have h0:Gj g { S with done:=(rSo g x.1,x.2.2,j)::S.done }:=h;have h1:=Asc (g:=g) (s:=(rSo g x.1,x.2.2,j)) hx.2.2 (Cu g n+1) 0 _ h0;exact⟨h1.1.ok,h1.1.len⟩
 ·rename_i p hp
  have h1:Gj g (S.pred g p.sort j):=h.adds Vn
  split
  ·exact⟨h,rfl⟩
  ·split
   ·exact⟨h1.add (Asb hx nl hp),Ch.add_len.trans dx_⟩
   ·exact⟨h1,dx_⟩
theorem Asd{g:Gr}{n j:Nat}:∀(f i:Nat) (S:Ch),Gj g S->Kp g S (cls g n j f i S)
 |0,_,_,h=>⟨h,rfl⟩
 |f+1,i,S,h=>by
  unfold cls
  split
  ·exact⟨h,rfl⟩
  ·rename_i x hx
   have h1:=Ack (n:=n) (x:=x) h (h.set.2 x (au_.2 ⟨_,hx⟩));have h2:=Asd (n:=n) (j:=j) f (i+1) _ h1.ok;exact⟨h2.ok,h2.len.trans h1.len⟩
theorem Ahe{g:Gr}{S:Ch}(h:Gj g S):Gj g S.open':=fun j l hj=>by
 unfold Ch.open' at hj;simp only[List.getElem?_append]at hj
 split at hj
 ·exact h j l hj
 ·have:=au_.2 ⟨_,hj⟩;rw[ao_]at this;subst this;exact⟨dk_,gr⟩
theorem Ase{g:Gr}{j:Nat}{l:List It}{sym:Str}(h:∀x∈l,Vm g j x):∀x∈Ma g l sym,Vm g (j+1) x:=fun x hx=>by
 obtain⟨y,hy,e⟩:=List.mem_filterMap.1 hx;unfold Ahd at e
 split at e
 ·rename_i p hp
  split at e
  ·cases e;exact Asb (h y hy) (dm_ _) hp
  ·cases e
 ·cases e
theorem Auy{g:Gr}{text:List Str}{j:Nat}{S T:Ch}(h:Gj g S)(hs:S.scan g text j=some T):Gj g T/\T.sets.length=S.sets.length+1:=by
 unfold Ch.scan at hs
 split at hs
 ·cases hs
 ·cases hs;refine⟨(Ahe h).adds (Ase h.set.2),?_⟩;rw[dx_];unfold Ch.open'
  simp
theorem Afl{g:Gr}{s:Str}:Gj g (Aci g s)/\(Aci g s).sets.length=1:=by
 have h0:Gj g ⟨[[]],[]⟩:=fun j l hj=>by
  have:=au_.2 ⟨_,hj⟩;rw[ao_]at this;subst this;exact⟨dk_,gr⟩
 exact⟨h0.adds Vn,dx_⟩
end
section
open Go
def nPt(g:Gr)(r:Nat):Nat:=((rPt g r).filter fun p=>decide (p.sort≠[])).length
structure WOk (g:Gr)(N:Nat)(w:Wy):Prop where
 rule:w.rule<g.rules.length
 len:w.kids.length=nPt g w.rule
 kid:∀k∈w.kids,k<N
theorem WOk.mono{g:Gr}{N M:Nat}{w:Wy}(h:WOk g N w)(hm:N<=M):WOk g M w:=⟨h.rule,h.len,fun k hk=>ak_ (h.kid k hk) hm⟩
theorem Ahf{D:List Sp}{text:List Str}{to:Nat}:∀(ps:List Pt) (a:Nat) (kids:List Sp),∀l∈wyP D text to ps a kids,l.length=kids.length
 |[],a,kids,l,h=>by
  unfold wyP at h
  split at h
  ·rw[ao_]at h;rw[h]
  ·cases h
 |p::ps,a,kids,l,h=>by
  unfold wyP at h
  split at h
  ·cases h
  ·split at h
   ·exact Ahf ps _ _ l h
   ·obtain⟨e,_,h⟩:=List.mem_flatMap.1 h
    split at h
    ·rw[Ahf ps _ _ l h,dc_]
    ·cases h
theorem Apn{g:Gr}{D:List Sp}{text:List Str}{r a to:Nat}:∀l∈Qx g D text r a to,l.length=nPt g r:=fun l h=>by
 unfold Qx at h;rw[Ahf _ _ _ l h,fi_];rfl
theorem Auz{g:Gr}{D:List Sp}{text:List Str}{s:Sp}:∀x∈Ajj g D text s,x.1<g.rules.length/\x.2.length=nPt g x.1:=fun x h=>by
 obtain⟨r,hr,h⟩:=List.mem_flatMap.1 h;obtain⟨l,hl,rfl⟩:=bt_.1 h;exact⟨cw_.1 (cp_.1 hr).1,Apn l hl⟩
theorem Asf{L:List Sp}{s:Sp}:(D2 L s).1<(D2 L s).2.length/\L.length<=(D2 L s).2.length:=by
 unfold D2
 split
 ·rename_i h;exact⟨List.idxOf_lt_length_of_mem h,nl⟩
 ·simp
theorem Xa:∀(l:List Sp) (L:List Sp) (o:List Nat),(∀k∈o,k<L.length)->(Ct L l o).1.length=o.length+l.length/\L.length<=(Ct L l o).2.length/\∀k∈(Ct L l o).1,k<(Ct L l o).2.length
 |[],L,o,h=>⟨rfl,nl,h⟩
 |s::r,L,o,h=>by
  unfold Ct;obtain⟨h1,h2⟩:=Asf (L:=L) (s:=s)
  obtain⟨g1,g2,g3⟩:=Xa r (D2 L s).2 (o++[(D2 L s).1]) fun k hk=>by
   rcases bb_.1 hk with hk|hk
   ·exact ak_ (h k hk) h2
   ·rw[ao_]at hk;rw[hk];exact h1
  refine⟨by rw[g1];simp;omega,ai_ h2 g2,g3⟩
theorem Apo{g:Gr}{x:Nat×List Sp}{P Q:Pk}(hx:x.1<g.rules.length/\x.2.length=nPt g x.1)(hw:∀w∈P.ways,WOk g P.list.length w)(h:F7 x P=some Q):
  (∀w∈Q.ways,WOk g Q.list.length w)/\P.list.length<=Q.list.length/\Q.list.length<=4000:=by
 unfold F7 at h
 split at h
 ·cases h
 ·rename_i hn
  cases h
  obtain⟨g1,g2,g3⟩:=Xa x.2 P.list [] (fun k hk=>by cases hk)
  refine⟨fun w hw'=>?_,g2,by show(Ct P.list x.2 []).2.length<=4000;omega⟩
  rcases bb_.1 hw' with hw'|hw'
  ·exact(hw w hw').mono g2
  ·rw[ao_]at hw';subst hw'
   exact⟨hx.1,by rw[g1,cu_,bn_];exact hx.2,g3⟩
theorem Ani{g:Gr}:∀(l:List (Nat×List Sp)) {P Q:Pk},(∀x∈l,x.1<g.rules.length/\x.2.length=nPt g x.1)->(∀w∈P.ways,WOk g P.list.length w)->P.list.length<=4000->Pj l P=some Q->
  (∀w∈Q.ways,WOk g Q.list.length w)/\P.list.length<=Q.list.length/\Q.list.length<=4000
 |[],P,Q,_,hw,hb,h=>by cases h;exact⟨hw,nl,hb⟩
 |x::r,P,Q,hl,hw,hb,h=>by
  unfold Pj at h
  split at h
  ·cases h
  ·rename_i P' hP
   obtain⟨a1,a2,a3⟩:=Apo (hl x (ap_ ..)) hw hP;obtain⟨b1,b2,b3⟩:=Ani r (fun y hy=>hl y (aj_ _ hy)) a1 a3 h
   exact⟨b1,ai_ a2 b2,b3⟩
def FOk(g:Gr)(N:Nat)(F:List Nde):Prop:=∀x∈F,∀w∈x.ways,WOk g N w
theorem Ajl{g:Gr}{D:List Sp}{text:List Str}:∀(f i total:Nat) (L:List Sp) (nodes F:List Nde),nodes.length=i->i<=L.length->L.length<=4000->FOk g L.length nodes->Pf g D text f i total L nodes=some F->FOk g F.length F/\(0<L.length->0<F.length)/\F.length<=4000
 |0,_,_,_,_,_,_,_,_,_,h=>by cases h
 |f+1,i,total,L,nodes,F,hn,hi,hb,hF,h=>by
  unfold Pf at h
  split at h
  ·rename_i hL
   cases h;have:=List.getElem?_eq_none_iff.1 hL
   have e:nodes.length=L.length:=by omega
   exact⟨by rw[e];exact hF,fun h=>by omega,by omega⟩
  ·rename_i s hs
   split at h
   ·cases h
   ·rename_i P hP
    obtain⟨a1,a2,a3⟩:=Ani (g:=g) _ (fun x hx=>Auz x hx) (fun w hw=>by cases hw) hb hP
    have hlt:=(ae_.1 hs).1
    obtain⟨b1,b2,b3⟩:=Ajl f (i+1) P.total P.list (nodes++[⟨s,P.ways⟩]) F (by simp[hn]) (ai_ hlt a2) a3 (fun x hx w hw=>by
     rcases bb_.1 hx with hx|hx
     ·exact(hF x hx w hw).mono a2
     ·rw[ao_]at hx;subst hx;exact a1 w hw) h
    exact⟨b1,fun hp=>b2 (ak_ hp a2),b3⟩
theorem Acl{g:Gr}{D:List Sp}{text:List Str}{w:Sp}{F:List Nde}(h:Im g D text w=some F):FOk g F.length F/\0<F.length/\F.length<=4000:=by
 obtain⟨a,b,c⟩:=Ajl 4002 0 0 [w] [] F rfl (aq_ _) (by simp) (fun x hx=>by cases hx) h
 exact⟨a,b (by simp),c⟩
end
end Go.AM
