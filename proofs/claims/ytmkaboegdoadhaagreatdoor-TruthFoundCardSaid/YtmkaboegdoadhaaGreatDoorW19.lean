/- A part. -/
import Derived.Test.YtmkaboegdoadhaaGreatDoorW17
set_option maxRecDepth 100000
set_option maxHeartbeats 4000000
set_option linter.unusedSimpArgs false
set_option linter.unusedVariables false
namespace Go.AM
open Go Go.Proofs
theorem f56r(l s a tl J)(hg:J.get a=some (.cells (l.flatMap e1++tl)))(hb:l.length<1000000):Cv 56 [.sr a 0 1 l.length none,sV s] J (iV (A5 (fun x=>decide (s=x)) l 0)):=by
 refine Aj Tryz.func56 rfl rfl fun hw hu0=>?_
 refine G8 ?_;refine O1 (Bf slC rfl rfl rfl) ?_;refine G3 ?_;refine Bz l.length (fun i0=>[(0,.sr a 0 1 l.length none),(1,sV s),(7,iV (.ofNat l.length)),(8,iV (.ofNat i0))]) (fun i0 J0=>J0=J/\A5 (fun x=>decide (s=x)) l 0=A5 (fun x=>decide (s=x)) (l.drop i0) i0) SL ⟨rfl,rfl⟩ ?_
 rintro i0 J0 hi0 ⟨rfl,hf0⟩;refine G5 ?_;refine Ab rfl ?_ ?_<;>intro h1
 ·have bc:i0<l.length:=by simpa using h1
  obtain⟨a0,ha0⟩:=Ar bc;have hd0:=A4 ha0
  iterate 13 refine G ?_
  refine O1 (Br elC rfl rfl bc) (O1 (Dg (enc:=e1) (v:=sV a0) (fun _=>rfl) ldC rfl hg ha0 (fun _=>rfl)) ?_)
  refine G2 ?_;refine Ab rfl ?_ ?_<;>intro h2
  ·refine G6 ?_;refine B4 hw rfl ?_
   exact(by rw[hf0,hd0];simp only[A5,show decide (s=a0)=true from h2,cond_true];rfl)
  ·refine G5 ?_
   refine⟨bc,SL,rfl,by rw[hf0,hd0];simp only[A5,show decide (s=a0)=false from h2,cond_false]⟩
 ·have bj:l.length<=i0:=by simpa using h1
  refine G6 ?_;refine B4 hw rfl ?_
  exact(by rw[hf0,ah_ bj];rfl)
theorem f15r(l:List Str)(s a tl J)(hg:J.get a=some (.cells (l.flatMap e1++tl)))(hb:l.length<1000000):Cv 15 [.sr a 0 1 l.length none,sV s] J (.bool (l.any fun x=>decide (s=x))):=by
 refine Aj Tryz.func15 rfl rfl fun hw hu0=>?_
 refine G8 ?_;refine Ca (f56r l s a tl _ hg hb) ?_;refine G4 ?_;refine B4 hw rfl ?_;exact congrArg AV.bool (Gf l)
theorem f15w{N}(l s v J)(h:Own J N e1 1 l v)(hb:l.length<1000000):Al Ew 15 [v,sV s] J fun u J'=>u=.bool (l.any fun x=>decide (s=x))/\J'=J:=by
 rcases h with⟨rfl,rfl|rfl⟩|⟨a,tl,_,_,rfl,hg⟩
 ·exact(f15 [] s J (by simp)).wk (.cons Agy .refl)
 ·exact(f15 [] s J (by simp)).wk (.cons Dv .refl)
 ·exact f15r l s a tl J hg hb
def Il(l:List Hp)(m:SM Hp):SM Hp:=l.foldl (fun m h=>m.put (txv h) h) m
theorem Afi:∀{l:List Hp} {m:SM Hp} {v:Str},(∃h∈l,txv h=v)->∃h∈l,(Il l m).get v=some h/\txv h=v
 |[],_,_,⟨_,h,_⟩=>by cases h
 |x::l,m,v,hx=>by
  by_cases hl:∃h∈l,txv h=v
  ·obtain⟨h,h1,h2⟩:=Afi (m:=m.put (txv x) x) hl;exact⟨h,aj_ _ h1,h2⟩
  ·obtain⟨h,hm,e⟩:=hx
   rcases an_.1 hm with rfl|hm
   ·refine⟨h,ap_ ..,?_,e⟩
    show(Il l (m.put (txv h) h)).get v=some h
    have key:∀{l:List Hp} {m:SM Hp},(∀y∈l,txv y≠v)->(Il l m).get v=m.get v:=by
     intro l
     induction l with
     |nil=>intro m _;rfl
     |cons y l ih=>
      intro m hy
      show(Il l (m.put (txv y) y)).get v=_
      rw[ih (fun z hz=>hy z (aj_ _ hz)),ch_,if_neg (gx_ (hy y (ap_ ..)))]
    rw[key (fun y hy e=>hl ⟨y,hy,e⟩),ch_,if_pos e.symm]
   grind
def zG:Gr:=⟨[],[]⟩
def Vk(g:Gr)(t0:Str):List Str:=if(!(g.sorts.any fun x=>decide (t0=x)))=true then g.sorts++[t0]else g.sorts
def varG(h:Hp)(v:Str)(g:Gr):Gr:=⟨Vk g (h.text.headD []),g.rules++[⟨h.label,h.text.headD [],[⟨v,[],0⟩],true⟩]⟩
def Kw(hy:SM Hp):List Str->Gr->Option Gr
 |[],g=>some g
 |v::r,g=>match hy.get v with
  |none=>none
  |some h=>if decide (h.text.headD []=[124,45])=true then none else Kw hy r (varG h v g)
def Acf(f:Fr)(g:Gr):Bool:=(f.thm||f.hyps.any (fun h=> !h.floating))|| !(g.sorts.any fun x=>decide (f.text.headD []=x))
def F6:List Fr->Gr->Option Gr
 |[],g=>some g
 |f::r,g=>if Acf f g=true then F6 r g else match Hs f with
  |none=>none
  |some rl=>F6 r ⟨g.sorts,g.rules++[rl]⟩
def ofF(d:Db):Gr×Int:=
 if(!decide (Ea d=0))=true then(zG,Ea d)
 else match Kw (Il (Bt d) []) d.vars zG with
  |none=>(zG,11)
  |some g=>match F6 d.frames g with
   |none=>(zG,150)
   |some g=>if(!decide (Eb g=0))=true then(zG,4)else(g,0)
def eRg(r:Rl):List AV:=[sV r.label,sV r.sort,.sv (r.parts.flatMap ePt) 3 r.parts.length (if r.var=true then some 1 else none),.bool r.var]
theorem Axi{J U}(r):FzL J U (eRg r) (eR r):=.cons (.same rfl) (.cons (.same rfl) (.cons (.sv gr (.same (A2 Acb _))) (.cons (.same rfl) .nil)))
theorem Acg{f r}(h:Hs f=some r):r.var=false:=by
 unfold Hs at h
 grind
theorem Axj{r}(h:r.var=false):eRg r=eR r:=by unfold eRg eR slV;rw[h];rfl
theorem Ahb{args hyps}:∀{l:List Str} {met:SM Bool} {ps q:List Pt},axP args hyps l met ps=some q->q.length=ps.length+l.length
 |[],_,ps,q,h=>by cases h;rfl
 |s::l,met,ps,q,h=>by
  unfold axP at h
  split at h
  ·have:=Ahb h;grind
  ·split at h
   ·cases h
   ·have:=Ahb h;grind
theorem Alm{f r}(h:Hs f=some r):r.parts.length<=f.text.length:=by
 unfold Hs at h
 split at h
 ·cases h
 ·rename_i ps hp;cases h
  have:=Ahb hp
  grind
theorem Aje{pw k f before}(h:E9 pw k f before=0):∃t0 tl,f.text=t0::tl:=by
 have ht:(k.fr f.label).textF f.text=0:=by
  unfold E9 at h
  grind
 cases hx:f.text with
 |nil=>unfold Kn.textF at ht;rw[hx]at ht;simp at ht
 |cons a l=>exact⟨a,l,rfl⟩
theorem Aln{pw d}(h:Fy pw d=0){f}(hf:f∈d.frames):∃t0 tl,f.text=t0::tl:=by
 obtain⟨k',be',_,h2⟩:=To (Ab9 h) f hf;exact Aje h2
theorem Afj{d}(h:Ea d=0):Fy Fb d=0/\(∀x∈Bt d,∃a b,x.text=[a,b])/\∀v∈d.vars,∃x∈Bt d,txv x=v:=by
 unfold Ea at h
 split at h
 ·rename_i hc
  split at h
  ·rename_i ho
   obtain⟨l,hl⟩:=bg_.1 ho
   have e:Bt d=l:=by unfold Bt;grind
   rw[e];exact⟨hc,Ai9 hc hl⟩
  ·cases h
 grind
theorem Ajf{vars s}:∀{n:Nat} {done:SM Bool} {out l:List Hp},W7 vars s n done out=some l->l.length=out.length+n
 |0,_,_,_,e=>by cases e;rfl
 |n+1,done,out,l,e=>by
  unfold W7 at e
  split at e
  ·cases e
  ·split at e
   ·cases e
   ·rw[Ajf e,bx_];simp;omega
theorem Ajg(d):(Bt d).length<=d.vars.length:=by
 unfold Bt
 split
 ·cases ho:Fa d with
  |none=>simp
  |some l=>
   show l.length<=_
   unfold Fa at ho
   split at ho
   ·grind
   ·split at ho
    ·cases ho
    ·rw[Ajf ho];simp
 ·simp
def I9:List AV:=[nS,nS]
structure GSt (J U:Sto)(hy:SM Hp)(g:Gr)(vS vR:AV):Prop where
 n:nx J+3<=nx U
 g0:∀b,b<nx J->U.get b=J.get b
 t:U.get (nx J)=some (.cells I9)
 m:B8 hV U (nx J+1) hy
 c:U.get (nx J+2)=some (.cells [vS,vR])
 s:Own U (nx J+3) e1 1 g.sorts vS
 r:Own U (nx J+3) eRg 4 g.rules vR
 d:∀a b x y,vS=.sr a 0 1 x none->vR=.sr b 0 4 y none->a≠b
theorem Ahc{J N sz a α enc}{l:List α}{v}(h:Own J N enc sz l v){n}(e:v=.sr a 0 sz n none):N<=a/\a<nx J:=by
 rcases h with⟨_,rfl|rfl⟩|⟨b,tl,h1,h2,h3,_⟩
 ·cases e
 ·cases e
 grind
theorem GSt.addS{J U hy g vS vR}(h:GSt J U hy g vS vR)(t0)(bn:(g.sorts.length+1)*(16+1)<=sizeLim):
  ∃J1 v1,B6 U 1 16 vS 1 (e1 t0)=some (v1,J1)/\v1.cellsN 1=some [v1]/\J1.get (nx J+2)=some (.cells [vS,vR])/\GSt J (J1.set (nx J+2) (.cells [v1,vR])) hy ⟨g.sorts++[t0],g.rules⟩ v1 vR:=by
 have hn:=h.n
 obtain⟨J1,h1,h2,h3,h4,h5⟩:=Own.app1 (sz:=1) (enc:=e1) (by':=16) (fun _=>rfl) (show nx J+3<=nx U from hn) h.s t0 bn
 have lo:∀b,b<nx J+3->J1.get b=U.get b:=fun b hb=>h5 b Om fun c hc e=>by have:=(Ahc h.s hc).1;omega
 refine⟨J1,_,h1,rfl,(lo _ Om).trans h.c,⟨gr,fun b hb=>by rw[aa_,if_neg Om,lo b Om];exact h.g0 b hb,by rw[aa_,if_neg Om,lo _ Om];exact h.t,(h.m.of_get (lo _ Om)).set Om,gr,h4.mono gr gr,?_,fun a b x y e1' e2=>?_⟩⟩
 ·refine h.r.mono gr fun a tl hv k1 k2 _=>?_
  rw[aa_,if_neg Om];exact h5 a k2 fun c hc e=>h.d c a _ _ hc hv e.symm
 ·cases e1';have:=(Ahc h.r e2).2;omega
theorem GSt.addR{J U hy g vS vR}(h:GSt J U hy g vS vR)(r)(bn:(g.rules.length+1)*(64+1)<=sizeLim):
  ∃J1 v1,B6 U 4 64 vR 1 (eRg r)=some (v1,J1)/\v1.cellsN 1=some [v1]/\J1.get (nx J+2)=some (.cells [vS,vR])/\GSt J (J1.set (nx J+2) (.cells [vS,v1])) hy ⟨g.sorts,g.rules++[r]⟩ vS v1:=by
 have hn:=h.n
 obtain⟨J1,h1,h2,h3,h4,h5⟩:=Own.app1 (sz:=4) (enc:=eRg) (by':=64) (fun _=>rfl) (show nx J+3<=nx U from hn) h.r r bn
 have lo:∀b,b<nx J+3->J1.get b=U.get b:=fun b hb=>h5 b Om fun c hc e=>by have:=(Ahc h.r hc).1;omega
 refine⟨J1,_,h1,rfl,(lo _ Om).trans h.c,⟨gr,fun b hb=>by rw[aa_,if_neg Om,lo b Om];exact h.g0 b hb,by rw[aa_,if_neg Om,lo _ Om];exact h.t,(h.m.of_get (lo _ Om)).set Om,gr,?_,h4.mono gr gr,fun a b x y e1' e2=>?_⟩⟩
 ·refine h.s.mono gr fun a tl hv k1 k2 _=>?_
  rw[aa_,if_neg Om];exact h5 a k2 fun c hc e=>h.d a c _ _ hv hc e
 ·cases e2;have:=(Ahc h.s e1').2;omega
theorem Ad2{pw d}(h:Fy pw d=0){f}(hf:f∈d.frames)(ha:(f.hyps.any fun h=> !h.floating)=false):∀x∈f.hyps,∃a b,x.text=[a,b]:=fun x hx=>by
 refine((Vh h hf).1 x (by simp[Fr.all,hx]) ?_).1
 grind
theorem Axk(o):axV o=.tup [.agg (eR (o.getD ⟨[],[],[],false⟩)),.bool o.isSome]:=by cases o<;>rfl
theorem Ar8{N}(g i):AV.und N (.tup [grV g,iV i])=true:=by
 show((AV.und N (Af g.sorts)&&(AV.und N (slV eR 4 g.rules)&&true))&&(true&&true))=true
 rw[show AV.und N (Af g.sorts)=true from Fv D9 _,Fv Vj];rfl
theorem Ar9{J}(hw:WFS J):WFS (J.new (.cells I9)):=hw.new rfl trivial
theorem f116g(f J t0)(hB:FrB f)(htx:∃tl,f.text=t0::tl)(hh:∀h∈f.hyps,∃a b,h.text=[a,b]):Cv 116 [.agg (eF f)] J (.tup [.agg (eR ((Hs f).getD ⟨[],[],[],false⟩)),.bool (Hs f).isSome]):=by
 rw[←Axk];exact f116 f J t0 hB htx hh
theorem f66(d J)(hB:DbB d)(hvf:d.vars.length+d.frames.length<1000000):Cv 66 [dbV d] J (.tup [grV (ofF d).1,iV (ofF d).2]):=by
 refine Aj Tryz.func66 rfl rfl fun hw hu0=>?_
 refine G3 ?_;refine O1 (Bu ziC) ?_;refine G5 ?_;refine Ca (f114 d _ hB) ?_;refine G12 ?_;refine Ab rfl ?_ ?_<;>intro h1
 ·refine G4 ?_
  refine O1 (By (ad:=nx J) (off:=0) (vs:=I9) (vs':=I9) (cs:=I9) ldC rfl rfl rfl (by simp only[Sto.cells];rw[ag_,if_pos rfl];rfl) rfl) ?_
  refine G2 ?_;have hF:ofF d=(zG,Ea d):=if_pos h1;refine G ?_
  exact⟨[.agg I9,iV (Ea d)],Am (ldC (t:=141)) rfl (by simp only[Sto.cells];rw[aa_,if_pos rfl]) rfl (Ba rfl rfl),.tup [grV zG,iV (Ea d)],J,am_ hw ⟨gr,gr⟩,nl,.tup (.cons (.agg (.cons Ex (.cons Ex .nil))) (.cons (.same rfl) .nil)),by rw[hF],rfl⟩
 ·have he0:Ea d=0:=gr;obtain⟨hok,bs,jy⟩:=Afj he0;have hfl:=Ajg d;have hbv:=hB.v;have hbn:=hB.n;refine G3 ?_;refine O1 (Cd (n:=nx J+1) Qo (nx1 rfl)) ?_;refine G10 ?_
  refine Bz (Bt d).length (fun i0=>[(1,.pv [Af d.consts,Af d.vars,slV eF 8 d.frames]),(2,.pr (nx J) 0),(6,.mp (nx J+1)),(28,slV eH 3 (Bt d)),(29,iV (.ofNat (Bt d).length)),(30,iV (.ofNat i0))]) (fun i0 J0=>nx J0=nx J+2/\J0.get (nx J)=some (.cells I9)/\(∀b,b<nx J->J0.get b=J.get b)/\∃m,B8 hV J0 (nx J+1) m/\(Il (Bt d) [])=Il ((Bt d).drop i0) m) SL ⟨gr,by rw[ag_,if_neg gr,ag_,if_pos rfl];rfl,gr,[],⟨0,by rw[ag_,if_pos (by rw[Ao])];rfl⟩,rfl⟩ ?_
  rintro i0 J0 hi0 ⟨hn0,h20,hg0,m,hm0,hf0⟩;refine G5 ?_;refine Ab rfl ?_ ?_<;>intro h2
  ·have bc:i0<(Bt d).length:=gr;obtain⟨a0,ha0⟩:=Ar bc;have hd0:=A4 ha0;obtain⟨u0,u1,hux⟩:=bs a0 (ab_ ha0);obtain⟨vm,hvm⟩:=id hm0;refine G9 ?_;refine XS (l:=[]) trivial ?_;refine G3 ?_
   refine DF (A1 elC (fun _=>rfl) rfl rfl (by grind:a0.text[1]? =some u1) (i:=1)) ?_
   refine G2 ?_
   refine DT (Gh (v:=a0) st9 Qo rfl hvm rfl rfl (fun te k1 k2=>by first|exact I0 k1 k2|exact I1 k1 k2|exact I2 k1 k2|exact Jn k1 k2|exact H6 k1 k2 rfl)) ?_
   refine G5 ?_
   refine⟨bc,SL,gr,gr,gr,m.put u1 a0,dz_,by rw[hf0,hd0];show Il _ (m.put (txv a0) a0)=_;rw[Z2 hux]⟩
  ·have bj:(Bt d).length<=i0:=gr
   have bp:(Il (Bt d) [])=m:=by rw[hf0,ah_ bj];rfl
   rw[←bp]at hm0;refine G4 ?_
   refine O1 (Bj (n:=nx J+2) ziC hn0) (O1 (By (ad:=nx J+2) (off:=0) (vs:=I9) (vs':=I9) (cs:=I9) ldC rfl rfl rfl (by simp only[Sto.cells];rw[ag_,if_pos hn0.symm];rfl) rfl) ?_)
   refine G9 ?_
   have er:∃g vS vR,GSt J ((J0.new (.cells I9)).set (nx J+2) (.cells I9)) (Il (Bt d) []) g vS vR/\g.sorts.length<=0/\g.rules.length<=0/\(∀r∈g.rules,r.parts.length<1000000)/\Kw (Il (Bt d) []) d.vars zG=Kw (Il (Bt d) []) (d.vars.drop 0) g:=by
    have hlo:∀b,b<nx J+2->((J0.new (.cells I9)).set (nx J+2) (.cells I9)).get b=J0.get b:=gr
    exact⟨zG,nS,nS,⟨gr,fun b hb=>(hlo b Om).trans (hg0 b hb),(hlo _ Om).trans h20,hm0.of_get (hlo _ Om),by rw[aa_,if_pos rfl];rfl,.nil,.nil,gr⟩,nl,nl,fun r hr=>(by cases hr),rfl⟩
   refine G ?_;refine Bz d.vars.length (fun i2=>[(1,.pv [Af d.consts,Af d.vars,slV eF 8 d.frames]),(2,.pr (nx J) 0),(6,.mp (nx J+1)),(9,.pr (nx J+2) 0),(43,Af d.vars),(44,iV (.ofNat d.vars.length)),(45,iV (.ofNat i2))]) (fun i2 J2=>∃g vS vR,GSt J J2 (Il (Bt d) []) g vS vR/\g.sorts.length<=i2/\g.rules.length<=i2/\(∀r∈g.rules,r.parts.length<1000000)/\Kw (Il (Bt d) []) d.vars zG=Kw (Il (Bt d) []) (d.vars.drop i2) g) SL er ?_
   rintro i2 J2 hi2 ⟨g,vS,vR,hG2,hsl,hrl,hpl,hf2⟩;refine G5 ?_;refine Ab rfl ?_ ?_<;>intro h3
   ·have bv:i2<d.vars.length:=gr;obtain⟨a2,ha2⟩:=Ar bv;have hd2:=A4 ha2;obtain⟨x2,hx2,hxv⟩:=jy a2 (ab_ ha2);obtain⟨hh,hhm,hhg,hhv⟩:=Afi (m:=[]) ⟨x2,hx2,hxv⟩;obtain⟨u0,u1,hux⟩:=bs hh hhm;have hu:hh.text.headD []=u0:=gr
    iterate 13 refine G ?_
    refine O1 (Nr st9 Qo rfl hG2.m rfl hhg) ?_;refine G7 ?_
    refine O1 (A1 elC (fun _=>rfl) rfl rfl (by grind:hh.text[0]? =some u0) (i:=0)) ?_
    refine G ?_;refine O1 (H5 (q:=[124,45]) okC rfl rfl) ?_;refine G ?_;refine Ab rfl ?_ ?_<;>intro h4
    ·refine G3 ?_
     refine O1 (By (ad:=nx J) (off:=0) (vs:=I9) (vs':=I9) (cs:=I9) ldC rfl rfl rfl (by simp only[Sto.cells,hG2.t]) rfl) ?_
     refine G2 ?_
     have hv0:Kw (Il (Bt d) []) d.vars zG=none:=by rw[hf2,hd2,Kw,hhg];grind
     have hF:ofF d=(zG,11):=(if_neg (fun hc=>Bool.noConfusion (h1.symm.trans hc))).trans (by rw[hv0])
     refine G ?_
     exact⟨[.agg I9,iV (11)],Am (ldC (t:=141)) rfl (by simp only[Sto.cells];rw[aa_,if_pos rfl]) rfl (Ba rfl rfl),.tup [grV zG,iV (11)],J,am_ hw ⟨by rw[Aq];have:=hG2.n;omega,fun b hb=>by rw[aa_,if_neg Om];exact hG2.g0 b hb⟩,nl,.tup (.cons (.agg (.cons Ex (.cons Ex .nil))) (.cons (.same rfl) .nil)),by rw[hF],rfl⟩
    ·refine G3 ?_;refine XS (l:=[(15,[vS,sV u0],J2,.bool (g.sorts.any fun x=>decide (u0=x)),J2)]) ⟨f15w g.sorts u0 vS J2 hG2.s Om,trivial⟩ ?_
     refine G ?_
     refine DF (Ac (u:=.pr (nx J+2) 0) (cs:=[vS,vR]) ldC rfl (by simp only[Em,Sto.cells,hG2.c];rfl) rfl) ?_
     refine G2 ?_
     refine DF (A1 elC (fun _=>rfl) rfl rfl (by grind:hh.text[0]? =some u0) (i:=0)) ?_
     refine G4 ?_;refine Ab rfl ?_ ?_<;>intro h5
     ·obtain⟨J3,v1,hap,hc1,hcS,hG3⟩:=hG2.addS u0 (by simp[sizeLim];omega)
      obtain⟨J5,v2,jh,hc2,hcR,hG2''⟩:=hG3.addR (⟨hh.label,u0,[⟨a2,[],0⟩],true⟩:Rl) (by simp[sizeLim];omega)
      have eu:∀r∈g.rules++[(⟨hh.label,u0,[⟨a2,[],0⟩],true⟩:Rl)],r.parts.length<1000000:=gr;refine XS (l:=[]) trivial ?_;refine G ?_
      refine DF (Ac (u:=.pr (nx J+2) 0) (cs:=[vS,vR]) ldC rfl (by simp only[Em,Sto.cells,hG2.c];rfl) rfl) ?_
      refine G2 ?_
      refine DF (A1 elC (fun _=>rfl) rfl rfl (by grind:hh.text[0]? =some u0) (i:=0)) ?_
      refine G ?_;refine DF (Ai elC byW rfl rfl rfl) (DT (Av elC rfl slC rfl rfl rfl (new:=e1 u0) rfl hap) ?_);refine G ?_
      refine DT (By (ad:=nx J+2) (off:=0) (vs:=[vS,vR]) (vs':=[v1,vR]) (cs:=[v1]) ldC rfl rfl hc1 (by simp only[Sto.cells,hcS]) rfl) ?_
      refine G ?_;refine XS (l:=[]) trivial ?_;refine G ?_
      refine DF (Ac (u:=.pr (nx J+2) 1) (cs:=[vR]) ldC rfl (by simp only[Em,Sto.cells,hG3.c];rfl) rfl) ?_
      refine G4 ?_
      refine DF (A1 elC (fun _=>rfl) rfl rfl (by grind:hh.text[0]? =some u0) (i:=0)) ?_
      refine G3 ?_;refine DF (Ai elC byW rfl rfl rfl) ?_;refine G ?_;refine DF (Ai elC byW rfl rfl rfl) (DT (Av elC rfl slC rfl rfl rfl (new:=eRg (⟨hh.label,u0,[⟨a2,[],0⟩],true⟩:Rl)) rfl jh) ?_);refine G ?_
      refine DT (By (ad:=nx J+2) (off:=1) (vs:=[v1,vR]) (vs':=[v1,v2]) (cs:=[v2]) ldC rfl rfl hc2 (by simp only[Sto.cells,hcR]) rfl) ?_
      refine G5 ?_
      refine⟨bv,SL,⟨g.sorts++[u0],g.rules++[(⟨hh.label,u0,[⟨a2,[],0⟩],true⟩:Rl)]⟩,v1,v2,hG2'',by simp;omega,by simp;omega,eu,by rw[hf2,hd2,Kw,hhg];simp only[hu];rw[if_neg gr];unfold varG Vk;grind⟩
     ·obtain⟨J5,v2,jh,hc2,hcR,hG2''⟩:=hG2.addR (⟨hh.label,u0,[⟨a2,[],0⟩],true⟩:Rl) (by simp[sizeLim];omega)
      have eu:∀r∈g.rules++[(⟨hh.label,u0,[⟨a2,[],0⟩],true⟩:Rl)],r.parts.length<1000000:=gr;refine G ?_;refine XS (l:=[]) trivial ?_;refine G ?_
      refine DF (Ac (u:=.pr (nx J+2) 1) (cs:=[vR]) ldC rfl (by simp only[Em,Sto.cells,hG2.c];rfl) rfl) ?_
      refine G4 ?_
      refine DF (A1 elC (fun _=>rfl) rfl rfl (by grind:hh.text[0]? =some u0) (i:=0)) ?_
      refine G3 ?_;refine DF (Ai elC byW rfl rfl rfl) ?_;refine G ?_;refine DF (Ai elC byW rfl rfl rfl) (DT (Av elC rfl slC rfl rfl rfl (new:=eRg (⟨hh.label,u0,[⟨a2,[],0⟩],true⟩:Rl)) rfl jh) ?_);refine G ?_
      refine DT (By (ad:=nx J+2) (off:=1) (vs:=[vS,vR]) (vs':=[vS,v2]) (cs:=[v2]) ldC rfl rfl hc2 (by simp only[Sto.cells,hcR]) rfl) ?_
      refine G5 ?_
      refine⟨bv,SL,⟨g.sorts,g.rules++[(⟨hh.label,u0,[⟨a2,[],0⟩],true⟩:Rl)]⟩,vS,v2,hG2'',by simp;omega,by simp;omega,eu,by rw[hf2,hd2,Kw,hhg];simp only[hu];rw[if_neg gr];unfold varG Vk;grind⟩
   ·have ba:d.vars.length<=i2:=gr
    have hv2:Kw (Il (Bt d) []) d.vars zG=some g:=by rw[hf2,ah_ ba];rfl
    obtain⟨gv,hgv⟩:∃x,x=g:=⟨_,rfl⟩;rw[←hgv]at hv2
    have je:∃g4 vS vR,GSt J J2 (Il (Bt d) []) g4 vS vR/\g4.sorts.length<=d.vars.length/\g4.rules.length<=d.vars.length+0/\(∀r∈g4.rules,r.parts.length<1000000)/\F6 d.frames gv=F6 (d.frames.drop 0) g4:=⟨g,vS,vR,hG2,by omega,by omega,hpl,gr⟩
    iterate 14 refine G ?_
    refine Bz d.frames.length (fun i4=>[(2,.pr (nx J) 0),(9,.pr (nx J+2) 0),(13,.fn (.func 115) [] []),(92,slV eF 8 d.frames),(93,iV (.ofNat d.frames.length)),(94,iV (.ofNat i4))]) (fun i4 J4=>∃g vS vR,GSt J J4 (Il (Bt d) []) g vS vR/\g.sorts.length<=d.vars.length/\g.rules.length<=d.vars.length+i4/\(∀r∈g.rules,r.parts.length<1000000)/\F6 d.frames gv=F6 (d.frames.drop i4) g) SL je ?_
    rintro i4 J4 hi4 ⟨g,vS,vR,hG4,hsl,hrl,hpl,hf4⟩;refine G5 ?_;refine Ab rfl ?_ ?_<;>intro h4
    ·have dy:i4<d.frames.length:=gr;obtain⟨a4,ha4⟩:=Ar dy;have hd4:=A4 ha4;have hFa:=hB.f a4 (ab_ ha4);obtain⟨t0,tl,htx⟩:=Aln hok (ab_ ha4);have htd:a4.text.headD []=t0:=gr;refine G10 ?_
     refine Gg [(115,.bool ((a4.thm||a4.hyps.any (fun h=> !h.floating))|| !(g.sorts.any fun x=>decide (t0=x))))] ?_ ?_
     ·rcases av_ (a4.thm)with hg2|hg2
      ·refine XS (l:=[(45,[slV eH 3 a4.hyps,.fn (.func 115) [] []],J4,.bool (a4.hyps.any fun h=> !h.floating),J4),(15,[vS,sV t0],J4,.bool (g.sorts.any fun x=>decide (t0=x)),J4)]) ⟨f45 (fun h=> !h.floating) a4.hyps 115 [] J4 (by have:=hFa.h;omega) (fun a _=>f115 a J4),f15w g.sorts t0 vS J4 hG4.s Om,trivial⟩ ?_
       refine G6 ?_;refine K5 rfl rfl rfl rfl (R1 hg2) rfl rfl ?_;refine G8 ?_;refine K5 rfl rfl rfl rfl (R1 hg2) rfl rfl ?_;refine G3 ?_;exact⟨⟨Cb,trivial⟩,sb,rfl⟩
      ·rcases av_ ((a4.hyps.any fun h=> !h.floating))with hg8|hg8
       ·refine XS (l:=[(45,[slV eH 3 a4.hyps,.fn (.func 115) [] []],J4,.bool (a4.hyps.any fun h=> !h.floating),J4),(15,[vS,sV t0],J4,.bool (g.sorts.any fun x=>decide (t0=x)),J4)]) ⟨f45 (fun h=> !h.floating) a4.hyps 115 [] J4 (by have:=hFa.h;omega) (fun a _=>f115 a J4),f15w g.sorts t0 vS J4 hG4.s Om,trivial⟩ ?_
        refine G6 ?_;refine Ol rfl rfl rfl rfl (R2 hg8 hg2) rfl rfl (Bq rfl rfl Bv) (DF (Au rfl (R2 hg8 hg2) rfl) (DF (Ag rfl) (Wx (w:=R2 hg8 hg2) (Wx (w:=R2 hg8 hg2) (Wx (w:=R2 hg8 hg2) (Wx (w:=R2 hg8 hg2) (Wx (w:=R2 hg8 hg2) ?_)))))));refine Wx (w:=R2 hg8 hg2) (K5 rfl rfl rfl rfl (R2 hg8 hg2) rfl rfl ?_);refine G3 ?_;exact⟨⟨congrArg (fun b=>some (AV.bool b)) (R2 hg8 hg2),trivial⟩,sb,rfl⟩
       ·refine XS (l:=[(45,[slV eH 3 a4.hyps,.fn (.func 115) [] []],J4,.bool (a4.hyps.any fun h=> !h.floating),J4),(15,[vS,sV t0],J4,.bool (g.sorts.any fun x=>decide (t0=x)),J4)]) ⟨f45 (fun h=> !h.floating) a4.hyps 115 [] J4 (by have:=hFa.h;omega) (fun a _=>f115 a J4),f15w g.sorts t0 vS J4 hG4.s Om,trivial⟩ ?_
        refine DF (Ae fdC rfl rfl) (DF (Ac ldC rfl rfl rfl) (DF (Ag rfl) (Wn (w:=R2 hg8 hg2) (Ae fdC rfl rfl) (Wn (w:=R2 hg8 hg2) (Ac ldC rfl rfl rfl) (Wn (w:=R2 hg8 hg2) (Ag rfl) (Ol rfl rfl rfl rfl (R2 hg8 hg2) rfl rfl (Bq rfl rfl Bv) (DF (Au rfl (R2 hg8 hg2) rfl) ?_)))))))
        refine DF (Ag rfl) (Wn (w:=R2 hg8 hg2) (Ae fdC rfl rfl) (Wn (w:=R2 hg8 hg2) (Ac (u:=.pr (nx J+2) 0) (cs:=[vS,vR]) ldC rfl (by simp only[Em,Sto.cells,hG4.c];rfl) rfl) ?_))
        refine G2 ?_
        refine Wn (w:=R2 hg8 hg2) (A1 elC (fun _=>rfl) rfl rfl (by grind:a4.text[0]? =some t0) (i:=0)) ?_
        refine Wn (w:=R2 hg8 hg2) (Ac ldC rfl rfl rfl) (Ol rfl rfl rfl rfl (R2 hg8 hg2) rfl rfl (Bq rfl rfl (Dw (by decide) Bv)) ?_)
        refine Wn (w:=R2 hg8 hg2) (Dc rfl) (DF (Au rfl (R2 hg8 hg2) rfl) (C1 ?_));exact⟨⟨congrArg (fun b=>some (AV.bool b)) (R2 hg8 hg2),trivial⟩,sb,rfl⟩
     refine Ab rfl ?_ ?_<;>intro h5
     ·replace h5:Acf a4 g=true:=by unfold Acf;grind
      refine G5 ?_
      refine⟨dy,SL,g,vS,vR,hG4,hsl,by omega,hpl,by rw[hf4,hd4,F6,if_pos h5]⟩
     ·replace h5:Acf a4 g=false:=by unfold Acf;grind
      have hfl:∀x∈a4.hyps,∃a b,x.text=[a,b]:=Ad2 hok (ab_ ha4) (by unfold Acf at h5;grind)
      refine G4 ?_;refine Ca (f116g a4 J4 t0 hFa ⟨tl,htx⟩ hfl) ?_;refine G12 ?_;refine Ab rfl ?_ ?_<;>intro h6
      ·have hax:Hs a4=none:=by simpa using h6
       refine G3 ?_
       refine O1 (By (ad:=nx J) (off:=0) (vs:=I9) (vs':=I9) (cs:=I9) ldC rfl rfl rfl (by simp only[Sto.cells,hG4.t]) rfl) ?_
       refine G2 ?_
       have hfr:F6 d.frames gv=none:=by rw[hf4,hd4,F6,if_neg gr,hax]
       have hF:ofF d=(zG,150):=(if_neg (fun hc=>Bool.noConfusion (h1.symm.trans hc))).trans gr
       refine G ?_
       exact⟨[.agg I9,iV (150)],Am (ldC (t:=141)) rfl (by simp only[Sto.cells];rw[aa_,if_pos rfl]) rfl (Ba rfl rfl),.tup [grV zG,iV (150)],J,am_ hw ⟨by rw[Aq];have:=hG4.n;omega,fun b hb=>by rw[aa_,if_neg Om];exact hG4.g0 b hb⟩,nl,.tup (.cons (.agg (.cons Ex (.cons Ex .nil))) (.cons (.same rfl) .nil)),by rw[hF],rfl⟩
      ·obtain⟨rl,hax⟩:∃rl,Hs a4=some rl:=bg_.1 gr
       obtain⟨J5,v1,hap,hc1,hcR,hG5⟩:=hG4.addR rl (by simp[sizeLim];omega)
       have eu:∀r∈g.rules++[rl],r.parts.length<1000000:=fun r hr=>by
        rcases bb_.1 hr with hr|hr
        ·exact hpl r hr
        ·rw[ao_.1 hr];exact gc_ (Alm hax) hFa.t
       refine G3 ?_
       refine O1 (Ac (u:=.pr (nx J+2) 1) (cs:=[vR]) ldC rfl (by simp only[Em,Sto.cells,hG4.c];rfl) rfl) ?_
       refine G ?_
       refine Cx (Ai elC byW rfl rfl rfl) (Dv (len:=1)) rfl rfl (O1 (Av elC rfl slC rfl rfl rfl (new:=eRg rl) (by rw[hax,Axj (Acg hax)];rfl) hap) ?_)
       refine G ?_
       refine O1 (By (ad:=nx J+2) (off:=1) (vs:=[vS,vR]) (vs':=[vS,v1]) (cs:=[v1]) ldC rfl rfl hc1 (by simp only[Sto.cells,hcR]) rfl) ?_
       refine G5 ?_
       refine⟨dy,SL,⟨g.sorts,g.rules++[rl]⟩,vS,v1,hG5,hsl,by simp;omega,eu,by rw[hf4,hd4,F6,if_neg gr,hax]⟩
    ·have jn:d.frames.length<=i4:=gr
     have hfr:F6 d.frames gv=some g:=by rw[hf4,ah_ jn];rfl
     refine G ?_
     have hGB:GrB g:=⟨by omega,by omega,hpl⟩
     have hn4:=hG4.n
     refine Av2 (J.new (.cells I9)) [(2,.pr (nx J) 0),(9,.pv [Af g.sorts,slV eR 4 g.rules])] (a_ (Ar9 hw) gr fun b hb=>?_) gr ⟨⟨_,rfl,.same ?_⟩,⟨_,rfl,.pr hG4.c (by rw[ag_,if_neg Om];exact hw.none Om) (.cons (hG4.s.fz (fun _=>rfl) (fun a ha=>by rw[ag_,if_neg Om];exact hw.none Om) (A2 D9 _)) (.cons (hG4.r.fzE (fun _=>rfl) (fun a ha=>by rw[ag_,if_neg Om];exact hw.none Om) Axi) .nil))⟩,trivial⟩ ?_
     ·rw[Ao]at hb;rw[ag_]
      split
      ·rename_i e;rw[e];exact hG4.t
      ·exact hG4.g0 b Om
     ·unfold AV.und;rw[Ao];simp
     refine G4 ?_;refine Ca (f117 g _ hGB) ?_;refine G2 ?_;refine Ab rfl ?_ ?_<;>intro h5
     ·refine G3 ?_
      refine O1 (By (ad:=nx J) (off:=0) (vs:=I9) (vs':=I9) (cs:=I9) ldC rfl rfl rfl (by simp only[Sto.cells];grind) rfl) ?_
      refine G2 ?_;have hF:ofF d=(zG,4):=(if_neg (fun hc=>Bool.noConfusion (h1.symm.trans hc))).trans gr
      refine G ?_
      exact⟨[.agg I9,iV (4)],Am (ldC (t:=141)) rfl (by simp only[Sto.cells];rw[aa_,if_pos rfl]) rfl (Ba rfl rfl),.tup [grV zG,iV (4)],J,am_ hw ⟨gr,gr⟩,nl,.tup (.cons (.agg (.cons Ex (.cons Ex .nil))) (.cons (.same rfl) .nil)),by rw[hF],rfl⟩
     ·refine G4 ?_
      refine O1 (By (ad:=nx J) (off:=0) (vs:=I9) (vs':=[Af g.sorts,slV eR 4 g.rules]) (cs:=[Af g.sorts,slV eR 4 g.rules]) ldC rfl rfl rfl (by simp only[Sto.cells];grind) rfl) ?_
      refine G2 ?_;have hF:ofF d=(g,0):=(if_neg (fun hc=>Bool.noConfusion (h1.symm.trans hc))).trans gr
      refine G ?_
      exact⟨[grV g,iV 0],Am (ldC (t:=141)) rfl (by simp only[Sto.cells];rw[aa_,if_pos rfl]) rfl (Ba rfl rfl),.tup [grV g,iV 0],J,am_ hw ⟨gr,gr⟩,nl,.same (Ar8 _ _),by rw[hF],rfl⟩
mutual
def M6:Ax->Nat
 |.node _ ks=>1+Ach ks
def Ach:List Ax->Nat
 |[]=>0
 |t::r=>M6 t+Ach r
end
mutual
def dpT:Ax->Nat->Nat
 |.node _ ks,lv=>dpL ks (lv+1) lv
def dpL:List Ax->Nat->Nat->Nat
 |[],_,d=>d
 |t::r,lv,d=>dpL r lv (max d (dpT t lv))
end
theorem Asa(t):1<=M6 t:=by cases t;unfold M6;omega
theorem Azc:∀(l m:List Ax),Ach (l++m)=Ach l+Ach m
 |[],m=>by simp[Ach]
 |t::r,m=>by simp only[ay_,Ach,Azc r m];omega
theorem A3f:∀(l m:List Ax) (lv d:Nat),dpL (l++m) lv d=dpL m lv (dpL l lv d)
 |[],m,lv,d=>by simp[dpL]
 |t::r,m,lv,d=>by simp only[ay_,dpL,A3f r m]
theorem A35{α:Type}{l:List α}{i:Nat}{a:α}(h:l[i]? =some a):l.take (i+1)=l.take i++[a]:=by
 rw[List.take_add_one,h];rfl
theorem Azj{l:List Ax}{i:Nat}{a:Ax}(h:l[i]? =some a):Ach (l.take i)+M6 a<=Ach l:=by
 have e:Ach l=Ach (l.take (i+1))+Ach (l.drop (i+1)):=by rw[←Azc,cc_]
 rw[e,A35 h,Azc];simp only[Ach];omega
theorem Azd:∀{l:List Ax} {a:Ax},a∈l->M6 a<=Ach l
 |x::r,a,h=>by
  unfold Ach
  rcases an_.1 h with rfl|h
  ·omega
  ·have:=Azd h;omega
theorem Ajh:∀l:List Ax,l.length<=Ach l
 |[]=>nl
 |t::r=>by have:=Ajh r;have:=Asa t;simp only[as_,Ach];omega
theorem Cg(l ks):En (.node l ks)=.agg [sV l,slV eT 2 ks]:=by rw[En,Cl]
section
open Go
abbrev It:=Nat×Nat×Nat
abbrev Sp:=Str×Nat×Nat
def rPt(g:Gr)(r:Nat):List Pt:=match g.rules[r]? with|some x=>x.parts|none=>[]
def rSo(g:Gr)(r:Nat):Str:=match g.rules[r]? with|some x=>x.sort|none=>[]
def nxI(g:Gr)(x:It):Option Pt:=(rPt g x.1)[x.2.1]?
def E5(g:Gr)(s:Str):List Nat:=(List.range g.rules.length).filter fun i=>decide (rSo g i=s)
def mxP(g:Gr):Nat:=(g.rules.map (·.parts.length)).foldr max 0
def Cu(g:Gr)(n:Nat):Nat:=g.rules.length*((mxP g+1)*(n+1))
structure Ch where
 sets:List (List It)
 done:List Sp
def Ch.set(S:Ch)(at':Nat):List It:=S.sets.getD at' []
def Ch.add(S:Ch)(at':Nat)(x:It):Ch:=if x∈S.set at' then S else{ S with sets:=S.sets.set at' (S.set at'++[x]) }
def Ch.adds(at':Nat)(l:List It)(S:Ch):Ch:=l.foldl (fun S x=>S.add at' x) S
def Su(g:Gr)(s:Str)(at':Nat):List It:=(E5 g s).map fun r=>(r,0,at')
def Ch.pred(g:Gr)(S:Ch)(s:Str)(at':Nat):Ch:=S.adds at' (Su g s at')
def upI(x:It):It:=(x.1,x.2.1+1,x.2.2)
def Fc(g:Gr)(s:Sp)(x:It)(S:Ch):Ch:=match nxI g x with
 |some p=>if p.sort=s.1 then S.add s.2.2 (upI x)else S
 |none=>S
def adv(g:Gr)(s:Sp):Nat->Nat->Ch->Ch
 |0,_,S=>S
 |f+1,i,S=>match(S.set s.2.1)[i]? with
  |none=>S
  |some x=>adv g s f (i+1) (Fc g s x S)
def Dj(g:Gr)(n at':Nat)(x:It)(S:Ch):Ch:=match nxI g x with
 |none=>if(rSo g x.1,x.2.2,at')∈S.done then S else adv g (rSo g x.1,x.2.2,at') (Cu g n+1) 0 { S with done:=(rSo g x.1,x.2.2,at')::S.done }
 |some p=>if p.sort=[]then S else if(p.sort,at',at')∈S.done then(S.pred g p.sort at').add at' (upI x)else S.pred g p.sort at'
def cls(g:Gr)(n at':Nat):Nat->Nat->Ch->Ch
 |0,_,S=>S
 |f+1,i,S=>match(S.set at')[i]? with
  |none=>S
  |some x=>cls g n at' f (i+1) (Dj g n at' x S)
def Ahd(g:Gr)(sym:Str)(x:It):Option It:=match nxI g x with
 |some p=>if p.sort=[]/\p.symbol=sym then some (upI x)else none
 |none=>none
def Ma(g:Gr)(l:List It)(sym:Str):List It:=l.filterMap (Ahd g sym)
def Ch.open'(S:Ch):Ch:={ S with sets:=S.sets++[[]] }
def Ch.scan(g:Gr)(text:List Str)(at':Nat)(S:Ch):Option Ch:=
 match Ma g (S.set at') (text.getD at' [])with
 |[]=>none
 |l=>some (S.open'.adds (at'+1) l)
def Aji(g:Gr)(text:List Str):Nat->Nat->Ch->Ch
 |0,_,S=>S
 |f+1,at',S=>match(if at'=text.length then none else(cls g text.length at' (Cu g text.length+1) 0 S).scan g text at')with
  |none=>cls g text.length at' (Cu g text.length+1) 0 S
  |some S'=>Aji g text f (at'+1) S'
def Aci(g:Gr)(sort:Str):Ch:=Ch.pred g ⟨[[]],[]⟩ sort 0
def Ej(g:Gr)(sort:Str)(text:List Str):Ch:=Aji g text (text.length+1) 0 (Aci g sort)
def ldP(D:List Sp)(text:List Str)(to:Nat):List Pt->Nat->Bool
 |[],a=>decide (a=to)
 |p::ps,a=>if p.sort=[]then decide (a<to)&&decide (text.getD a []=p.symbol)&&ldP D text to ps (a+1)
  else(List.range' a (to+1-a)).any fun e=>decide ((p.sort,a,e)∈D)&&ldP D text to ps e
def wyP(D:List Sp)(text:List Str)(to:Nat):List Pt->Nat->List Sp->List (List Sp)
 |[],a,kids=>if ldP D text to [] a then[kids]else[]
 |p::ps,a,kids=>if ldP D text to (p::ps) a=false then[]else
  if p.sort=[]then wyP D text to ps (a+1) kids
  else(List.range' a (to+1-a)).flatMap fun e=>if(p.sort,a,e)∈D then wyP D text to ps e (kids.set p.arg.toNat (p.sort,a,e))else[]
def zSp:Sp:=([],0,0)
def Qx(g:Gr)(D:List Sp)(text:List Str)(r:Nat)(a to:Nat):List (List Sp):=
 wyP D text to (rPt g r) a (List.replicate ((rPt g r).filter fun p=>decide (p.sort≠[])).length zSp)
structure Wy where
 rule:Nat
 kids:List Nat
structure Nde where
 sp:Sp
 ways:List Wy
def D2(L:List Sp)(s:Sp):Nat×List Sp:=if s∈L then(L.idxOf s,L)else(L.length,L++[s])
def Ct:List Sp->List Sp->List Nat->List Nat×List Sp
 |L,[],o=>(o,L)
 |L,s::r,o=>Ct (D2 L s).2 r (o++[(D2 L s).1])
structure Pk where
 total:Nat
 list:List Sp
 ways:List Wy
def F7(x:Nat×List Sp)(P:Pk):Option Pk:=
 if P.total+1>40000∨(Ct P.list x.2 []).2.length>4000 then none
 else some ⟨P.total+1,(Ct P.list x.2 []).2,P.ways++[⟨x.1,(Ct P.list x.2 []).1⟩]⟩
def Pj:List (Nat×List Sp)->Pk->Option Pk
 |[],P=>some P
 |x::r,P=>match F7 x P with|none=>none|some P'=>Pj r P'
def Ajj(g:Gr)(D:List Sp)(text:List Str)(s:Sp):List (Nat×List Sp):=(E5 g s.1).flatMap fun r=>(Qx g D text r s.2.1 s.2.2).map fun l=>(r,l)
def Pf(g:Gr)(D:List Sp)(text:List Str):Nat->Nat->Nat->List Sp->List Nde->Option (List Nde)
 |0,_,_,_,_=>none
 |f+1,i,total,L,nodes=>match L[i]? with
  |none=>some nodes
  |some s=>match Pj (Ajj g D text s) ⟨total,L,[]⟩with
   |none=>none
   |some P=>Pf g D text f (i+1) P.total P.list (nodes++[⟨s,P.ways⟩])
def Im(g:Gr)(D:List Sp)(text:List Str)(w:Sp):Option (List Nde):=Pf g D text 4002 0 0 [w] []
def mxT:Nat:=1000000001
abbrev Cs:=List Nat×List Nat
def Ad3(rec:Nat->Cs->Option Cs):List Nat->Nat->Cs->Option (Nat×Cs)
 |[],p,c=>some (p,c)
 |k::r,p,c=>match rec k c with
  |none=>none
  |some c'=>Ad3 rec r (min (p*c'.2.getD k 0) mxT) c'
def Acj(rec:Nat->Cs->Option Cs):List Wy->Nat->Cs->Option (Nat×Cs)
 |[],t,c=>some (t,c)
 |w::r,t,c=>match Ad3 rec w.kids 1 c with
  |none=>none
  |some (p,c')=>Acj rec r (min (t+p) mxT) c'
def La(F:List Nde):Nat->Nat->Cs->Option Cs
 |0,_,_=>none
 |f+1,n,c=>if c.1.getD n 0=1 then none else if c.1.getD n 0=2 then some c else
  match F[n]? with
  |none=>none
  |some x=>match Acj (La F f) x.ways 0 (c.1.set n 1,c.2)with
   |none=>none
   |some (t,c')=>some (c'.1.set n 2,c'.2.set n t)
def Yx(F:List Nde):Option Cs:=La F (F.length+1) 0 (List.replicate F.length 0,List.replicate F.length 0)
def Gp(tr:List Nat)(w:Wy):Nat:=w.kids.foldl (fun n k=>min (n*tr.getD k 0) mxT) 1
def Md(g:Gr)(r:Nat):Str:=match g.rules[r]? with|some x=>x.label|none=>[]
def Yy(g:Gr)(F:List Nde)(tr:List Nat):Nat->Nat->Ax
 |0,_=>.node [] []
 |f+1,n=>match F[n]? with
  |none=>.node [] []
  |some x=>match x.ways.find? fun w=>decide (Gp tr w≠0)with
   |none=>.node [] []
   |some w=>.node (Md g w.rule) (w.kids.map (Yy g F tr f))
def Ek:Ax:=.node [] []
def Fj(g:Gr)(sort:Str)(text:List Str):Option (List Nde)×Int:=
 if Eb g≠0 then(none,Eb g)else if sort∉g.sorts then(none,5)else if text.length>200 then(none,4)else
 if(Ej g sort text).sets.length<=text.length∨(sort,0,text.length)∉(Ej g sort text).done then(none,160)else
 match Im g (Ej g sort text).done text (sort,0,text.length)with
 |none=>(none,15)
 |some F=>(some F,0)
def D7(t:Str):Str:=if t=[124,45]then[119,102,102]else t
def Mu(g:Gr)(F:List Nde):Ax×Int:=match Yx F with
 |none=>(Ek,191)
 |some c=>if c.2.getD 0 0≠1 then(Ek,191)else
  if M6 (Yy g F c.2 (F.length+1) 0)>4000 then(Ek,4)else if dpT (Yy g F c.2 (F.length+1) 0) 1>100 then(Ek,9)else(Yy g F c.2 (F.length+1) 0,0)
def B1(d:Db)(l:List Str):Ax×Int:=
 if(ofF d).2≠0 then(Ek,(ofF d).2)else match l with
 |[]=>(Ek,2)
 |t::text=>if D7 t∉(ofF d).1.sorts then(Ek,11)else match Fj (ofF d).1 (D7 t) text with
  |(none,e)=>(Ek,if e=160 then 190 else e)
  |(some F,_)=>Mu (ofF d).1 F
end
section
open Go
theorem Vl:∀(N:Nat) (l:List Nat),l.Nodup->(∀x∈l,x<N)->l.length<=N
 |0,[],_,_=>nl
 |0,x::_,_,h=>absurd (h x (ap_ ..)) (gz_ _)
 |N+1,l,hn,h=>by
  by_cases hm:N∈l
  ·have:=Vl N (l.erase N) (hn.erase N) gr
   grind
  ·have:=Vl N l hn gr;omega
theorem Ajk{K a b c d:Nat}(hb:b<K)(hd:d<K)(h:a*K+b=c*K+d):a=c/\b=d:=by
 have hK:0<K:=by omega
 have h1:=congrArg (· / K) h;have h2:=congrArg (·%K) h;simp only[Nat.mul_comm _ K,Nat.mul_add_div hK,Nat.mul_add_mod,Nat.div_eq_of_lt hb,Nat.div_eq_of_lt hd,go_ hb,go_ hd]at h1 h2
 grind
theorem Z4{K A a b:Nat}(ha:a<A)(hb:b<K):a*K+b<A*K:=by
 have:(a+1)*K<=A*K:=el_ K ha
 grind
theorem Afk{α β:Type}{f:α->β}:∀{l:List α},l.Nodup->(∀x∈l,∀y∈l,f x=f y->x=y)->(l.map f).Nodup
 |[],_,_=>dk_
 |x::l,hn,h=>by
  rw[cn_,ed_];rw[ed_]at hn;refine⟨fun hm=>?_,Afk hn.2 fun a ha b hb=>h a (aj_ _ ha) b (aj_ _ hb)⟩
  grind
theorem W9{g r}:(rPt g r).length<=mxP g:=by
 unfold rPt
 split
 ·rename_i x hx
  unfold mxP;have hm:x.parts.length∈g.rules.map (·.parts.length):=bt_.2 ⟨x,au_.2 ⟨_,hx⟩,rfl⟩
  generalize g.rules.map (·.parts.length)=l at hm
  induction l with
  |nil=>cases hm
  |cons y l ih=>
   simp only[List.foldr_cons]
   rcases an_.1 hm with rfl|hm
   ·grind
   ·grind
 grind
def Vm(g:Gr)(at':Nat)(x:It):Prop:=x.1<g.rules.length/\x.2.1<=(rPt g x.1).length/\x.2.2<=at'
def Anh(g:Gr)(at':Nat)(l:List It):Prop:=l.Nodup/\∀x∈l,Vm g at' x
theorem Anh.bound{g at' n l}(h:Anh g at' l)(hn:at'<=n):l.length<=Cu g n:=by
 have h1:(l.map fun x:It=>x.1*((mxP g+1)*(n+1))+(x.2.1*(n+1)+x.2.2)).Nodup:=by
  refine Afk h.1 fun x hx y hy e=>?_
  obtain⟨a1,a2,a3⟩:=h.2 x hx;obtain⟨b1,b2,b3⟩:=h.2 y hy;have a4:=ai_ a2 W9;have b4:=ai_ b2 W9;obtain⟨e1,e2⟩:=Ajk (Z4 Om Om) (Z4 Om Om) e;obtain⟨e3,e4⟩:=Ajk Om Om e2
  grind
 have h2:=Vl (Cu g n) _ h1 fun v hv=>by
  obtain⟨x,hx,rfl⟩:=bt_.1 hv;obtain⟨a1,a2,a3⟩:=h.2 x hx;have a4:=ai_ a2 W9;exact Z4 a1 (Z4 Om Om)
 grind
def Gj(g:Gr)(S:Ch):Prop:=∀j l,S.sets[j]? =some l->Anh g j l
theorem Ch.set_get{S:Ch}{j l}(h:S.sets[j]? =some l):S.set j=l:=by unfold Ch.set;grind
abbrev ej_:=@Ch.set_get
theorem Gj.set{g S j}(h:Gj g S):Anh g j (S.set j):=by
 cases hj:S.sets[j]? with
 |some l=>rw[ej_ hj];exact h j l hj
 |none=>unfold Ch.set;rw[List.getD_eq_getElem?_getD,hj];exact⟨dk_,gr⟩
theorem Ch.add_len{S:Ch}{j x}:(S.add j x).sets.length=S.sets.length:=by unfold Ch.add;split<;>simp
abbrev gj_:=@Ch.add_len
theorem Ch.add_done{S:Ch}{j x}:(S.add j x).done=S.done:=by unfold Ch.add;split<;>rfl
abbrev gn_:=@Ch.add_done
theorem Gj.add{g S j x}(h:Gj g S)(hx:Vm g j x):Gj g (S.add j x):=by
 unfold Ch.add
 split
 ·exact h
 ·rename_i hn
  intro k l hk;simp only[List.getElem?_set]at hk
  split at hk
  ·rename_i e
   subst e
   split at hk
   ·cases hk;have hs:=h.set (j:=j)
    exact⟨dt_.2 ⟨hs.1,by simp,fun a ha b hb e=>hn gr⟩,fun y hy=>by
     rcases bb_.1 hy with hy|hy
     ·exact hs.2 y hy
     grind⟩
   ·cases hk
  ·exact h k l hk
theorem Gj.adds{g j}:∀{l:List It} {S:Ch},Gj g S->(∀x∈l,Vm g j x)->Gj g (S.adds j l)
 |[],_,h,_=>h
 |x::l,S,h,hx=>by
  show Gj g ((S.add j x).adds j l)
  exact Gj.adds (h.add (hx x (ap_ ..))) fun y hy=>hx y (aj_ _ hy)
theorem Ch.adds_len{j}:∀{l:List It} {S:Ch},(S.adds j l).sets.length=S.sets.length
 |[],_=>rfl
 |x::l,S=>by show((S.add j x).adds j l).sets.length=_;rw[Ch.adds_len,gj_]
abbrev dx_:=@Ch.adds_len
theorem Vn{g s j}:∀x∈Su g s j,Vm g j x:=fun x hx=>by
 obtain⟨r,hr,rfl⟩:=bt_.1 hx;have:=(cp_.1 hr).1;exact⟨cw_.1 this,aq_ _,nl⟩
theorem Asb{g j k x p}(h:Vm g j x)(hk:j<=k)(hp:nxI g x=some p):Vm g k (upI x):=
 ⟨h.1,(ae_.1 hp).1,ai_ h.2.2 hk⟩
structure Kp (g:Gr)(S T:Ch):Prop where
 ok:Gj g T
 len:T.sets.length=S.sets.length
theorem Tq{g s x S}(h:Gj g S)(hs:s.2.1<=s.2.2)(hx:Vm g s.2.1 x):Kp g S (Fc g s x S)/\(Fc g s x S).done=S.done:=by
 unfold Fc
 split
 ·rename_i p hp
  split
  ·exact⟨⟨h.add (Asb hx hs hp),gj_⟩,gn_⟩
  ·exact⟨⟨h,rfl⟩,rfl⟩
 ·exact⟨⟨h,rfl⟩,rfl⟩
theorem Asc{g s}(hs:s.2.1<=s.2.2):∀(f i:Nat) (S:Ch),Gj g S->Kp g S (adv g s f i S)/\(adv g s f i S).done=S.done
 |0,_,_,h=>⟨⟨h,rfl⟩,rfl⟩
 |f+1,i,S,h=>by
  unfold adv
  split
  ·exact⟨⟨h,rfl⟩,rfl⟩
  ·rename_i x hx
   have h1:=Tq (x:=x) h hs (h.set.2 x (au_.2 ⟨_,hx⟩));have h2:=Asc hs f (i+1) _ h1.1.ok;exact⟨⟨h2.1.ok,h2.1.len.trans h1.1.len⟩,h2.2.trans h1.2⟩
theorem Ack{g n j x S}(h:Gj g S)(hx:Vm g j x):Kp g S (Dj g n j x S):=by
 unfold Dj
 split
 ·split
  ·exact⟨h,rfl⟩
  ·have h0:Gj g { S with done:=(rSo g x.1,x.2.2,j)::S.done }:=h;have h1:=Asc (g:=g) (s:=(rSo g x.1,x.2.2,j)) hx.2.2 (Cu g n+1) 0 _ h0;exact⟨h1.1.ok,h1.1.len⟩
 ·rename_i p hp
  have h1:Gj g (S.pred g p.sort j):=h.adds Vn
  split
  ·exact⟨h,rfl⟩
  ·split
   ·exact⟨h1.add (Asb hx nl hp),Ch.add_len.trans dx_⟩
   ·exact⟨h1,dx_⟩
theorem Asd{g n j}:∀(f i:Nat) (S:Ch),Gj g S->Kp g S (cls g n j f i S)
 |0,_,_,h=>⟨h,rfl⟩
 |f+1,i,S,h=>by
  unfold cls
  split
  ·exact⟨h,rfl⟩
  ·rename_i x hx
   have h1:=Ack (n:=n) (x:=x) h (h.set.2 x (au_.2 ⟨_,hx⟩));have h2:=Asd (n:=n) (j:=j) f (i+1) _ h1.ok;exact⟨h2.ok,h2.len.trans h1.len⟩
theorem Ahe{g S}(h:Gj g S):Gj g S.open':=fun j l hj=>by
 unfold Ch.open' at hj;simp only[List.getElem?_append]at hj
 split at hj
 ·exact h j l hj
 ·have:=au_.2 ⟨_,hj⟩;rw[ao_]at this;subst this;exact⟨dk_,gr⟩
theorem Ase{g j l sym}(h:∀x∈l,Vm g j x):∀x∈Ma g l sym,Vm g (j+1) x:=fun x hx=>by
 obtain⟨y,hy,e⟩:=List.mem_filterMap.1 hx;unfold Ahd at e
 split at e
 ·rename_i p hp
  split at e
  ·cases e;exact Asb (h y hy) (dm_ _) hp
  ·cases e
 ·cases e
theorem Auy{g text j S T}(h:Gj g S)(hs:S.scan g text j=some T):Gj g T/\T.sets.length=S.sets.length+1:=by
 unfold Ch.scan at hs
 split at hs
 ·cases hs
 ·cases hs;refine⟨(Ahe h).adds (Ase h.set.2),?_⟩;rw[dx_];unfold Ch.open'
  simp
theorem Afl{g s}:Gj g (Aci g s)/\(Aci g s).sets.length=1:=by
 have h0:Gj g ⟨[[]],[]⟩:=fun j l hj=>by
  have:=au_.2 ⟨_,hj⟩;rw[ao_]at this;subst this;exact⟨dk_,gr⟩
 exact⟨h0.adds Vn,dx_⟩
end
section
open Go
def nPt(g:Gr)(r:Nat):Nat:=((rPt g r).filter fun p=>decide (p.sort≠[])).length
structure WOk (g:Gr)(N:Nat)(w:Wy):Prop where
 rule:w.rule<g.rules.length
 len:w.kids.length=nPt g w.rule
 kid:∀k∈w.kids,k<N
theorem WOk.mono{g N M w}(h:WOk g N w)(hm:N<=M):WOk g M w:=⟨h.rule,h.len,fun k hk=>ak_ (h.kid k hk) hm⟩
theorem Ahf{D text to}:∀(ps:List Pt) (a:Nat) (kids:List Sp),∀l∈wyP D text to ps a kids,l.length=kids.length
 |[],a,kids,l,h=>by
  unfold wyP at h
  split at h
  ·rw[ao_]at h;rw[h]
  ·cases h
 |p::ps,a,kids,l,h=>by
  unfold wyP at h
  split at h
  ·cases h
  ·split at h
   ·exact Ahf ps _ _ l h
   ·obtain⟨e,_,h⟩:=List.mem_flatMap.1 h
    split at h
    ·rw[Ahf ps _ _ l h,dc_]
    ·cases h
theorem Apn{g D text r a to}:∀l∈Qx g D text r a to,l.length=nPt g r:=fun l h=>by
 unfold Qx at h;rw[Ahf _ _ _ l h,fi_];rfl
theorem Auz{g D text s}:∀x∈Ajj g D text s,x.1<g.rules.length/\x.2.length=nPt g x.1:=fun x h=>by
 obtain⟨r,hr,h⟩:=List.mem_flatMap.1 h;obtain⟨l,hl,rfl⟩:=bt_.1 h;exact⟨cw_.1 (cp_.1 hr).1,Apn l hl⟩
theorem Asf{L s}:(D2 L s).1<(D2 L s).2.length/\L.length<=(D2 L s).2.length:=by
 unfold D2
 split
 ·rename_i h;exact⟨List.idxOf_lt_length_of_mem h,nl⟩
 ·simp
theorem Xa:∀(l:List Sp) (L:List Sp) (o:List Nat),(∀k∈o,k<L.length)->(Ct L l o).1.length=o.length+l.length/\L.length<=(Ct L l o).2.length/\∀k∈(Ct L l o).1,k<(Ct L l o).2.length
 |[],L,o,h=>⟨rfl,nl,h⟩
 |s::r,L,o,h=>by
  unfold Ct;obtain⟨h1,h2⟩:=Asf (L:=L) (s:=s)
  obtain⟨g1,g2,g3⟩:=Xa r (D2 L s).2 (o++[(D2 L s).1]) fun k hk=>by
   rcases bb_.1 hk with hk|hk
   ·exact ak_ (h k hk) h2
   ·rw[ao_]at hk;rw[hk];exact h1
  refine⟨by rw[g1];simp;omega,ai_ h2 g2,g3⟩
theorem Apo{g x P Q}(hx:x.1<g.rules.length/\x.2.length=nPt g x.1)(hw:∀w∈P.ways,WOk g P.list.length w)(h:F7 x P=some Q):
  (∀w∈Q.ways,WOk g Q.list.length w)/\P.list.length<=Q.list.length/\Q.list.length<=4000:=by
 unfold F7 at h
 split at h
 ·cases h
 ·rename_i hn
  cases h
  obtain⟨g1,g2,g3⟩:=Xa x.2 P.list [] (fun k hk=>by cases hk)
  refine⟨fun w hw'=>?_,g2,by show(Ct P.list x.2 []).2.length<=4000;omega⟩
  rcases bb_.1 hw' with hw'|hw'
  ·exact(hw w hw').mono g2
  ·rw[ao_]at hw';subst hw'
   exact⟨hx.1,by rw[g1,cu_,bn_];exact hx.2,g3⟩
theorem Ani{g}:∀(l:List (Nat×List Sp)) {P Q:Pk},(∀x∈l,x.1<g.rules.length/\x.2.length=nPt g x.1)->(∀w∈P.ways,WOk g P.list.length w)->P.list.length<=4000->Pj l P=some Q->
  (∀w∈Q.ways,WOk g Q.list.length w)/\P.list.length<=Q.list.length/\Q.list.length<=4000
 |[],P,Q,_,hw,hb,h=>by cases h;exact⟨hw,nl,hb⟩
 |x::r,P,Q,hl,hw,hb,h=>by
  unfold Pj at h
  split at h
  ·cases h
  ·rename_i P' hP
   obtain⟨a1,a2,a3⟩:=Apo (hl x (ap_ ..)) hw hP;obtain⟨b1,b2,b3⟩:=Ani r (fun y hy=>hl y (aj_ _ hy)) a1 a3 h
   exact⟨b1,ai_ a2 b2,b3⟩
def FOk(g:Gr)(N:Nat)(F:List Nde):Prop:=∀x∈F,∀w∈x.ways,WOk g N w
theorem Ajl{g D text}:∀(f i total:Nat) (L:List Sp) (nodes F:List Nde),nodes.length=i->i<=L.length->L.length<=4000->FOk g L.length nodes->Pf g D text f i total L nodes=some F->FOk g F.length F/\(0<L.length->0<F.length)/\F.length<=4000
 |0,_,_,_,_,_,_,_,_,_,h=>by cases h
 |f+1,i,total,L,nodes,F,hn,hi,hb,hF,h=>by
  unfold Pf at h
  split at h
  ·rename_i hL
   cases h;have:=List.getElem?_eq_none_iff.1 hL
   have e:nodes.length=L.length:=by omega
   exact⟨by rw[e];exact hF,fun h=>by omega,by omega⟩
  ·rename_i s hs
   split at h
   ·cases h
   ·rename_i P hP
    obtain⟨a1,a2,a3⟩:=Ani (g:=g) _ (fun x hx=>Auz x hx) (fun w hw=>by cases hw) hb hP
    have hlt:=(ae_.1 hs).1
    obtain⟨b1,b2,b3⟩:=Ajl f (i+1) P.total P.list (nodes++[⟨s,P.ways⟩]) F (by simp[hn]) (ai_ hlt a2) a3 (fun x hx w hw=>by
     rcases bb_.1 hx with hx|hx
     ·exact(hF x hx w hw).mono a2
     ·rw[ao_]at hx;subst hx;exact a1 w hw) h
    exact⟨b1,fun hp=>b2 (ak_ hp a2),b3⟩
theorem Acl{g D text w F}(h:Im g D text w=some F):FOk g F.length F/\0<F.length/\F.length<=4000:=by
 obtain⟨a,b,c⟩:=Ajl 4002 0 0 [w] [] F rfl (aq_ _) (by simp) (fun x hx=>by cases hx) h
 exact⟨a,b (by simp),c⟩
end
end Go.AM
namespace Go.AM
open Go
def App(tr:List Nat)(ws:List Wy):Nat:=ws.foldl (fun t w=>min (t+Gp tr w) mxT) 0
structure CI (F:List Nde)(c:Cs)(E:List Nat):Prop where
 l1:c.1.length=F.length
 l2:c.2.length=F.length
 nd:E.Nodup
 le:∀n,c.1.getD n 0<=2
 mem:∀n,n∈E↔c.1.getD n 0=2
 ord:∀(i n:Nat),E[i]? =some n->∃x,F[n]? =some x/\c.2.getD n 0=App c.2 x.ways/\∀w∈x.ways,∀k∈w.kids,∃j,j<i/\E[j]? =some k
structure GsN (F:List Nde)(c:Cs)(E:List Nat)(c':Cs)(E':List Nat):Prop where
 ci:CI F c' E'
 pre:∃X,E'=E++X
 st:∀m,c.1.getD m 0≠0->c'.1.getD m 0=c.1.getD m 0
 tr:∀m∈E,c'.2.getD m 0=c.2.getD m 0
 fr:c'.1.count 0<=c.1.count 0
theorem GsN.refl{F c E}(h:CI F c E):GsN F c E c E:=⟨h,⟨[],by simp⟩,fun _ _=>rfl,fun _ _=>rfl,nl⟩
theorem GsN.mem{F c c' E E'}(h:GsN F c E c' E'){m}(hm:m∈E):m∈E':=by obtain⟨X,rfl⟩:=h.pre;grind
theorem GsN.trans{F c c' c'' E E' E''}(h:GsN F c E c' E')(g:GsN F c' E' c'' E''):GsN F c E c'' E'':=by
 obtain⟨X,hX⟩:=h.pre;obtain⟨Y,hY⟩:=g.pre
 exact⟨g.ci,⟨X++Y,gr⟩,fun m hm=>(g.st m (by rw[h.st m hm];exact hm)).trans (h.st m hm),fun m hm=>(g.tr m (h.mem hm)).trans (h.tr m hm),ai_ g.fr h.fr⟩
def Asg(F:List Nde)(rec:Nat->Cs->Option Cs):Prop:=∀n c E c',CI F c E->n<F.length->rec n c=some c'->∃E',GsN F c E c' E'/\n∈E'
theorem Oz{α β:Type}{f g}:∀{l:List α} {b:β},(∀b,∀x∈l,f b x=g b x)->l.foldl f b=l.foldl g b
 |[],_,_=>rfl
 |x::l,b,h=>by
  rw[ct_,ct_,h b x (ap_ ..)];exact Oz fun b y hy=>h b y (aj_ _ hy)
theorem Yb{tr tr' w}(h:∀k∈w.kids,tr'.getD k 0=tr.getD k 0):Gp tr' w=Gp tr w:=Oz gr
theorem Acm{tr tr' ws}(h:∀w∈ws,∀k∈w.kids,tr'.getD k 0=tr.getD k 0):App tr' ws=App tr ws:=Oz fun b w hw=>by rw[Yb (h w hw)]
theorem Anj{F rec}(hr:Asg F rec):∀(l:List Nat) (p:Nat) (c:Cs) (E:List Nat) (p':Nat) (c':Cs),CI F c E->(∀k∈l,k<F.length)->Ad3 rec l p c=some (p',c')->
  ∃E',GsN F c E c' E'/\(∀k∈l,k∈E')/\p'=l.foldl (fun n k=>min (n*c'.2.getD k 0) mxT) p
 |[],p,c,E,p',c',hc,_,h=>by cases h;exact⟨E,.refl hc,fun k hk=>(by cases hk),rfl⟩
 |k::r,p,c,E,p',c',hc,hl,h=>by
  unfold Ad3 at h
  split at h
  ·cases h
  ·rename_i c1 h1
   obtain⟨E1,g1,m1⟩:=hr k c E c1 hc (hl k (ap_ ..)) h1;obtain⟨E2,g2,m2,e2⟩:=Anj hr r _ c1 E1 p' c' g1.ci (fun x hx=>hl x (aj_ _ hx)) h
   refine⟨E2,g1.trans g2,fun x hx=>?_,?_⟩
   ·rcases an_.1 hx with rfl|hx
    ·exact g2.mem m1
    grind
   ·rw[e2,ct_,g2.tr k m1]
theorem Ank{F rec}(hr:Asg F rec):∀(l:List Wy) (t:Nat) (c:Cs) (E:List Nat) (t':Nat) (c':Cs),CI F c E->(∀w∈l,∀k∈w.kids,k<F.length)->Acj rec l t c=some (t',c')->
  ∃E',GsN F c E c' E'/\(∀w∈l,∀k∈w.kids,k∈E')/\t'=l.foldl (fun t w=>min (t+Gp c'.2 w) mxT) t
 |[],t,c,E,t',c',hc,_,h=>by cases h;exact⟨E,.refl hc,fun w hw=>(by cases hw),rfl⟩
 |w::r,t,c,E,t',c',hc,hl,h=>by
  unfold Acj at h
  split at h
  ·cases h
  ·rename_i p c1 h1
   obtain⟨E1,g1,m1,e1⟩:=Anj hr w.kids 1 c E p c1 hc (hl w (ap_ ..)) h1;obtain⟨E2,g2,m2,e2⟩:=Ank hr r _ c1 E1 t' c' g1.ci (fun x hx=>hl x (aj_ _ hx)) h
   refine⟨E2,g1.trans g2,fun x hx=>?_,?_⟩
   ·rcases an_.1 hx with rfl|hx
    ·exact fun k hk=>g2.mem (m1 k hk)
    grind
   ·have:p=Gp c'.2 w:=by rw[e1,Yb (tr:=c1.2) fun k hk=>g2.tr k (m1 k hk)];rfl
    grind
theorem I5{l:List Nat}{n m v}(hn:n<l.length):(l.set n v).getD m 0=if m=n then v else l.getD m 0:=gr
theorem Xb{l:List Nat}{n v}(hv:v≠0)(hn:n<l.length):(l.set n v).count 0+(if l.getD n 0=0 then 1 else 0)=l.count 0:=gr
theorem CI.lt{F c E}(h:CI F c E):∀n∈E,n<F.length:=fun n hn=>by
 obtain⟨i,hi⟩:=au_.1 hn;obtain⟨x,hx,_⟩:=h.ord i n hi
 grind
theorem CI.len{F c E}(h:CI F c E):E.length<=F.length:=Vl _ _ h.nd h.lt
theorem Z5{g F}(hF:FOk g F.length F):∀f,Asg F (La F f)
 |0=>fun n c E c' hc hn h=>by cases h
 |f+1=>fun n c E c' hc hn h=>by
  unfold La at h
  split at h
  ·cases h
  ·rename_i h1
   split at h
   ·rename_i h2
    cases h;exact⟨E,.refl hc,(hc.mem n).2 h2⟩
   ·rename_i h2
    split at h
    ·cases h
    ·rename_i x hx
     split at h
     ·cases h
     ·rename_i t c1 hw
      cases h;have hnE:n∉E:=fun hm=>h2 ((hc.mem n).1 hm)
      have hn1:n<c.1.length:=by rw[hc.l1];exact hn
      have hc1:CI F (c.1.set n 1,c.2) E:=by
       refine⟨by rw[dc_];exact hc.l1,hc.l2,hc.nd,fun m=>?_,fun m=>?_,hc.ord⟩
       ·show(c.1.set n 1).getD m 0<=2
        rw[I5 hn1];split
        ·omega
        ·exact hc.le m
       ·rw[hc.mem]
        grind
      have hk:∀w∈x.ways,∀k∈w.kids,k<F.length:=fun w hw=>(hF x (au_.2 ⟨_,hx⟩) w hw).kid
      obtain⟨E1,g1,m1,e1⟩:=Ank (Z5 hF f) x.ways 0 _ E t c1 hc1 hk hw
      have hs1:c1.1.getD n 0=1:=by
       have:=g1.st n gr
       grind
      have qd:n∉E1:=fun hm=>by have:=(g1.ci.mem n).1 hm;grind
      have hn2:n<c1.1.length:=gr
      have hn3:n<c1.2.length:=by rw[g1.ci.l2];exact hn
      have htr:∀m∈E1,(c1.2.set n t).getD m 0=c1.2.getD m 0:=gr;obtain⟨X,hX⟩:=g1.pre
      refine⟨E1++[n],⟨⟨by show(c1.1.set n 2).length=_;rw[dc_];exact g1.ci.l1,by show(c1.2.set n t).length=_;rw[dc_];exact g1.ci.l2,?_,fun m=>?_,fun m=>?_,fun i m hm=>?_⟩,⟨X++[n],gr⟩,fun m hm=>?_,fun m hm=>?_,?_⟩,by simp⟩
      ·exact dt_.2 ⟨g1.ci.nd,by simp,fun a ha b hb e=>qd gr⟩
      ·show(c1.1.set n 2).getD m 0<=2
       rw[I5 hn2];split
       ·omega
       ·exact g1.ci.le m
      ·show _↔(c1.1.set n 2).getD m 0=2
       rw[I5 hn2,bb_,ao_,g1.ci.mem]
       grind
      ·rw[List.getElem?_append]at hm
       split at hm
       ·rename_i hi
        obtain⟨y,hy,q1,q2⟩:=g1.ci.ord i m hm;have hmE:m∈E1:=au_.2 ⟨_,hm⟩;refine⟨y,hy,?_,fun w hw k hk=>?_⟩
        ·show(c1.2.set n t).getD m 0=App (c1.2.set n t) y.ways
         rw[htr m hmE,q1];refine(Acm fun w hw k hk=>htr k ?_).symm
         grind
        ·obtain⟨j,hj,hj'⟩:=q2 w hw k hk;exact⟨j,hj,gr⟩
       ·rename_i hi
        have hi0:i-E1.length=0:=gr;rw[hi0]at hm;cases hm;refine⟨x,hx,?_,fun w hw k hk=>?_⟩
        ·show(c1.2.set n t).getD n 0=App (c1.2.set n t) x.ways
         rw[I5 hn3,if_pos rfl];exact e1.trans (Acm fun w hw k hk=>htr k (m1 w hw k hk)).symm
        ·obtain⟨j,hj⟩:=au_.1 (m1 w hw k hk)
         grind
      ·show(c1.1.set n 2).getD m 0=_
       rw[I5 hn2]
       by_cases e:m=n
       ·exfalso
        rw[e]at hm;have:=hc.le n;omega
       ·rw[if_neg e,g1.st m gr]
        grind
      ·show(c1.2.set n t).getD m 0=_
       rw[I5 hn3,if_neg (fun e:m=n=>hnE gr)]
       exact g1.tr m hm
      ·show(c1.1.set n 2).count 0<=_
       have a1:=Xb (l:=c1.1) (n:=n) (v:=2) (by decide) hn2
       have a2:=Xb (l:=c.1) (n:=n) (v:=1) (by decide) hn1
       have a3:c1.1.count 0<=(c.1.set n 1).count 0:=g1.fr;omega
theorem Afm{tr:List Nat}:∀(l:List Nat),l.foldl (fun n k=>min (n*tr.getD k 0) mxT) 0=0
 |[]=>rfl
 |k::l=>by rw[ct_,dw_,Nat.zero_min];exact Afm l
theorem Xc{tr:List Nat}:∀(l:List Nat) (b:Nat),l.foldl (fun n k=>min (n*tr.getD k 0) mxT) b≠0->∀k∈l,tr.getD k 0≠0
 |[],_,_,k,hk=>by cases hk
 |x::l,b,h,k,hk=>by
  rw[ct_]at h
  rcases an_.1 hk with rfl|hk
  ·intro e;rw[e,Nat.mul_zero,Nat.zero_min]at h;exact h (Afm l)
  ·exact Xc l _ h k hk
theorem Ajm{tr}:∀(l:List Wy) (t:Nat),l.foldl (fun t w=>min (t+Gp tr w) mxT) t≠0->t≠0∨∃w∈l,Gp tr w≠0
 |[],_,h=>.inl h
 |x::l,t,h=>by
  rcases Ajm l _ h with h|⟨w,hw,h⟩
  ·grind
  grind
theorem CI.first{F c E}(h:CI F c E){i n:Nat}(hi:E[i]? =some n)(hn:c.2.getD n 0≠0):
  ∃x w,F[n]? =some x/\(x.ways.find? fun w=>decide (Gp c.2 w≠0))=some w/\w∈x.ways/\Gp c.2 w≠0/\∀k∈w.kids,(∃j,j<i/\E[j]? =some k)/\c.2.getD k 0≠0:=by
 obtain⟨x,hx,h1,h2⟩:=h.ord i n hi;rw[h1]at hn
 rcases Ajm _ _ hn with h0|⟨w,hw,hp⟩
 ·grind
 ·cases hf:x.ways.find? fun w=>decide (Gp c.2 w≠0)with
  |none=>have:=List.find?_eq_none.1 hf w hw;simp[hp]at this
  |some v=>
   have hv:=List.mem_of_find?_eq_some hf;have hp':Gp c.2 v≠0:=gr;exact⟨x,v,hx,hf,hv,hp',fun k hk=>⟨h2 v hv k hk,Xc _ _ hp' k hk⟩⟩
theorem Apq{g F c E}(h:CI F c E):∀(i n f f':Nat),E[i]? =some n->c.2.getD n 0≠0->i<f->i<f'->Yy g F c.2 f n=Yy g F c.2 f' n:=by
 intro i
 induction i using Nat.strongRecOn with
 |_ i ih=>
  intro n f f' hi hn h1 h2;obtain⟨x,w,hx,hf,hw,hp,hk⟩:=h.first hi hn
  obtain⟨f,rfl⟩:∃k,f=k+1:=⟨f-1,by omega⟩
  obtain⟨f',rfl⟩:∃k,f'=k+1:=⟨f'-1,by omega⟩
  simp only[Yy,hx,hf]
  congr 1
  refine List.map_congr_left fun k hk'=>?_
  obtain⟨⟨j,hj,hj'⟩,hn'⟩:=hk k hk';exact ih j hj k f f' hj' hn' Om Om
def fT(g:Gr)(F:List Nde)(c:Cs)(n:Nat):Ax:=Yy g F c.2 (F.length+1) n
theorem Ajn{g F c E}(h:CI F c E){i n:Nat}{x w}(hi:E[i]? =some n)(hn:c.2.getD n 0≠0)(hx:F[n]? =some x)(hf:(x.ways.find? fun w=>decide (Gp c.2 w≠0))=some w):
  fT g F c n=.node (Md g w.rule) (w.kids.map (fT g F c)):=by
 obtain⟨x',w',hx',hf',hw,hp,hk⟩:=h.first hi hn;rw[hx]at hx';cases hx';rw[hf]at hf';cases hf';have hl:=h.len;have hil:=(ae_.1 hi).1
 have e:fT g F c n=.node (Md g w.rule) (w.kids.map (Yy g F c.2 F.length)):=by
  unfold fT;simp only[Yy,hx,hf]
 rw[e]
 congr 1
 refine List.map_congr_left fun k hk'=>?_
 obtain⟨⟨j,hj,hj'⟩,hn'⟩:=hk k hk';exact Apq h j k _ _ hj' hn' Om Om
inductive ArT (g:Gr):Ax->Prop
 |node {r:Nat} {ks:List Ax}:r<g.rules.length->ks.length=nPt g r->(∀k∈ks,ArT g k)->ArT g (.node (Md g r) ks)
theorem fT_ar{g F c E}(hF:FOk g F.length F)(h:CI F c E):∀(i n:Nat),E[i]? =some n->c.2.getD n 0≠0->ArT g (fT g F c n):=by
 intro i
 induction i using Nat.strongRecOn with
 |_ i ih=>
  intro n hi hn;obtain⟨x,w,hx,hf,hw,hp,hk⟩:=h.first hi hn;rw[Ajn h hi hn hx hf];have ok:=hF x (au_.2 ⟨_,hx⟩) w hw
  refine .node ok.rule (by rw[cx_];exact ok.len) fun t ht=>?_
  obtain⟨k,hk',rfl⟩:=bt_.1 ht;obtain⟨⟨j,hj,hj'⟩,hn'⟩:=hk k hk';exact ih j hj k hj' hn'
theorem ci0{F}:CI F (List.replicate F.length 0,List.replicate F.length 0) []:=by
 have h:∀n,(List.replicate F.length 0).getD n 0=0:=gr
 refine⟨by simp,by simp,dk_,fun n=>?_,fun n=>?_,gr⟩
 ·grind
 grind
theorem Ash{g F t}(hF:FOk g F.length F)(h0:0<F.length)(h:Mu g F=(t,0)):ArT g t:=by
 unfold Mu at h
 split at h
 ·cases h
 ·rename_i c hc
  split at h
  ·cases h
  ·rename_i h1
   split at h
   ·cases h
   ·split at h
    ·cases h
    ·cases h;obtain⟨E,hg,hm⟩:=Z5 hF _ 0 _ [] c ci0 h0 hc;obtain⟨i,hi⟩:=au_.1 hm;exact fT_ar hF hg.ci i 0 hi Om
section
open Go Go.Proofs
structure Ax9 where
 n:Int
 des:List Int
 tabs:List Aya
def eTb(t:Aya):List AV:=[sV t.label,slV eI 1 t.vals]
def eVl(v:Ayb):List AV:=[sV v.var,iV v.val]
def mdV(m:Ax9):AV:=.agg [iV m.n,slV eI 1 m.des,slV eTb 2 m.tabs]
def leB:Option Int->Int->Bool
 |none,_=>false
 |some b,a=>decide (a<=b)
def A2w(n:Int):Option Int->List Int->Bool
 |_,[]=>false
 |p,a::r=>((decide (a<0)||decide (n<=a))||leB p a)||A2w n (some a) r
def A1c(n:Int)(l:List Int):Int:=if(decide (n<1)||decide (5<n))=true then 3 else if A2w n none l=true then 1 else 0
theorem A3g{n:Int}:∀{l:List Int} {p:Option Int},A2w n p l=false->∀a∈l,0<=a/\a<n
 |[],_,_,a,h=>by cases h
 |b::r,p,h,a,ha=>by
  unfold A2w at h;simp only[bv_,decide_eq_false_iff_not]at h
  rcases an_.1 ha with rfl|ha
  ·omega
  ·exact A3g h.2 a ha
theorem A3h{n:Int}{l:List Int}(h:A1c n l=0):1<=n/\n<=5/\∀a∈l,0<=a/\a<n:=by
 unfold A1c at h
 split at h
 ·cases h
 ·rename_i h1
  split at h
  ·cases h
  ·rename_i h2
   simp only[bk_,decide_eq_true_eq,not_or]at h1;rw[Bool.not_eq_true]at h2
   exact⟨by omega,by omega,A3g h2⟩
def A2a{α:Type}(l:List α)(i:Nat):Option α:=if i=0 then none else l[i-1]?
theorem A2x{α:Type}{l:List α}{i:Nat}{a:α}(h:l[i]? =some a):A2a l (i+1)=some a:=by unfold A2a;rw[if_neg Om];exact h
def Ayi(n m:Int):Nat->Int->Int
 |0,c=>c
 |k+1,c=>if decide (m<c*n)=true then m+1 else Ayi n m k (c*n)
theorem A1o{n m:Int}:∀{k:Nat} {c:Int},Ayi n m k c<=m->Ayi n m k c=c*n ^ k
 |0,c,_=>by simp[Ayi]
 |k+1,c,h=>by
  unfold Ayi at h⊢
  split at h
  ·omega
  ·rename_i h1
   rw[if_neg h1,A1o h,Int.pow_succ,Int.mul_assoc,Int.mul_comm n]
def Ay2(g:List Rl)(n:Int):List Aya->SM (List Int)->Int×SM (List Int)
 |[],tm=>(0,tm)
 |t::r,tm=>match F4 g t.label with
  |none=>(360,tm)
  |some x=>if(x.var||(tm.get t.label).isSome)=true then(360,tm)else
   if decide (10000<Ayi n 10000 (Qw x) 1)=true then(4,tm)else
   if(!decide (Int.ofNat t.vals.length=Ayi n 10000 (Qw x) 1)||t.vals.any fun v=>decide (v<0)||decide (n<=v))=true then(360,tm)else Ay2 g n r (tm.put t.label t.vals)
def axR(g:List Rl):List Rl:=g.filter fun r=> !r.var
def Ayx(g:List Rl)(n:Int)(l:List Aya):Int×SM (List Int):=
 let x:=Ay2 g n l []
 if x.1=0 then(if x.2.length=(axR g).length then x else(360,x.2))else x
def Ayd(gr:Gr×Int)(m:Ax9):Int:=
 if gr.2=0 then(if A1c m.n m.des=0 then(Ayx gr.1.rules m.n m.tabs).1 else A1c m.n m.des)else gr.2
theorem A2b{g:List Rl}{n:Int}(hn:1<=n):∀{l:List Aya} {tm:SM (List Int)},A0w g tm n->(Ay2 g n l tm).1=0->A0w g (Ay2 g n l tm).2 n
 |[],tm,ht,_=>ht
 |t::r,tm,ht,h=>by
  unfold Ay2 at h⊢
  split at h
  ·cases h
  ·rename_i x hx
   split at h
   ·cases h
   ·rename_i h1
    rw[if_neg h1]
    split at h
    ·cases h
    ·rename_i h2
     rw[if_neg h2]
     split at h
     ·cases h
     ·rename_i h3
      rw[if_neg h3];simp only[bk_,not_or,Bool.not_eq_true,decide_eq_true_eq,bi_,decide_eq_false_iff_not,Decidable.not_not,e_,not_exists,not_and]at h1 h2 h3;have hL:=A1o (n:=n) (m:=10000) (k:=Qw x) (c:=1) Om;refine A2b hn ⟨hn,fun s tab hs=>?_,fun s tab hs=>?_,fun s tab hs=>?_⟩ h
      ·rw[ch_]at hs
       split at hs
       ·rename_i he
        cases hs;subst he
        exact⟨x,hx,h1.1,by rw[h3.1,hL,Int.one_mul]⟩
       ·exact ht.key s tab hs
      ·rw[ch_]at hs
       split at hs
       ·rename_i he
        cases hs;subst he;intro v hv;have:=h3.2 v hv;omega
       ·exact ht.val s tab hs
      ·rw[ch_]at hs
       split at hs
       ·rename_i he
        cases hs;subst he;have h9:=h3.1;simp only[bu_]at h9;omega
       ·exact ht.len s tab hs
theorem A36{g:List Rl}{n:Int}{l:List Aya}(hn:1<=n)(h:(Ayx g n l).1=0):A0w g (Ayx g n l).2 n:=by
 unfold Ayx at h⊢;simp only at h⊢
 split at h
 ·rename_i h1
  rw[if_pos h1]
  split at h
  ·rename_i h2
   rw[if_pos h2]
   exact A2b hn ⟨hn,fun s tab hs=>(by cases hs),fun s tab hs=>(by cases hs),fun s tab hs=>(by cases hs)⟩ h1
  ·cases h
 ·rename_i h1
  exact absurd h h1
end
section
open Go Go.Proofs
theorem f163(p:Int->Bool)(l:List Int)(k:Nat)(cap:List AV)(J:Sto)(hb:l.length<4611686018427387904)(hk:∀a∈l,Al Ew k ([iV a]++cap) J fun v J'=>v=.bool (p a)/\J'=J):
  Cv 163 [slV eI 1 l,.fn (.func k) [] cap] J (iV (A5 p l 0)):=by
 refine Aj Tryz.func163 rfl rfl fun hw hu=>?_
 refine G12 ?_;refine Bz l.length (fun i=>[(0,slV eI 1 l),(1,.fn (.func k) [] cap),(7,iV (.ofNat l.length)),(8,iV (.ofNat i))]) (fun i J'=>J'=J/\A5 p l 0=A5 p (l.drop i) i) SL ⟨rfl,rfl⟩ ?_
 rintro i J' hi ⟨rfl,hf⟩;refine G5 ?_;refine Ab rfl ?_ ?_<;>intro h
 ·have hlt:i<l.length:=by simpa using h
  obtain⟨a,ha⟩:∃a,l[i]? =some a:=⟨_,az_ hlt⟩
  have hd:l.drop i=a::l.drop (i+1):=by
   obtain⟨h1,rfl⟩:=ae_.1 ha;exact bj_ h1
  iterate 15 refine G ?_
  refine Az rfl rfl rfl rfl (hk a (ab_ ha)) ?_;rintro _ _ ⟨rfl,rfl⟩;refine G ?_;refine Ab rfl (fun h'=>?_) (fun h'=>?_)
  ·refine G6 ?_;refine⟨_,rfl,iV (.ofNat i),_,a_ hw nl (fun _ _=>rfl),nl,.same rfl,?_,rfl⟩
   rw[hf,hd];simp only[A5,h',cond_true]
  ·refine G2 ?_;refine O1 (D3 (p:=i) (q:=1) okC rfl rfl Om) ?_;refine G2 ?_;refine⟨hlt,SL,rfl,?_⟩;rw[hf,hd];simp only[A5,h',cond_false]
 ·have hge:l.length<=i:=by simpa using h
  refine G6 ?_;refine⟨_,rfl,iV (-1),_,a_ hw nl (fun _ _=>rfl),nl,.same rfl,?_,rfl⟩
  rw[hf,ah_ hge];rfl
theorem f127(p:Int->Bool)(l:List Int)(k:Nat)(cap:List AV)(J:Sto)(hb:l.length<4611686018427387904)(hk:∀a∈l,Al Ew k ([iV a]++cap) J fun v J'=>v=.bool (p a)/\J'=J):
  Cv 127 [slV eI 1 l,.fn (.func k) [] cap] J (.bool (l.any p)):=by
 refine Aj Tryz.func127 rfl rfl fun hw _=>?_
 refine G8 ?_;refine Az rfl rfl rfl rfl (f163 p l k cap J hb hk) ?_;rintro _ _ ⟨rfl,rfl⟩;refine G4 ?_;refine B4 hw rfl ?_;exact congrArg AV.bool (Gf l)
end
section
open Go Go.Proofs
end
section
open Go Go.Proofs
end
section
open Go Go.Proofs
theorem Au0{E ρ J Rr}{t ty:Nat}{x y p q}(hi:okI E.P t=true)(hx:Ah E ρ x=some (.int .i64 p))(hy:Ah E ρ y=some (.int .i64 q))(h1: -9223372036854775808<=p*q)(h2:p*q<9223372036854775808):
  As E Rr (.binOp .mul t x y ty) ρ J (iV (p*q)) J:=L0 hi hx hy (by simp only[Ic,Aex h1 h2];rfl)
theorem f162(r s J):Cv 162 [.agg (eR r),.pv [sV s]] J (.bool (decide (r.label=s))):=by
 refine Aj Tryz.func162 rfl rfl fun hw hu0=>?_
 iterate 14 refine G ?_
 refine B4 hw rfl ?_
 rfl
theorem f126(g s J)(hb:g.rules.length<1000000):Cv 126 [grV g,sV s] J (iV (A5 (fun r=>decide (r.label=s)) g.rules 0)):=by
 refine Aj Tryz.func126 rfl rfl fun hw hu0=>?_
 refine G11 ?_;refine Ca (f161 (fun r=>decide (r.label=s)) g.rules 162 [.pv [sV s]] _ Om (fun a _=>f162 a s _)) ?_
 refine G3 ?_;refine B4 hw rfl ?_
 rfl
end
section
open Go Go.Proofs
theorem Qy(r):(eR r).length=4:=rfl
def zRl:Rl:=⟨[],[],[],false⟩
def A0x(l:List Rl)(s:Str):Rl:=(F4 l s).getD zRl
theorem A5n{J U:Sto}:FzL J U [.str [],.str [],nS,.bool false] (eR zRl):=.cons (.same rfl) (.cons (.same rfl) (.cons Ex (.cons (.same rfl) .nil)))
end
section
open Go Go.Proofs
section
variable {E:Env}{ρ:Ad}{J:Sto}{Rr:Rec}{t t':Nat}{x:Operand}{v z:AV}
def coI(P:Program)(t:Nat):Option (Option AV):=match Ay P t with
 |some ti=>match ti.desc with
  |.interface _=>none
  |_=>some (Lh ti)
 |none=>none
theorem A37{o:Option AV}(hi:coI E.P t=some o)(hx:Ah E ρ x=some v):As E Rr (.makeInterface t x) ρ J (.ifc t v) J:=fun tm h=>by
 unfold coI at hi
 split at hi
 ·rename_i ti hti
  simp only[opA,Aw,hti,h.opd hx]
  split at hi
  ·cases hi
  ·rename_i hd
   split
   ·rename_i hd2;exact absurd hd2 (hd _)
   ·rfl
 ·cases hi
theorem A2c{s:Nat}{o:Option AV}(hi:coI E.P t=some o)(hx:Ah E ρ x=some (.ifc t v)):As E Rr (.typeAssert x s t true) ρ J (.tup [v,.bool true]) J:=fun tm h=>by
 unfold coI at hi
 split at hi
 ·rename_i ti hti
  simp only[opA,Aw,hti,h.opd hx]
  split at hi
  ·cases hi
  ·rename_i hd
   split
   ·rename_i hd2;exact absurd hd2 (hd _)
   ·simp only[Zr,aw_];rfl
 ·cases hi
theorem A3w{s:Nat}(hi:coI E.P t=some (some z))(hx:Ah E ρ x=some (.ifc t' v))(hb:Nat.beq t' t=false):As E Rr (.typeAssert x s t true) ρ J (.tup [z,.bool false]) J:=fun tm h=>by
 unfold coI at hi
 split at hi
 ·rename_i ti hti
  simp only[opA,Aw,hti,h.opd hx]
  split at hi
  ·cases hi
  ·rename_i hd
   split
   ·rename_i hd2;exact absurd hd2 (hd _)
   ·have hz:Lh ti=some z:=by_ hi;simp only[Zr,hb,hz]
 ·cases hi
end
theorem A5e:coI Ew.P 454=some (some (.str [])):=Kr
theorem A38:coI Ew.P 456=some (some (.agg [.str [],nS])):=Kr
end
section
open Go Go.Proofs
def A5f(s:Str)(ks:List Ax):AV:=cond ks.isEmpty (.ifc 454 (sV s)) (.ifc 456 (.agg [sV s,slV eT 2 ks]))
theorem f285(s:Str)(ks:List Ax)(J:Sto)(hb:ks.length<1000000):Cv 285 [En (.node s ks)] J (A5f s ks):=by
 rw[Cg];refine Aj Tryz.func285 rfl rfl fun hw hu0=>?_
 iterate 13 refine G ?_
 refine Ab rfl ?_ ?_<;>intro h1
 ·have e:ks=[]:=ey_.1 (by simpa using h1)
  refine G4 ?_;refine O1 (A37 A5e rfl) ?_;refine G3 ?_;refine B4 hw rfl ?_;subst e;rfl
 ·have e:ks≠[]:=fun e=>by subst e;simp at h1
  refine G8 ?_;refine O1 (A37 A38 rfl) ?_;refine G3 ?_
  refine⟨_,rfl,_,_,a_ hw nl (fun _ _=>rfl),nl,.same (by show(true&&((AV.und (nx J) (slV eT 2 ks))&&true))=true;rw[Fv Es];rfl),?_,rfl⟩
  unfold A5f;rw[show ks.isEmpty=false by cases ks with|nil=>exact absurd rfl e|cons=>rfl];rfl
theorem f264a(s:Str)(J:Sto):Cv 264 [En (.node s [])] J (slV eT 2 []):=by
 refine Aj Tryz.func264 rfl rfl fun hw hu0=>?_
 refine G9 ?_
 refine Ca (f285 s [] _ (by decide)) ?_
 refine G4 ?_;refine O1 (A3w A38 (t':=454) (v:=sV s) rfl rfl) ?_;refine G3 ?_;refine Ab rfl ?_ ?_<;>intro h1
 ·exact absurd h1 (by simp)
 ·skip
  refine G2 ?_;refine O1 (A2c A5e rfl) ?_;refine G3 ?_;refine Ab rfl ?_ ?_<;>intro h2
  ·skip
   refine G8 ?_;exact⟨_,rfl,_,_,a_ hw nl (fun _ _=>rfl),nl,Ex,rfl,rfl⟩
  ·exact absurd h2 (by simp)
theorem f264b(s:Str)(k:Ax)(ks:List Ax)(J:Sto)(hb:(k::ks).length<1000000):Cv 264 [En (.node s (k::ks))] J (slV eT 2 (k::ks)):=by
 refine Aj Tryz.func264 rfl rfl fun hw hu0=>?_
 refine G9 ?_;refine Ca (f285 s (k::ks) _ hb) ?_;refine G4 ?_;refine O1 (A2c A38 rfl) ?_;refine G3 ?_;refine Ab rfl ?_ ?_<;>intro h1
 ·skip
  refine G11 ?_;exact⟨_,rfl,_,_,a_ hw nl (fun _ _=>rfl),nl,.same (show AV.und (nx J) (slV eT 2 (k::ks))=true from Fv Es _),rfl,rfl⟩
 ·exact absurd h1 (by simp)
theorem f264(s:Str)(ks:List Ax)(J:Sto)(hb:ks.length<1000000):Cv 264 [En (.node s ks)] J (slV eT 2 ks):=by
 cases ks with
 |nil=>exact f264a s J
 |cons k ks=>exact f264b s k ks J hb
end
section
open Go Go.Proofs
section
variable {E:Env}{ρ:Ad}{J:Sto}{Rr:Rec}{t t':Nat}{x:Operand}{v z:AV}
end
end
section
open Go Go.Proofs
end
section
open Go Go.Proofs
mutual
def hT:Ax->Nat
 |.node _ ks=>1+hL ks
def hL:List Ax->Nat
 |[]=>0
 |t::r=>max (hT t) (hL r)
end
theorem A39:∀(l m:List Ax),hL (l++m)=max (hL l) (hL m)
 |[],m=>by simp[hL]
 |t::r,m=>by simp only[ay_,hL,A39 r m];omega
mutual
theorem hT_le:∀t:Ax,hT t<=M6 t
 |.node _ ks=>by unfold hT M6;have:=A4a ks;omega
theorem A4a:∀l:List Ax,hL l<=Ach l
 |[]=>nl
 |t::r=>by unfold hL Ach;have:=hT_le t;have:=A4a r;omega
end
mutual
theorem A4b:∀(t:Ax) (lv:Nat),dpT t lv+1=lv+hT t
 |.node _ ks,lv=>by unfold dpT hT;have:=A5g ks (lv+1) lv nl;omega
theorem A5g:∀(l:List Ax) (lv d:Nat),lv<=d+1->dpL l lv d+1=max (d+1) (lv+hL l)
 |[],lv,d,h=>by unfold dpL hL;omega
 |t::r,lv,d,h=>by
  unfold dpL hL;have h1:=A4b t lv;rw[A5g r lv (max d (dpT t lv)) Om];omega
end
theorem f232n(s:Str)(ks:List Ax)(J:Sto)(hb:M6 (.node s ks)<=100000)(ih:∀k∈ks,Cv 232 [En k] J (.tup [iV (.ofNat (M6 k)),iV (.ofNat (hT k))])):Cv 232 [En (.node s ks)] J (.tup [iV (.ofNat (M6 (.node s ks))),iV (.ofNat (hT (.node s ks)))]):=by
 have hlk:=Ajh ks
 have hck:1+Ach ks<=100000:=by unfold M6 at hb;exact hb
 refine Aj Tryz.func232 rfl rfl fun hw hu0=>?_
 refine G10 ?_;refine Ca (f264 s ks _ Om) ?_;refine G4 ?_;refine Bz ks.length (fun i0=>[(2,iV (.ofNat (Ach (ks.take i0)))),(3,iV (.ofNat (hL (ks.take i0)))),(9,slV eT 2 ks),(10,iV (.ofNat ks.length)),(11,iV (.ofNat i0))]) (fun i0 J0=>J0=J) SL rfl ?_
 rintro i0 J0 hi0 rfl;refine G5 ?_;refine Ab rfl ?_ ?_<;>intro h1
 ·have bc:i0<ks.length:=by simpa using h1
  obtain⟨a0,ha0⟩:=Ar bc;have hd0:=A4 ha0;have hct:=Azj ha0
  have e4:Int.ofNat (Ach (ks.take i0)+M6 a0)=Int.ofNat (Ach (ks.take (i0+1))):=by rw[Fw ha0,Azc];simp only[Ach,bu_];omega
  have e5:max (Int.ofNat (hL (ks.take i0))) (Int.ofNat (hT a0))=Int.ofNat (hL (ks.take (i0+1))):=by rw[Fw ha0,A39];simp only[hL,bu_];omega
  refine G5 ?_;refine O1 (A1 elC Dh rfl rfl ha0) (O1 (Ac ldC rfl rfl (A6 (Dh a0) _)) (Ho ziC ldC rfl (fun _=>rfl) rfl (A7 (Dh a0)) rfl rfl ?_))
  refine G4 ?_;refine Ca (ih a0 (ab_ ha0)) ?_;refine G9 ?_;refine O1 (D3 okC rfl rfl Om) ?_;refine G2 ?_;refine O1 (Aw4 okC rfl rfl) ?_;refine G7 ?_;refine⟨bc,⟨congrArg (fun x=>some (iV x)) e4,congrArg (fun x=>some (iV x)) e5,rfl,rfl,rfl,trivial⟩,rfl⟩
 ·have bj:ks.length<=i0:=by simpa using h1
  rw[at_ bj];have hhl:=A4a ks;refine G11 ?_;refine B4 hw rfl ?_;unfold M6 hT;rw[fz_ 1 (Ach ks),fz_ 1 (hL ks)];rfl
theorem f232(t:Ax)(J:Sto)(hb:M6 t<=100000):Cv 232 [En t] J (.tup [iV (.ofNat (M6 t)),iV (.ofNat (hT t))]):=by
 revert hb
 refine Ax.ind' (P:=fun t=>M6 t<=100000->Cv 232 [En t] J (.tup [iV (.ofNat (M6 t)),iV (.ofNat (hT t))])) ?_ t
 intro s ks ih hb;refine f232n s ks J hb fun k hk=>ih k hk ?_
 have:=Azd hk;unfold M6 at hb;omega
theorem f194(t:Ax)(J:Sto)(hb:M6 t<=4000)(hh:hT t<=100):Cv 194 [En t] J (iV 0):=by
 refine Aj Tryz.func194 rfl rfl fun hw hu0=>?_
 refine G8 ?_;refine Ca (f232 t _ Om) ?_
 iterate 14 refine G ?_
 refine Ab rfl ?_ ?_<;>intro h1
 ·exact absurd h1 (by simp only[bu_,decide_eq_true_eq];omega)
 ·skip
  refine G6 ?_;refine Ab rfl ?_ ?_<;>intro h2
  ·exact absurd h2 (by simp only[bu_,decide_eq_true_eq];omega)
  ·skip
   refine G6 ?_;refine B4 hw rfl ?_
   rfl
theorem f265n(s:Str)(ks:List Ax)(lv:Nat)(J:Sto)(hb:M6 (.node s ks)<=4000)(hlv:lv<=100000)(ih:∀k∈ks,Cv 265 [En k,iV (.ofNat (lv+1))] J (.tup [iV (.ofNat (M6 k)),iV (.ofNat (dpT k (lv+1)))])):Cv 265 [En (.node s ks),iV (.ofNat lv)] J (.tup [iV (.ofNat (M6 (.node s ks))),iV (.ofNat (dpT (.node s ks) lv))]):=by
 have hlk:=Ajh ks
 have hck:1+Ach ks<=4000:=by unfold M6 at hb;exact hb
 rw[Cg];refine Aj Tryz.func265 rfl rfl fun hw hu0=>?_
 iterate 21 refine G ?_
 refine Bz ks.length (fun i0=>[(1,iV (.ofNat lv)),(4,iV (.ofNat (1+Ach (ks.take i0)))),(5,iV (.ofNat (dpL (ks.take i0) (lv+1) lv))),(12,slV eT 2 ks),(13,iV (.ofNat ks.length)),(14,iV (.ofNat i0))]) (fun i0 J0=>J0=J) ⟨rfl,congrArg (fun x=>some (iV x)) (show Int.ofNat 1=Int.ofNat (1+Ach (ks.take 0)) by simp[Ach]),congrArg (fun x=>some (iV x)) (show Int.ofNat lv=Int.ofNat (dpL (ks.take 0) (lv+1) lv) by simp[dpL]),rfl,rfl,rfl,trivial⟩ rfl ?_
 rintro i0 J0 hi0 rfl;refine G5 ?_;refine Ab rfl ?_ ?_<;>intro h1
 ·have bc:i0<ks.length:=by simpa using h1
  obtain⟨a0,ha0⟩:=Ar bc;have hd0:=A4 ha0;have hct:=Azj ha0
  have e4:Int.ofNat (1+Ach (ks.take i0)+M6 a0)=Int.ofNat (1+Ach (ks.take (i0+1))):=by rw[Fw ha0,Azc];simp only[Ach,bu_];omega
  have e5:max (Int.ofNat (dpL (ks.take i0) (lv+1) lv)) (Int.ofNat (dpT a0 (lv+1)))=Int.ofNat (dpL (ks.take (i0+1)) (lv+1) lv):=by rw[Fw ha0,A3f];simp only[dpL,bu_];omega
  refine G5 ?_;refine O1 (A1 elC Dh rfl rfl ha0) (O1 (Ac ldC rfl rfl (A6 (Dh a0) _)) (Ho ziC ldC rfl (fun _=>rfl) rfl (A7 (Dh a0)) rfl rfl ?_))
  refine G7 ?_;refine Ab rfl ?_ ?_<;>intro h2
  ·exact absurd h2 (by simp only[bu_,decide_eq_true_eq];omega)
  ·skip
   refine G6 ?_;refine Ca (ih a0 (ab_ ha0)) ?_;refine G9 ?_;refine O1 (D3 okC rfl rfl Om) ?_;refine G2 ?_;refine O1 (Aw4 okC rfl rfl) ?_;refine G7 ?_;refine⟨bc,⟨rfl,congrArg (fun x=>some (iV x)) e4,congrArg (fun x=>some (iV x)) e5,rfl,rfl,rfl,trivial⟩,rfl⟩
 ·have bj:ks.length<=i0:=by simpa using h1
  refine G9 ?_;refine B4 hw rfl ?_;rw[at_ bj];unfold M6 dpT;rfl
theorem f265(t:Ax)(J:Sto):∀lv,lv+M6 t<=100000->M6 t<=4000->Cv 265 [En t,iV (.ofNat lv)] J (.tup [iV (.ofNat (M6 t)),iV (.ofNat (dpT t lv))]):=by
 refine Ax.ind' (P:=fun t=>∀lv,lv+M6 t<=100000->M6 t<=4000->Cv 265 [En t,iV (.ofNat lv)] J (.tup [iV (.ofNat (M6 t)),iV (.ofNat (dpT t lv))])) ?_ t
 intro s ks ih lv h1 h2;refine f265n s ks lv J h2 Om fun k hk=>?_
 have:=Azd hk;unfold M6 at h1 h2;exact ih k hk (lv+1) Om Om
end
section
open Go Go.Proofs
theorem Ajo{d}:(ofF d).1=zG∨Eb (ofF d).1=0:=by
 unfold ofF
 split
 ·exact .inl rfl
 ·split
  ·exact .inl rfl
  ·split
   ·exact .inl rfl
   ·split
    ·exact .inl rfl
    ·rename_i hc;exact .inr (by simpa using hc)
theorem Yc(d):GOk (ofF d).1:=by
 rcases Ajo (d:=d)with h|h
 ·rw[h]
  exact⟨⟨fun r hr=>(by cases hr),fun r hr=>(by cases hr)⟩,dk_,fun r hr=>(by cases hr),by simp[zG],fun r hr=>(by cases hr)⟩
 ·exact Afh h
end
section
open Go Go.Proofs
def spV(g:Gr)(q:Nat):AV:=.pv [Af g.sorts,slV eR 4 g.rules,.mp q]
theorem A4c{g:Gr}(hG:GOk g)(s:Str):(F4 g.rules s=none/\(Ayl g.rules 0 []).get s=none)∨∃r j,F4 g.rules s=some r/\(Ayl g.rules 0 []).get s=some j/\g.rules[j]? =some r:=by
 obtain⟨k1,k2⟩:=A1b (s:=s) (i:=0) (m:=[]) hG.nd fun _ _=>rfl
 cases h:F4 g.rules s with
 |none=>exact .inl ⟨rfl,k1 h⟩
 |some r=>
  obtain⟨j,h1,h2⟩:=k2 r h
  exact .inr ⟨r,j,rfl,by rw[h1,bn_],h2⟩
def Ay6:Ax->Str
 |.node l _=>l
theorem A5h{g:List Rl}{k:Ax}{q:Str}:decide (Ayf g k=some q)=((F4 g (Ay6 k)).isSome&&decide ((A0x g (Ay6 k)).sort=q)&&(Ayf g k).isSome):=by
 cases k with
 |node l ks=>
  unfold Ayf Ay6 A0x;cases h:F4 g l with
  |none=>rfl
  |some r=>
   simp only[ew_,Bool.true_and,gp_]
   split
   ·simp
   ·simp
theorem A2d{l:List (Option Str)}{ps:List Pt}{p:Pt}:Ays l (ps++[p])=(Ays l ps&&(decide (p.sort=[])||decide (l[p.arg.toNat]? =some (some p.sort)))):=by unfold Ays;rw[List.all_append];simp
theorem A02{l:List (Option Str)}{ps:List Pt}{i:Nat}(h:Ays l (ps.take i)=false):Ays l ps=false:=by
 cases hh:Ays l ps with
 |false=>rfl
 |true=>
  unfold Ays at h hh;rw[b_]at hh;rw[show(ps.take i).all _=true from b_.2 fun x hx=>hh x (cm_ hx)]at h
  cases h
theorem f234(g:Gr)(q:Nat)(s:Str)(J:Sto)(hG:GOk g)(hm:B8 iN J q (Ayl g.rules 0 [])):Cv 234 [spV g q,sV s] J (.tup [.agg (eR (A0x g.rules s)),.bool (F4 g.rules s).isSome]):=by
 refine Aj Tryz.func234 rfl rfl fun hw hu0=>?_
 have hm1:B8 iN (J.new (.cells [.str [],.str [],nS,.bool false])) q (Ayl g.rules 0 []):=by
  obtain⟨v,h⟩:=hm
  exact⟨v,by rw[ag_,if_neg (by have:=(hw _ _ h).1;omega)];exact h⟩
 refine G2 ?_;refine O1 (Bu ziC) ?_;refine G9 ?_;refine O1 (Ag1 st9 Arn rfl hm1 rfl) ?_;refine G12 ?_;refine Ab rfl ?_ ?_<;>intro h1
 ·have e0:F4 g.rules s=none:=by
   rcases A4c hG s with⟨e,_⟩|⟨r,j,_,e2,_⟩
   ·exact e
   ·rw[e2]at h1;exact absurd h1 (by simp)
  refine G3 ?_
  refine O1 (sO (a:=nx J) (off:=0) (cs:=[.str [],.str [],nS,.bool false]) (cs':=[.str [],.str [],nS,.bool false]) (by rw[ag_,if_pos rfl])) ?_
  refine G3 ?_
  exact⟨[.agg [.str [],.str [],nS,.bool false],.bool false],Am (ldC (t:=202)) rfl (by simp only[Sto.cells];rw[aa_,if_pos rfl]) rfl (Ba rfl rfl),_,J,am_ hw ⟨by rw[Aq,Ao];omega,fun b hb=>by rw[aa_,if_neg Om,ag_,if_neg Om]⟩,nl,.tup (.cons (.agg A5n) (.cons (.same rfl) .nil)),by unfold A0x;rw[e0];rfl,rfl⟩
 ·obtain⟨r,j,e1,e2,e3⟩:∃r j,F4 g.rules s=some r/\(Ayl g.rules 0 []).get s=some j/\g.rules[j]? =some r:=by
   rcases A4c hG s with⟨_,e⟩|h
   ·rw[e]at h1;exact absurd h1 (by simp)
   ·exact h
  refine G9 ?_
  refine O1 (A1 (i:=j) elC (fun _=>rfl) rfl (show some ((Option.map iN ((Ayl g.rules 0 []).get s)).getD (iV 0))=some (iN j) by rw[e2];rfl) e3) ?_
  refine O1 (Ac ldC rfl rfl (A6 (Qy r) _)) (O1 (sO (a:=nx J) (off:=0) (cs:=[.str [],.str [],nS,.bool false]) (cs':=eR r) (by rw[ag_,if_pos rfl])) ?_)
  refine G3 ?_
  exact⟨[.agg (eR r),.bool true],Am (ldC (t:=202)) rfl (by simp only[Sto.cells];rw[aa_,if_pos rfl]) rfl (Ba rfl rfl),_,J,am_ hw ⟨by rw[Aq,Ao];omega,fun b hb=>by rw[aa_,if_neg Om,ag_,if_neg Om]⟩,nl,.tup (.cons (.same (Vj r)) (.cons (.same rfl) .nil)),by unfold A0x;rw[e1];rfl,rfl⟩
end
section
open Go Go.Proofs
theorem A4d{g:List Rl}{l:List Ax}{j:Nat}:(Aza g l)[j]? =l[j]?.map (Ayf g):=by rw[Azh,br_]
theorem f266n(g:Gr)(q:Nat)(s:Str)(ks:List Ax)(J:Sto)(hG:GOk g)(hm:B8 iN J q (Ayl g.rules 0 []))(hb:ks.length<1000000)(ih:∀k∈ks,Cv 266 [spV g q,En k] J (.bool (Ayf g.rules k).isSome)):Cv 266 [spV g q,En (.node s ks)] J (.bool (Ayf g.rules (.node s ks)).isSome):=by
 rw[Cg];refine Aj Tryz.func266 rfl rfl fun hw hu0=>?_
 refine G10 ?_;refine Ca (f234 g q s _ hG hm) ?_;refine G12 ?_;refine Ab rfl ?_ ?_<;>intro h1
 ·have e0:F4 g.rules s=none:=by
   cases hh:F4 g.rules s with
   |none=>rfl
   |some x=>rw[hh]at h1;exact absurd h1 (by simp)
  refine G5 ?_;refine B4 hw rfl ?_;rw[Ayf,e0];rfl
 ·obtain⟨r,hr⟩:∃r,F4 g.rules s=some r:=by
   cases hh:F4 g.rules s with
   |none=>rw[hh]at h1;exact absurd h1 (by simp)
   |some x=>exact⟨x,rfl⟩
  have hrl:A0x g.rules s=r:=by unfold A0x;rw[hr];rfl
  rw[hrl];have hpl:=hG.prt r (Ay5 hr)
  iterate 14 refine G ?_
  refine Bz r.parts.length (fun i0=>[(0,spV g q),(3,.pv [sV s,slV eT 2 ks]),(7,iV (.ofNat ((r.parts.take i0).filter fun p=> !decide (p.sort=[])).length)),(22,slV ePt 3 r.parts),(23,iV (.ofNat r.parts.length)),(24,iV (.ofNat i0))]) (fun i0 J0=>J0=J/\Ays (Aza g.rules ks) (r.parts.take i0)=true) SL ⟨rfl,rfl⟩ ?_
  rintro i0 J0 hi0 ⟨rfl,hp0⟩;refine G5 ?_;refine Ab rfl ?_ ?_<;>intro h2
  ·have bc:i0<r.parts.length:=by simpa using h2
   obtain⟨a0,ha0⟩:=Ar bc;have hd0:=A4 ha0
   have hl0:((r.parts.take i0).filter fun p=> !decide (p.sort=[])).length<=i0:=ai_ (ee_ _ _) (by rw[cb_];omega)
   have ht0:((r.parts.take (i0+1)).filter fun p=> !decide (p.sort=[])).length=((r.parts.take i0).filter fun p=> !decide (p.sort=[])).length+if(!decide (a0.sort=[]))=true then 1 else 0:=by
    rw[Fw ha0,fy_,bx_]
    congr 1
    cases hq:(!decide (a0.sort=[]))<;>simp[hq]
   have hps:=A2d (l:=Aza g.rules ks) (ps:=r.parts.take i0) (p:=a0);rw[←Fw ha0,hp0,Bool.true_and]at hps
   iterate 16 refine G ?_
   refine Ab rfl ?_ ?_<;>intro h3
   ·have h3':a0.sort=[]:=of_decide_eq_true h3
    rw[show(!decide (a0.sort=[]))=false by rw[decide_eq_true h3'];rfl,if_neg (by simp),fd_]at ht0
    refine G5 ?_
    refine⟨bc,⟨rfl,rfl,(by rw[ht0];rfl),rfl,rfl,rfl,trivial⟩,rfl,(by rw[hps,decide_eq_true h3'];rfl)⟩
   ·have h3':¬a0.sort=[]:=of_decide_eq_false h3
    rw[show(!decide (a0.sort=[]))=true by rw[decide_eq_false h3'];rfl,if_pos rfl]at ht0
    obtain⟨j,hj,hjn⟩:=hG.arg r (Ay5 hr) a0 (ab_ ha0) h3'
    have hjt:a0.arg.toNat=j:=by rw[hj];rfl
    rw[decide_eq_false h3',Bool.false_or,A4d,hjt]at hps
    iterate 17 refine G ?_
    refine Ab rfl ?_ ?_<;>intro h4
    ·have hkn:ks[j]? =none:=List.getElem?_eq_none (by have:=of_decide_eq_true h4;rw[hj]at this;simp only[bu_]at this;omega)
     have hP:Ays (Aza g.rules ks) r.parts=false:=A02 (i:=i0+1) (by rw[hps,hkn];rfl)
     have hF:Ayf g.rules (.node s ks)=none:=by
      rw[Ayf,hr];simp only;rw[if_neg];rw[hP,Bool.false_and];simp
     refine G5 ?_;refine B4 hw rfl ?_;rw[hF];rfl
    ·obtain⟨k,hk⟩:=Ar (show j<ks.length by have:=of_decide_eq_false h4;rw[hj]at this;simp only[bu_]at this;omega)
     rw[hk]at hps
     have hps1:Ays (Aza g.rules ks) (r.parts.take (i0+1))=((F4 g.rules (Ay6 k)).isSome&&decide ((A0x g.rules (Ay6 k)).sort=a0.sort)&&(Ayf g.rules k).isSome):=by rw[hps,←A5h];simp
     have iq:∀r,Cz 1 false (eT k++r)=some (sV (Ay6 k)):=fun r=>by cases k;rw[Cl];rfl
     refine G8 ?_;refine O1 (A1 (i:=j) elC Dh rfl (congrArg (fun x=>some (AV.int .i64 x)) hj) hk) ?_
     refine G ?_;refine O1 (Ac ldC rfl rfl (iq _)) ?_;refine Ca (f234 g q (Ay6 k) _ hG hm) ?_;refine G11 ?_;refine TOr 5 ?_ (fun hg=>?_) ?_
     rotate_left
     ·iterate 4 refine Gn hg ?_
      refine On hg (Ko okC rfl rfl) ?_;exact Ez
     refine G ?_;refine TOr 9 ?_ (fun hg=>?_) ?_
     rotate_left
     ·iterate 5 refine Gn hg ?_
      refine On hg (A1 (i:=j) elC Dh rfl (congrArg (fun x=>some (AV.int .i64 x)) hj) hk) ?_
      refine On hg (Ac ldC rfl rfl (A6 (Dh k) _)) (Bh rfl rfl rfl (by rw[hg];rfl) rfl rfl rfl rfl (ih k (ab_ hk)) ?_)
      refine Gn hg ?_;exact Ez
     refine G ?_;refine Ab rfl ?_ ?_<;>intro h5
     ·have h5':((!(F4 g.rules (Ay6 k)).isSome|| !decide ((A0x g.rules (Ay6 k)).sort=a0.sort))|| !(Ayf g.rules k).isSome)=true:=h5
      have hP:Ays (Aza g.rules ks) r.parts=false:=A02 (i:=i0+1) (by rw[hps1];revert h5';cases (F4 g.rules (Ay6 k)).isSome<;>cases decide ((A0x g.rules (Ay6 k)).sort=a0.sort)<;>cases (Ayf g.rules k).isSome<;>simp)
      have hF:Ayf g.rules (.node s ks)=none:=by
       rw[Ayf,hr];simp only;rw[if_neg];rw[hP,Bool.false_and];simp
      refine G5 ?_;refine B4 hw rfl ?_;rw[hF];rfl
     ·have h5':((!(F4 g.rules (Ay6 k)).isSome|| !decide ((A0x g.rules (Ay6 k)).sort=a0.sort))|| !(Ayf g.rules k).isSome)=false:=h5
      have hps:Ays (Aza g.rules ks) (r.parts.take (i0+1))=true:=by rw[hps1];revert h5';cases (F4 g.rules (Ay6 k)).isSome<;>cases decide ((A0x g.rules (Ay6 k)).sort=a0.sort)<;>cases (Ayf g.rules k).isSome<;>simp
      refine G5 ?_
      refine⟨bc,⟨rfl,rfl,(by rw[ht0];rfl),rfl,rfl,rfl,trivial⟩,rfl,hps⟩
  ·have bj:r.parts.length<=i0:=by simpa using h2
   rw[at_ bj]at hp0⊢;refine G11 ?_;refine B4 hw rfl ?_;rw[Ayf,hr];simp only;rw[hp0,Bool.true_and];show AV.bool _=_;congr 1;unfold Qw;by_cases hh:(r.parts.filter fun p=> !decide (p.sort=[])).length=ks.length<;>simp[hh]<;>omega
theorem f266(g:Gr)(q:Nat)(J:Sto)(hG:GOk g)(hm:B8 iN J q (Ayl g.rules 0 []))(t:Ax):M6 t<=100000->Cv 266 [spV g q,En t] J (.bool (Ayf g.rules t).isSome):=by
 refine Ax.ind' (P:=fun t=>M6 t<=100000->Cv 266 [spV g q,En t] J (.bool (Ayf g.rules t).isSome)) ?_ t
 intro s ks ih hb;have hlk:=Ajh ks
 have hc:1+Ach ks<=100000:=by unfold M6 at hb;exact hb
 refine f266n g q s ks J hG hm Om fun k hk=>ih k hk ?_
 have:=Azd hk;omega
end
section
open Go Go.Proofs
theorem A03{a:Rl}:∀(l:List Rl) (i:Nat) (m:SM Nat),Ayl (l++[a]) i m=(Ayl l i m).put a.label (i+l.length)
 |[],i,m=>rfl
 |x::l,i,m=>by
  simp only[ay_,Ayl,A03 l,as_]
  congr 1;omega
theorem f233(g:Gr)(t:Ax)(J:Sto)(hG:GOk g)(hB:GrB g)(hc:Eb g=0)(hb:M6 t<=4000)(hh:hT t<=100):Al Ew 233 [grV g,En t] J fun v J'=>(∃p,v=.tup [p,iV (if(Ayf g.rules t).isSome=true then 0 else 2)]/\Below (nx J) J J'/\((Ayf g.rules t).isSome=true->∃q,p=spV g q/\B8 iN J' q (Ayl g.rules 0 []))):=by
 have hdp:=A4b t 1;have hgl:=hG.len;refine Aj Tryz.func233 rfl rfl fun hw hu0=>?_
 refine G11 ?_;refine Ca (f117 g _ hB) ?_;refine G7 ?_;refine Ab rfl ?_ ?_<;>intro h1
 ·exact absurd h1 (by rw[hc];simp)
 ·skip
  refine G4 ?_;refine Ca (f265 t _ 1 Om hb) ?_;refine G12 ?_;refine Ab rfl ?_ ?_<;>intro h2
  ·exact absurd h2 (by simp only[bu_,decide_eq_true_eq];omega)
  ·skip
   refine G7 ?_;refine Ab rfl ?_ ?_<;>intro h3
   ·exact absurd h3 (by simp only[bu_,decide_eq_true_eq];omega)
   ·skip
    refine G4 ?_;refine O1 (Gx Arn) ?_
    iterate 13 refine G ?_
    refine Bz g.rules.length (fun i0=>[(3,.pv (eT t)),(9,spV g (nx J)),(31,slV eR 4 g.rules),(32,iV (.ofNat g.rules.length)),(33,iV (.ofNat i0))]) (fun i0 J0=>B8 iN J0 (nx J) (Ayl (g.rules.take i0) 0 [])/\Below (nx J) J J0/\nx J<nx J0) SL ⟨⟨0,by rw[ag_,if_pos rfl];rfl⟩,⟨by rw[Ao];omega,fun b hb=>by rw[ag_,if_neg Om]⟩,by rw[Ao];omega⟩ ?_
    rintro i0 J0 hi0 ⟨hm0,hb0,hn0⟩;refine G5 ?_;refine Ab rfl ?_ ?_<;>intro h4
    ·have bc:i0<g.rules.length:=by simpa using h4
     obtain⟨a0,ha0⟩:=Ar bc;have hd0:=A4 ha0;obtain⟨vm,hvm⟩:=id hm0
     have hvm1:((J0.new (.cells [.str [],.str [],nS,.bool false])).set (nx J0) (.cells (eR a0))).get (nx J)=some (.map 9 (Cn iN (Ayl (g.rules.take i0) 0 [])) vm):=by rw[aa_,if_neg Om,ag_,if_neg Om];exact hvm
     have hcl:((J0.new (.cells [.str [],.str [],nS,.bool false])).set (nx J0) (.cells (eR a0))).get (nx J0)=some (.cells (eR a0)):=by rw[aa_,if_pos rfl]
     have e9:Ayl (g.rules.take (i0+1)) 0 []=(Ayl (g.rules.take i0) 0 []).put a0.label i0:=by rw[Fw ha0,A03,cb_,bn_,du_ hi0]
     refine G7 ?_;refine O1 (Ac ldC rfl rfl (A6 (Qy a0) _)) (O1 (Bu ziC) ?_);refine G ?_
     refine O1 (sO (a:=nx J0) (off:=0) (cs:=[.str [],.str [],nS,.bool false]) (cs':=eR a0) (by rw[ag_,if_pos rfl])) ?_
     refine G ?_;refine XS (l:=[]) trivial ?_;refine G5 ?_;refine DF (lO hcl) ?_;refine G ?_
     refine DT (Gh (v:=i0) st9 Arn rfl hvm1 rfl rfl (fun te k1 k2=>by first|exact Axh k1 k2|exact I0 k1 k2|exact I1 k1 k2|exact I2 k1 k2|exact Jn k1 k2|exact H6 k1 k2 rfl)) ?_
     refine G5 ?_
     refine⟨bc,SL,(by rw[e9];exact dz_),⟨by rw[Aq,Aq,Ao];omega,fun b hb=>by rw[aa_,if_neg Om,aa_,if_neg Om,ag_,if_neg Om];exact hb0.2 b hb⟩,by rw[Aq,Aq,Ao];omega⟩
    ·have bj:g.rules.length<=i0:=by simpa using h4
     have hm1:B8 iN J0 (nx J) (Ayl g.rules 0 []):=by rw[at_ bj]at hm0;exact hm0
     refine Bo fun hw1=>?_
     refine G6 ?_;refine Ca (f266 g (nx J) _ hG hm1 t Om) ?_;refine G2 ?_;refine Ab rfl ?_ ?_<;>intro h5
     ·have hF:(Ayf g.rules t).isSome=false:=by simpa using h5
      refine G6 ?_
      exact⟨_,rfl,_,_,a_ hw1 nl (fun _ _=>rfl),hb0.1,.same rfl,_,by rw[hF];rfl,hb0,fun h=>absurd (hF.symm.trans h) (by simp)⟩
     ·have hF:(Ayf g.rules t).isSome=true:=by simpa using h5
      refine G8 ?_
      exact⟨_,rfl,_,_,a_ hw1 nl (fun _ _=>rfl),hb0.1,.same (by show(AV.und (nx J0) (spV g (nx J))&&(true&&true))=true;rw[show AV.und (nx J0) (spV g (nx J))=true by show(AV.und (nx J0) (Af g.sorts)&&(AV.und (nx J0) (slV eR 4 g.rules)&&(AV.und (nx J0) (.mp (nx J))&&true)))=true;rw[show AV.und (nx J0) (Af g.sorts)=true from Fv D9 _,Fv Vj,show AV.und (nx J0) (.mp (nx J))=true from Ce hn0];rfl];rfl),_,by rw[hF];rfl,hb0,fun _=>⟨_,rfl,hm1⟩⟩
end
section
open Go Go.Proofs
end
section
open Go Go.Proofs
end
section
open Go Go.Proofs
end
section
open Go Go.Proofs
theorem A5o(t:Ax):Cz 1 false (eT t)=some (sV (Ay6 t)):=by cases t;rw[Cl];rfl
def A1k(g:Gr)(t:Ax):Str:=(Ayf g.rules t).getD []
def A06(g:Gr)(t:Ax)(c:Int):Int:=if(Ayf g.rules t).isSome=true then 0 else c
theorem A41{g:Gr}{t:Ax}(h:(Ayf g.rules t).isSome=true):(A0x g.rules (Ay6 t)).sort=A1k g t:=by
 have:=A5h (g:=g.rules) (k:=t) (q:=A1k g t);obtain⟨q,hq⟩:=bg_.1 h
 have he:A1k g t=q:=by unfold A1k;rw[hq];rfl
 grind
theorem A1p{g:Gr}{t:Ax}(h:(Ayf g.rules t).isSome=false):A1k g t=[]:=by
 unfold A1k;cases hh:Ayf g.rules t with
 |none=>rfl
 |some q=>rw[hh]at h;cases h
theorem f195(g:Gr)(t:Ax)(J:Sto)(hG:GOk g)(hB:GrB g)(hc:Eb g=0)(hb:M6 t<=4000)(hh:hT t<=100):Cv 195 [grV g,En t] J (.tup [sV (A1k g t),iV (A06 g t 2)]):=by
 refine Aj Tryz.func195 rfl rfl fun hw hu0=>?_
 refine G11 ?_;refine Az rfl rfl rfl rfl (f233 g t _ hG hB hc hb hh) ?_;rintro _ U ⟨p,rfl,cb,hq⟩;refine G12 ?_;refine Ab rfl ?_ ?_<;>intro h1
 ·have hF:(Ayf g.rules t).isSome=false:=gr;refine G7 ?_
  exact⟨_,rfl,_,J,am_ hw cb,nl,.same rfl,by rw[A1p hF];unfold A06;rw[hF];rfl,rfl⟩
 ·have hF:(Ayf g.rules t).isSome=true:=gr;obtain⟨q,rfl,hm⟩:=hq hF;refine G5 ?_;refine O1 (Ac (v:=sV (Ay6 t)) ldC rfl rfl (A5o t)) ?_;refine Ca (f234 g q (Ay6 t) _ hG hm) ?_
  iterate 14 refine G ?_
  exact⟨_,rfl,_,J,am_ hw cb,nl,.same rfl,by rw[A41 hF];unfold A06;rw[hF];rfl,rfl⟩
theorem f164(g:Gr)(t:Ax)(J:Sto)(hG:GOk g)(hB:GrB g)(hc:Eb g=0)(hb:M6 t<=4000)(hh:hT t<=100):Cv 164 [grV g,En t] J (.tup [sV (A1k g t),iV (A06 g t 192)]):=by
 refine Aj Tryz.func164 rfl rfl fun hw hu0=>?_
 refine G11 ?_;refine Ca (f194 t _ hb hh) ?_;refine G7 ?_;refine Ab rfl ?_ ?_<;>intro h1
 ·grind
 ·skip
  refine G5 ?_;refine Ca (f195 g t _ hG hB hc hb hh) ?_;refine G12 ?_;refine Ab rfl ?_ ?_<;>intro h2
  ·have hF:(Ayf g.rules t).isSome=false:=by
    cases hh:(Ayf g.rules t).isSome with
    |false=>rfl
    |true=>unfold A06 at h2;rw[hh]at h2;exact absurd h2 (by simp)
   refine G6 ?_;refine B4 hw rfl ?_;rw[A1p hF];unfold A06;rw[hF];rfl
  ·have hF:(Ayf g.rules t).isSome=true:=by
    cases hh:(Ayf g.rules t).isSome with
    |true=>rfl
    |false=>unfold A06 at h2;rw[hh]at h2;exact absurd h2 (by simp)
   refine G8 ?_;refine B4 hw rfl ?_;unfold A06;rw[hF];rfl
def Ay8(d:Db)(t:Ax):Int:=if(ofF d).2=0 then A06 (ofF d).1 t 192 else(ofF d).2
def chkS(d:Db)(t:Ax):Str:=if(ofF d).2=0 then A1k (ofF d).1 t else[]
theorem Asi{d}:Eb (ofF d).1=0:=by
 rcases Ajo (d:=d)with h|h
 ·rw[h];decide
 ·exact h
theorem Asj(d):GrB (ofF d).1:=by
 have hG:=Yc d;have hl:=hG.len
 refine⟨?_,by omega,fun r hr=>by have:=hG.prt r hr;omega⟩
 have h:=Asi (d:=d);unfold Eb at h
 grind
theorem A2e{N:Nat}(g:Gr)(s:Str)(c:Int):AV.und N (Akq [.agg [Af g.sorts,slV eR 4 g.rules],sV s,iV c])=true:=by
 show((AV.und N (Af g.sorts)&&(AV.und N (slV eR 4 g.rules)&&true))&&(true&&(true&&true)))=true
 rw[show AV.und N (Af g.sorts)=true from Fv D9 _,Fv Vj];rfl
theorem f129(d:Db)(t:Ax)(J:Sto)(hD:DbB d)(hvf:d.vars.length+d.frames.length<1000000)(hb:M6 t<=4000)(hh:hT t<=100):Cv 129 [dbV d,En t] J (.tup [grV (ofF d).1,sV (chkS d t),iV (Ay8 d t)]):=by
 refine Aj Tryz.func129 rfl rfl fun hw hu0=>?_
 refine G4 ?_;refine O1 (Bu ziC) ?_;refine G6 ?_;refine Ca (f66 d _ hD hvf) ?_;refine G12 ?_;refine Ab rfl ?_ ?_<;>intro h1
 ·have h0:¬(ofF d).2=0:=gr;refine G4 ?_;refine O1 (sO (a:=nx J) (off:=0) (cs:=[nS,nS]) (cs':=[Af (ofF d).1.sorts,slV eR 4 (ofF d).1.rules]) gr) ?_;refine G4 ?_
  exact⟨[.agg [Af (ofF d).1.sorts,slV eR 4 (ofF d).1.rules],sV [],iV (ofF d).2],Am (ldC (t:=141)) rfl (by simp only[Sto.cells];rw[aa_,if_pos rfl]) rfl (Ba rfl (Ba rfl rfl)),_,J,am_ hw ⟨gr,gr⟩,nl,.same (A2e _ _ _),by unfold chkS Ay8;rw[if_neg h0,if_neg h0];rfl,rfl⟩
 ·have h0:(ofF d).2=0:=gr;refine G5 ?_;refine Ca (f164 (ofF d).1 t _ (Yc d) (Asj d) Asi hb hh) ?_;refine G11 ?_;refine O1 (sO (a:=nx J) (off:=0) (cs:=[nS,nS]) (cs':=[Af (ofF d).1.sorts,slV eR 4 (ofF d).1.rules]) gr) ?_;refine G4 ?_
  exact⟨[.agg [Af (ofF d).1.sorts,slV eR 4 (ofF d).1.rules],sV (A1k (ofF d).1 t),iV (A06 (ofF d).1 t 192)],Am (ldC (t:=141)) rfl (by simp only[Sto.cells];rw[aa_,if_pos rfl]) rfl (Ba rfl (Ba rfl rfl)),_,J,am_ hw ⟨gr,gr⟩,nl,.same (A2e _ _ _),by unfold chkS Ay8;rw[if_pos h0,if_pos h0];rfl,rfl⟩
end
section
open Go Go.Proofs
structure Sy where
 label:Str
 binds:Int
 vals:List Int
structure Wd where
 g:List Rl
 km:SM Int
 sm:SM Sy
 n:Int
end
section
open Go Go.Proofs
end
section
open Go Go.Proofs
end
section
open Go Go.Proofs
end
section
open Go Go.Proofs
end
section
open Go Go.Proofs
end
section
open Go Go.Proofs
end
section
open Go Go.Proofs
section
variable {ρ:Ad}{J:Sto}{Rr:Rec}{x y:Operand}{s:Str}{r:Nat}
end
end
end Go.AM

namespace Go.AM
open Go Go.Proofs
abbrev nV(n:Nat):AV:=iV (.ofNat n)
def eN(n:Nat):List AV:=[nV n]
def eV(v:AV):List AV:=[v]
def eMp(m:Nat):List AV:=[.mp m]
abbrev Ik:=Int×Int×Int
instance:KE Ik where
 k p:=.agg [.int .i64 p.1,.int .i64 p.2.1,.int .i64 p.2.2]
 eq a b:=by
  obtain⟨s,x,y⟩:=a;obtain⟨t,u,v⟩:=b;simp only[Key.eq,Key.eqs,Nn,Ed]
  by_cases h1:s=t<;>by_cases h2:x=u<;>by_cases h3:y=v<;>simp[h1,h2,h3]
def ik(x:It):Ik:=(.ofNat x.1,.ofNat x.2.1,.ofNat x.2.2)
def sk(s:Sp):Kk:=(s.1,.ofNat s.2.1,.ofNat s.2.2)
theorem Axl{x y}:ik x=ik y↔x=y:=by
 obtain⟨a,b,c⟩:=x;obtain⟨d,e,f⟩:=y;simp only[ik,ba_];exact⟨fun⟨p,q,r⟩=>⟨ci_ p,ci_ q,ci_ r⟩,fun⟨p,q,r⟩=>⟨congrArg _ p,congrArg _ q,congrArg _ r⟩⟩
theorem Ask{x y}:sk x=sk y↔x=y:=by
 obtain⟨a,b,c⟩:=x;obtain⟨d,e,f⟩:=y;simp only[sk,ba_];exact⟨fun⟨p,q,r⟩=>⟨p,ci_ q,ci_ r⟩,fun⟨p,q,r⟩=>⟨p,congrArg _ q,congrArg _ r⟩⟩
def eIt(x:It):List AV:=[nV x.1,nV x.2.1,nV x.2.2]
def itV(x:It):AV:=.agg (eIt x)
theorem Rx(x):(eIt x).length=3:=rfl
theorem Ep(x):(eN x).length=1:=rfl
theorem O0(x):(eV x).length=1:=rfl
theorem Z6(x):(eMp x).length=1:=rfl
theorem Ajp{N}(x):AV.unds N (eN x)=true:=rfl
def Apr{κ α:Type}[DecidableEq κ][KE κ](kt:Nat)(f:α->κ)(l:List α)(J:Sto)(r:Nat):Prop:=∃m:GM κ Bool,GAt kt (fun b=>.bool b) J r m/\∀x,(x∈l->m.get (f x)=some true)/\(x∉l->m.get (f x)=none)
theorem Apr.of_get{κ α}[DecidableEq κ][KE κ]{kt}{f:α->κ}{l J U r}(h:Apr kt f l J r)(hg:U.get r=J.get r):Apr kt f l U r:=by
 obtain⟨m,h1,h2⟩:=h;exact⟨m,h1.of_get hg,h2⟩
structure Cp where
 c:Nat
 mR:Nat
 mD:Nat
 vS:AV
 vI:AV
 vals:List AV
 ms:List Nat
inductive Tg where
 |c
 |d
 |s
 |i
 |v (j:Nat)
 |m (j:Nat)
 deriving DecidableEq
def Cp.loc(X:Cp):Tg->Option Nat
 |.c=>some X.c
 |.d=>some X.mD
 |.s=>adr X.vS
 |.i=>adr X.vI
 |.v j=>(X.vals[j]?).bind adr
 |.m j=>X.ms[j]?
def Cp.cells(g:Gr)(text:List Str)(X:Cp):List AV:=[Af g.sorts,slV eR 4 g.rules,.mp X.mR,Af text,X.vS,X.vI,.mp X.mD]
abbrev bE(b:Bool):AV:=.bool b
structure ChS (g:Gr)(text:List Str)(N:Nat)(X:Cp)(S:Ch)(J:Sto):Prop where
 inj:∀t u a,X.loc t=some a->X.loc u=some a->t=u
 lo:∀t a,X.loc t=some a->N<=a/\a<nx J
 cl:J.get X.c=some (.cells (X.cells g text))
 sets:Own J N eV 1 X.vals X.vS
 is:Own J N eMp 1 X.ms X.vI
 lv:X.vals.length=S.sets.length
 lm:X.ms.length=S.sets.length
 vals:∀(j:Nat) l v,S.sets[j]? =some l->X.vals[j]? =some v->Own J N eIt 3 l v
 mps:∀(j:Nat) l m,S.sets[j]? =some l->X.ms[j]? =some m->Apr 351 ik l J m
 done:Apr 232 sk S.done J X.mD
structure Lk (X:Cp)(J:Sto)(X':Cp)(J':Sto):Prop where
 c:X'.c=X.c
 r:X'.mR=X.mR
 d:X'.mD=X.mD
 n:nx J<=nx J'
 sub:∀t a,X'.loc t=some a->(∃u,X.loc u=some a)∨nx J<=a
 fr:∀b,b<nx J->(∀t,X.loc t≠some b)->J'.get b=J.get b
theorem Lk.refl(X J):Lk X J X J:=⟨rfl,rfl,rfl,nl,fun t a h=>.inl ⟨t,h⟩,fun _ _ _=>rfl⟩
theorem Lk.trans{X Y Z J U υ}(h:Lk X J Y U)(k:Lk Y U Z υ):Lk X J Z υ:=by
 refine⟨k.c.trans h.c,k.r.trans h.r,k.d.trans h.d,ai_ h.n k.n,fun t a ht=>?_,fun b hb hn=>?_⟩
 ·rcases k.sub t a ht with⟨u,hu⟩|hu
  ·exact h.sub u a hu
  ·exact .inr (ai_ h.n hu)
 ·rw[k.fr b (ak_ hb h.n) fun t ht=>?_,h.fr b hb hn]
  rcases h.sub t b ht with⟨u,hu⟩|hu
  ·exact hn u hu
  ·omega
structure RlS (g:Gr)(rv:SM AV)(X:Cp)(J:Sto):Prop where
 map:B8 (fun v:AV=>v) J X.mR rv
 lo:∀a,a=X.mR∨(∃s v,rv.get s=some v/\adr v=some a)->a<nx J/\∀t,X.loc t≠some a
 get:∀s,match rv.get s with|none=>E5 g s=[]|some v=>Own J 0 eN 1 (E5 g s) v
theorem RlS.lk{g rv X X' J J'}(h:RlS g rv X J)(k:Lk X J X' J'):RlS g rv X' J':=by
 have hg:∀a,a=X.mR∨(∃s v,rv.get s=some v/\adr v=some a)->J'.get a=J.get a:=fun a ha=>k.fr a (h.lo a ha).1 (h.lo a ha).2
 refine⟨?_,fun a ha=>?_,fun s=>?_⟩
 ·obtain⟨ver,hm⟩:=h.map;rw[k.r];exact⟨ver,(hg _ (.inl rfl)).trans hm⟩
 ·rw[k.r]at ha;obtain⟨h1,h2⟩:=h.lo a ha;refine⟨ak_ h1 k.n,fun t ht=>?_⟩
  rcases k.sub t a ht with⟨u,hu⟩|hu
  ·exact h2 u hu
  ·omega
 ·have:=h.get s;cases hs:rv.get s with
  |none=>rw[hs]at this;exact this
  |some v=>rw[hs]at this;exact this.of_get k.n fun a ha=>hg a (.inr ⟨s,v,hs,ha⟩)
def zPt:List AV:=[.str [],.str [],.int .i64 0]
def nxC:Option Pt->List AV
 |some p=>ePt p
 |none=>zPt
theorem Axm{g r x}(h:g.rules[r]? =some x):rPt g r=x.parts:=by unfold rPt;rw[h]
theorem f188a(g c x tl){r}(J)(hc:J.get c=some (.cells (Af g.sorts::slV eR 4 g.rules::tl)))(hr:g.rules[x.1]? =some r)(heq:x.2.1=r.parts.length)(hn:nxI g x=none):Cv 188 [.pr c 0,itV x] J (.tup [.agg (nxC (nxI g x)),.bool (nxI g x).isSome]):=by
 refine Aj Tryz.func188 rfl rfl fun hw hu0=>?_
 refine G3 ?_;refine O1 (Bu ziC) ?_;refine G2 ?_
 have hc0:∀z,(J.new (.cells z)).get c=some (.cells (Af g.sorts::slV eR 4 g.rules::tl)):=fun z=>by rw[ag_,if_neg (by have:=(hw _ _ hc).1;omega)];exact hc
 refine G ?_;refine X0 ?_;refine G4 ?_
 refine DF (lO (hc0 _)) (DF (Bp Ii rfl rfl (by decide) rfl) ?_)
 refine G6 ?_;refine⟨rfl,rfl,?_⟩;refine G3 ?_
 refine O1 (Bp Ii rfl rfl (by decide) rfl) ?_
 refine G5 ?_;refine Ab rfl ?_ ?_<;>intro h1
 ·skip
  refine G3 ?_
  refine O1 (sO (cs:=zPt) (cs':=zPt) (by rw[ag_,if_pos rfl];rfl)) ?_
  refine G3 ?_
  exact⟨_,Am (vs:=zPt) (v:=.agg zPt) (ldC (t:=223)) rfl (by simp only[Sto.cells];rw[aa_,if_pos rfl]) rfl rfl,_,J,am_ hw ⟨by rw[Aq,Ao];omega,fun b hb=>by rw[aa_,if_neg Om,ag_,if_neg Om]⟩,nl,.same rfl,by rw[hn];rfl,rfl⟩
 ·exact absurd (show(x.2.1:Int)=(r.parts.length:Int) by rw[heq]) (by simpa using h1)
theorem f188b(g c x tl){r p}(J)(hc:J.get c=some (.cells (Af g.sorts::slV eR 4 g.rules::tl)))(hr:g.rules[x.1]? =some r)(hne:¬x.2.1=r.parts.length)(hp:r.parts[x.2.1]? =some p)(hn:nxI g x=some p):Cv 188 [.pr c 0,itV x] J (.tup [.agg (nxC (nxI g x)),.bool (nxI g x).isSome]):=by
 refine Aj Tryz.func188 rfl rfl fun hw hu0=>?_
 refine G3 ?_;refine O1 (Bu ziC) ?_;refine G2 ?_
 have hc0:∀z,(J.new (.cells z)).get c=some (.cells (Af g.sorts::slV eR 4 g.rules::tl)):=fun z=>by rw[ag_,if_neg (by have:=(hw _ _ hc).1;omega)];exact hc
 refine G ?_;refine X0 ?_;refine G4 ?_
 refine DF (lO (hc0 _)) (DF (Bp Ii rfl rfl (by decide) rfl) ?_)
 refine G6 ?_;refine⟨rfl,rfl,?_⟩;refine G3 ?_
 refine O1 (Bp Ii rfl rfl (by decide) rfl) ?_
 refine G5 ?_;refine Ab rfl ?_ ?_<;>intro h1
 ·have h9:(x.2.1:Int)=(r.parts.length:Int):=by simpa using h1
  exact absurd (ci_ h9) hne
 ·skip
  refine G4 ?_
  refine O1 (Bp Ii rfl rfl (by decide) rfl) ?_
  refine G3 ?_
  refine O1 (sO (cs:=zPt) (cs':=ePt p) (by rw[ag_,if_pos rfl];rfl)) ?_
  refine G3 ?_
  exact⟨_,Am (vs:=(ePt p)) (v:=.agg (ePt p)) (ldC (t:=223)) rfl (by simp only[Sto.cells];rw[aa_,if_pos rfl]) rfl rfl,_,J,am_ hw ⟨by rw[Aq,Ao];omega,fun b hb=>by rw[aa_,if_neg Om,ag_,if_neg Om]⟩,nl,.same rfl,by rw[hn];rfl,rfl⟩
theorem f188(g c j x tl J)(hc:J.get c=some (.cells (Af g.sorts::slV eR 4 g.rules::tl)))(hx:Vm g j x):Cv 188 [.pr c 0,itV x] J (.tup [.agg (nxC (nxI g x)),.bool (nxI g x).isSome]):=by
 obtain⟨r,hr⟩:=Ar hx.1;have e:=Axm hr;have h2:=hx.2.1;rw[e]at h2;cases hp:r.parts[x.2.1]? with
 |none=>exact f188a g c x tl J hc hr (by have:=List.getElem?_eq_none_iff.1 hp;omega) (by unfold nxI;rw[e];exact hp)
 |some p=>exact f188b g c x tl J hc hr (by have:=(ae_.1 hp).1;omega) hp (by unfold nxI;rw[e];exact hp)
section
variable {g:Gr}{text:List Str}{N:Nat}{X:Cp}{S:Ch}{J:Sto}
theorem Ch.add_new{j x l}(hl:S.sets[j]? =some l)(hx:x∉l):S.add j x={ S with sets:=S.sets.set j (l++[x]) }:=by
 unfold Ch.add;rw[ej_ hl,if_neg hx]
theorem Ch.add_old{j x l}(hl:S.sets[j]? =some l)(hx:x∈l):S.add j x=S:=by
 unfold Ch.add;rw[ej_ hl,if_pos hx]
def Cp.setV(X:Cp)(j:Nat)(v:AV):Cp:={ X with vals:=X.vals.set j v }
theorem Cp.loc_setV{j a v v'}(hv:X.vals[j]? =some v)(hv':adr v'=some a)(t):(X.setV j v').loc t=if t=.v j then some a else X.loc t:=by
 cases t with
 |v k=>
  show((X.vals.set j v')[k]?).bind adr=_
  by_cases h:k=j
  ·grind
  ·rw[if_neg (fun e=>h (Tg.v.inj e)),fm_ (fun e=>h e.symm)];rfl
 |_=>rfl
theorem ChS.addS(h:ChS g text N X S J){j m ver aS x l v}{M:GM Ik Bool}{tl J2}
  (hl:S.sets[j]? =some l)(hv:X.vals[j]? =some v)(hm:X.ms[j]? =some m)(hMx:∀y,(y∈l->M.get (ik y)=some true)/\(y∉l->M.get (ik y)=none))(hx:x∉l)
  (h2n:nx J2=nx J+1)(h2o:Own J2 N eIt 3 (l++[x]) (.sr (nx J) 0 3 (l.length+1) none))(h2f:∀b,b<nx J->adr v≠some b->J2.get b=(J.set m (.map 351 (Hi bE (M.put (ik x) true)) ver)).get b)
  (hS:X.vS=.sr aS 0 1 X.vals.length none):
  ChS g text N (X.setV j (.sr (nx J) 0 3 (l.length+1) none)) (S.add j x) (J2.set aS (.cells ((X.vals.set j (.sr (nx J) 0 3 (l.length+1) none)).flatMap eV++tl)))/\
  Lk X J (X.setV j (.sr (nx J) 0 3 (l.length+1) none)) (J2.set aS (.cells ((X.vals.set j (.sr (nx J) 0 3 (l.length+1) none)).flatMap eV++tl))):=by
 have hjl:=(ae_.1 hv).1;have hsl:=(ae_.1 hl).1
 have Lv:X.loc (.v j)=adr v:=by show(X.vals[j]?).bind adr=_;rw[hv];rfl
 have Lm:X.loc (.m j)=some m:=hm
 have Ls:X.loc .s=some aS:=by show adr X.vS=_;rw[hS];rfl
 have hc:=h.lo .c _ rfl;have loc':=Cp.loc_setV (X:=X) (v':=.sr (nx J) 0 3 (l.length+1) none) hv rfl
 generalize hτ:J2.set aS (.cells ((X.vals.set j (.sr (nx J) 0 3 (l.length+1) none)).flatMap eV++tl))=U
 have nτ:nx U=nx J+1:=gr;have haS:=(h.lo _ _ Ls).2;have qf:=(h.lo _ _ Lm).2;have get0:∀b,b≠aS->U.get b=J2.get b:=gr;have get1:∀b,b<nx J->b≠aS->b≠m->adr v≠some b->U.get b=J.get b:=gr

 have oth:∀t a,X.loc t=some a->t≠.s->t≠.m j->t≠.v j->U.get a=J.get a:=fun t a ht n1 n2 n3=>
  get1 a (h.lo t a ht).2 (fun e=>n1 (h.inj t .s a ht (by rw[Ls,e]))) (fun e=>n2 (h.inj t (.m j) a ht (by rw[Lm,e]))) (fun e=>n3 (h.inj t (.v j) a ht (by rw[Lv,e])))
 refine⟨⟨fun t u a ht hu=>?_,fun t a ht=>?_,(oth .c _ rfl (by simp) (by simp) (by simp)).trans h.cl,?_,h.is.of_get Om fun a ha=>oth .i a ha (by simp) (by simp) (by simp),?_,?_,fun k l' u hl' hu=>?_,fun k l' u hl' hu=>?_,?_⟩,⟨rfl,rfl,rfl,by omega,fun t a ht=>?_,fun b hb hn=>?_⟩⟩
 ·rw[loc']at ht hu
  by_cases e1:t=.v j
  ·by_cases e2:u=.v j
   ·rw[e1,e2]
   ·rw[if_pos e1]at ht;rw[if_neg e2]at hu;cases ht;have:=(h.lo u _ hu).2;omega
  ·by_cases e2:u=.v j
   ·rw[if_neg e1]at ht;rw[if_pos e2]at hu;cases hu;have:=(h.lo t _ ht).2;omega
   ·rw[if_neg e1]at ht;rw[if_neg e2]at hu;exact h.inj t u a ht hu
 ·rw[loc']at ht
  split at ht
  ·grind
  ·have:=h.lo t a ht;omega
 ·refine .inr ⟨aS,tl,(h.lo _ _ Ls).1,by omega,?_,?_⟩
  ·show X.vS=_;rw[hS];show _=AV.sr aS 0 1 (X.vals.set j _).length none;grind
  ·rw[←hτ,aa_,if_pos rfl];rfl
 ·rw[gj_];show(X.vals.set j _).length=_;rw[dc_];exact h.lv
 ·rw[gj_];exact h.lm
 ·rw[Ch.add_new hl hx]at hl';have hl':(S.sets.set j (l++[x]))[k]? =some l':=hl';have hu:(X.vals.set j (.sr (nx J) 0 3 (l.length+1) none))[k]? =some u:=hu
  by_cases e:k=j
  ·subst e;rw[f_ hsl]at hl';rw[f_ hjl]at hu;cases hl';cases hu
   exact h2o.of_get Om fun a ha=>get0 a (by cases ha;omega)
  ·rw[fm_ (fun h=>e h.symm)]at hl' hu
   have hk:∀a,adr u=some a->X.loc (.v k)=some a:=fun a ha=>by show(X.vals[k]?).bind adr=_;grind
   exact(h.vals k l' u hl' hu).of_get Om fun a ha=>oth (.v k) a (hk a ha) (by simp) (by simp) (fun h=>e (Tg.v.inj h))
 ·rw[Ch.add_new hl hx]at hl';have hl':(S.sets.set j (l++[x]))[k]? =some l':=hl'
  by_cases e:k=j
  ·subst e;rw[f_ hsl]at hl';cases hl';have hu:X.ms[k]? =some u:=hu;rw[hm]at hu;cases hu;refine⟨M.put (ik x) true,⟨ver,?_⟩,fun y=>?_⟩
   ·rw[get0 m (fun e=>by have:=h.inj (.m k) .s m Lm (by rw[Ls,e]);cases this),h2f m qf (fun e=>by have:=h.inj (.v k) (.m k) m (by rw[Lv,e]) Lm;cases this),aa_,if_pos rfl]
   ·rw[fp_]
    by_cases hy:y=x
    ·subst hy;simp
    ·rw[if_neg (fun e=>hy (Axl.1 e))]
     grind
  ·rw[fm_ (fun h=>e h.symm)]at hl'
   exact(h.mps k l' u hl' hu).of_get (oth (.m k) u hu (by simp) (fun h=>e (Tg.m.inj h)) (by simp))
 ·have:(S.add j x).done=S.done:=gn_;rw[this]
  exact h.done.of_get (oth .d _ rfl (by simp) (by simp) (by simp))
 ·grind
 grind
end
theorem Asl{E nt B df c Q ρ J}(h:T E nt df B c (fun x ρ J=>WFS J->Q x ρ J) ρ J):T E nt df B c Q ρ J:=fun ro n hn C w tm a ht st hB=>
 wpIn_mono (h ro n hn C w tm a ht st hB) fun e a' w' ⟨x,tm',ρ',J',C',h1,h2,h3,h4,h5⟩=>⟨x,tm',ρ',J',C',h1,h2,h3 h4.sim.wfs,h4,h5⟩
theorem Ns{ρ J Rr t kt sz r x y agg z u κ α}[DecidableEq κ][KE κ]{enc m}{k:κ}{o:Option α}(hi:mpI Ew.P t=some (kt,z,sz,agg))(hx:Ah Ew ρ x=some (.mp r))(hm:GAt kt enc J r m)(hy:Ah Ew ρ y=some u)(hk:D4 Ew.P kt u=some (KE.k k))(ho:m.get k=o):
  As Ew Rr (.lookup t x y false) ρ J ((o.map enc).getD z) J:=by subst ho;exact Amz hi hx hm hy hk
theorem ikey(x):D4 Ew.P 351 (itV x)=some (KE.k (ik x)):=by
 obtain⟨a,b,c⟩:=x
 kernel_rfl
theorem f187a{g text N X S J}(h:ChS g text N X S J){j m ver x l v M}(hl:S.sets[j]? =some l)(hv:X.vals[j]? =some v)(hm:X.ms[j]? =some m)(hM:J.get m=some (.map 351 (Hi bE M) ver))(hMx:∀y,(y∈l->M.get (ik y)=some true)/\(y∉l->M.get (ik y)=none))(hx:x∈l)  :Al Ew 187 [.pr X.c 0,nV j,itV x] J fun _ J'=>J'=J:=by
 have ho:M.get (ik x)=some true:=(hMx x).1 hx;have hil:=(ae_.1 hv).1;have fk:=(ae_.1 hm).1;obtain⟨aS,tS,zS1,zS2,hvS,hgS⟩:=h.sets.sr hil;obtain⟨aI,tI,zI1,zI2,hvI,hgI⟩:=h.is.sr fk
 have hcl:J.get X.c=some (.cells [Af g.sorts,slV eR 4 g.rules,.mp X.mR,Af text,.sr aS 0 1 X.vals.length none,.sr aI 0 1 X.ms.length none,.mp X.mD]):=by rw[←hvS,←hvI];exact h.cl
 refine Aj Tryz.func187 rfl rfl fun hw hu0=>?_
 refine G5 ?_;refine X0 ?_;refine G3 ?_;refine DF (lO hcl) ?_;refine G ?_;refine DF (Br elC rfl rfl fk) (DF (Dg Z6 ldC rfl hgI hm fun _=>rfl) ?_)
 refine G ?_;refine DF (Ns (o:=some true) (z:=.bool false) Am3 rfl ⟨ver,hM⟩ rfl (ikey x) ho) ?_;refine G2 ?_;refine⟨rfl,rfl,?_⟩;refine Ab rfl ?_ ?_<;>intro h1
 ·grind
 ·skip
  refine G ?_;exact⟨[],rfl,_,J,a_ hw nl (fun _ _=>rfl),nl,.same rfl,rfl⟩
theorem f187b{g text N X S J}(h:ChS g text N X S J){j m ver x l v M}(hl:S.sets[j]? =some l)(hv:X.vals[j]? =some v)(hm:X.ms[j]? =some m)(hM:J.get m=some (.map 351 (Hi bE M) ver))(hMx:∀y,(y∈l->M.get (ik y)=some true)/\(y∉l->M.get (ik y)=none))(hx:x∉l)(bn:l.length<=30000000)  :Al Ew 187 [.pr X.c 0,nV j,itV x] J fun _ J'=>∃X',ChS g text N X' (S.add j x) J'/\Lk X J X' J':=by
 have ho:M.get (ik x)=none:=(hMx x).2 hx;have hil:=(ae_.1 hv).1;have fk:=(ae_.1 hm).1;obtain⟨aS,tS,zS1,zS2,hvS,hgS⟩:=h.sets.sr hil;obtain⟨aI,tI,zI1,zI2,hvI,hgI⟩:=h.is.sr fk
 have hcl:J.get X.c=some (.cells [Af g.sorts,slV eR 4 g.rules,.mp X.mR,Af text,.sr aS 0 1 X.vals.length none,.sr aI 0 1 X.ms.length none,.mp X.mD]):=by rw[←hvS,←hvI];exact h.cl
 have hj9:=h.inj
 have lS:X.loc .s=some aS:=by show adr X.vS=_;rw[hvS];rfl
 have lM:X.loc (.m j)=some m:=hm
 have lV:X.loc (.v j)=adr v:=by show(X.vals[j]?).bind adr=_;rw[hv];rfl
 have hcm:X.c≠m:=gr;have hSm:aS≠m:=gr
 have hcS:X.c≠aS:=fun e=>by cases hj9 .c .s aS (congrArg some e) lS
 have bf:=h.vals j l v hl hv
 generalize hσ1:J.set m (.map 351 (Hi bE (M.put (ik x) true)) (ver+1))=J1 at *
 have n1:nx J1=nx J:=gr;have g1:∀b,b≠m->J1.get b=J.get b:=gr;have cn:Own J1 N eIt 3 l v:=bf.of_get Om fun a ha=>g1 a gr
 have hN:N<=nx J:=gr
 obtain⟨J2,hap,n2,bw,g2⟩:=dn_ (by':=24) Rx Om cn x (by simp only[sizeLim];omega)
 rw[n1]at hap n2 bw g2
 have dk:=h.addS (tl:=tS) hl hv hm hMx hx n2 bw (fun b hb hn=>(g2 b hb hn).trans (by rw[←hσ1])) hvS
 have g8:=(g1 X.c hcm).trans hcl;have ji:=(g1 aS hSm).trans hgS
 have hv1:∀r,Cz 1 false (eV v++r)=some v:=fun r=>by
  rcases bf with⟨_,rfl|rfl⟩|⟨a,tl,_,_,rfl,_⟩<;>rfl
 have hSv:adr v≠some aS:=gr
 have hcv:adr v≠some X.c:=fun e=>by cases hj9 (.v j) .c X.c (by rw[lV,e]) rfl
 have qg:=(g2 X.c (h.lo .c _ rfl).2 hcv).trans g8;have qj:=(g2 aS zS2 hSv).trans ji;refine Aj Tryz.func187 rfl rfl fun hw hu0=>?_
 refine G5 ?_;refine X0 ?_;refine G3 ?_;refine DF (lO hcl) ?_;refine G ?_;refine DF (Br elC rfl rfl fk) (DF (Dg Z6 ldC rfl hgI hm fun _=>rfl) ?_)
 refine G ?_;refine DF (Ns (o:=none) (z:=.bool false) Am3 rfl ⟨ver,hM⟩ rfl (ikey x) ho) ?_;refine G2 ?_;refine⟨rfl,rfl,?_⟩;refine Ab rfl ?_ ?_<;>intro h1
 ·skip
  refine G ?_;refine XS (l:=[]) trivial ?_;refine G3 ?_;refine DF (lO hcl) ?_;refine G ?_;refine DF (Br elC rfl rfl fk) (DF (Dg Z6 ldC rfl hgI hm fun _=>rfl) ?_)
  refine G ?_
  refine DT (K7 (v:=true) Am3 rfl hM rfl (ikey x) rfl (fun te h1 h2=>by simp[Je,h1,h2])) ?_
  refine G ?_;rw[hσ1];refine Asl ?_;refine L4 (Rr:=Dk []) (anns:=[⟨.pure,0,1⟩,⟨.pure,0,1⟩,⟨.pure,0,1⟩,⟨.read,0,1⟩,⟨.pure,0,1⟩,⟨.pure,0,0⟩,⟨.pure,0,0⟩,⟨.pure,0,0⟩,⟨.read,0,0⟩,⟨.pure,0,0⟩,⟨.pure,0,0⟩,⟨.read,0,0⟩,⟨.read,0,0⟩,⟨.pure,0,0⟩,⟨.eff,0,1⟩,⟨.pure,1,1⟩,⟨.eff,1,2⟩]) Di (Bw (l:=[]) trivial) Kr ?_;refine G3 ?_;refine DF (lO g8) ?_;refine G4 ?_;refine DF (lO g8) ?_;refine G ?_;refine DF (Br elC rfl rfl hil) (DF (Dg O0 ldC rfl ji hv hv1) ?_);refine G ?_;refine DF (Ai elC byW rfl rfl rfl) (DT (Av elC rfl slC rfl rfl rfl (new:=eIt x) rfl hap) (DF (Br elC rfl rfl hil) (DT (Tb (u:=.sr (nx J) 0 3 (l.length+1) none) O0 ldC rfl rfl rfl qj hil) ?_)));refine G ?_
  refine⟨⟨trivial,trivial,trivial,(fun s hs=>by simp at hs;rcases hs with rfl|rfl;exact⟨_,E8 g8 (ldC (t:=233)) rfl rfl⟩;exact⟨_,E8 qg (ldC (t:=233)) rfl rfl⟩),trivial,trivial,trivial,trivial,(fun s hs=>by simp at hs;subst hs;exact⟨_,E8 g8 (ldC (t:=233)) rfl rfl⟩),trivial,trivial,(fun s hs=>by simp at hs;subst hs;exact⟨_,Dg O0 (ldC (t:=352)) rfl ji hv hv1⟩),(fun s hs=>⟨_,Ac (ldC (t:=351)) rfl rfl rfl⟩),trivial,trivial,trivial,trivial,trivial⟩,?_⟩
  intro hw2;exact⟨[],rfl,_,_,a_ hw2 nl (fun _ _=>rfl),gr,.same rfl,_,dk.1,dk.2⟩
 grind
theorem f187{g text N X S J}(h:ChS g text N X S J){j}(x)(hj:j<S.sets.length)(bn:(S.set j).length<=30000000):Al Ew 187 [.pr X.c 0,nV j,itV x] J fun _ J'=>∃X',ChS g text N X' (S.add j x) J'/\Lk X J X' J':=by
 obtain⟨l,hl⟩:=Ar hj
 obtain⟨v,hv⟩:=Ar (show j<X.vals.length by rw[h.lv];exact hj)
 obtain⟨m,hm⟩:=Ar (show j<X.ms.length by rw[h.lm];exact hj)
 obtain⟨M,⟨ver,hM⟩,hMx⟩:=h.mps j l m hl hm;rw[ej_ hl]at bn
 by_cases hx:x∈l
 ·refine(f187a h hl hv hm hM hMx hx).mono fun _ J' e=>?_
  subst e
  exact⟨X,by rw[Ch.add_old hl hx];exact h,Lk.refl _ _⟩
 ·exact f187b h hl hv hm hM hMx hx bn
theorem Anl:(match Ay Ew.P 351 with|some ti=>ti.zero|none=>none)=some [.int .i64 0,.int .i64 0,.int .i64 0]:=Kr
theorem Anm{g s}:(E5 g s).length<=g.rules.length:=by
 unfold E5
 exact ai_ (ee_ _ _) (by rw[List.length_range];exact nl)
theorem Afn{S:Ch}{j i}{L:List It}{x}(h:L[i]? =some x):S.adds j (L.take (i+1))=(S.adds j (L.take i)).add j x:=by
 have e:L.take (i+1)=L.take i++[x]:=by rw[List.take_add_one,h];rfl
 rw[e];unfold Ch.adds;rw[List.foldl_append];rfl
theorem f152{g text N X S J rv}(h:ChS g text N X S J)(hr:RlS g rv X J)(s){j}(hj:j<S.sets.length)(hok:Gj g S)(hb:Cu g j<=30000000)(hR:g.rules.length<=1000000):Al Ew 152 [.pr X.c 0,sV s,nV j] J fun _ J'=>∃X',ChS g text N X' (S.pred g s j) J'/\Lk X J X' J':=by
 obtain⟨v,hv,bf,hvs⟩:∃v,((rv.get s).map fun v:AV=>v).getD nS=v/\Own J 0 eN 1 (E5 g s) v/\(0<(E5 g s).length->rv.get s=some v):=by
  have:=hr.get s;cases hs:rv.get s with
  |none=>rw[hs]at this;exact⟨_,rfl,by rw[this];exact .nil,fun h=>by rw[this]at h;cases h⟩
  |some v=>rw[hs]at this;exact⟨v,rfl,this,fun _=>rfl⟩
 refine Aj Tryz.func152 rfl rfl fun hw hu0=>?_
 refine G5 ?_;refine O1 (lO h.cl) ?_;refine G ?_;refine O1 (W4 st9 Ae5 rfl hr.map rfl) (O1 (Bf slC (show _=some v from congrArg some hv) bf.lenA.1 bf.lenA.2) ?_)
 refine G3 ?_
 refine Bz (E5 g s).length (fun i0=>[(0,.pr X.c 0),(2,nV j),(13,v),(14,nV (E5 g s).length),(15,nV i0)]) (fun i0 J0=>∃Y,ChS g text N Y (S.adds j ((Su g s j).take i0)) J0/\Lk X J Y J0) ⟨rfl,rfl,by rw[←hv];rfl,rfl,rfl,trivial⟩ ⟨X,h,Lk.refl _ _⟩ ?_
 rintro i0 J0 hi0 ⟨Y,hY,hL⟩;refine G5 ?_;refine Ab rfl ?_ ?_<;>intro h1
 ·have bc:i0<(E5 g s).length:=by simpa using h1
  have hrl:=Anm (g:=g) (s:=s);obtain⟨r0,hr0⟩:=Ar bc
  have hp0:(Su g s j)[i0]? =some (r0,0,j):=by unfold Su;rw[br_,hr0];rfl
  have hrY:=hr.lk hL;have hgY:=hrY.get s;rw[hvs Om]at hgY;obtain⟨a,tl,_,_,hva,hga⟩:=(show Own J0 0 eN 1 (E5 g s) v from hgY).sr bc
  have qk:Gj g (S.adds j ((Su g s j).take i0)):=hok.adds fun x hx=>Vn x (cm_ hx)
  have hjY:j<(S.adds j ((Su g s j).take i0)).sets.length:=by rw[dx_];exact hj
  refine G5 ?_;refine O1 (Br elC (show _=some (AV.sr a 0 1 (E5 g s).length none)from congrArg some hva) rfl bc) (O1 (Dg Ep ldC rfl hga hr0 fun _=>rfl) ?_)
  refine G7 ?_;refine O1 (G0 Anl Ii rfl rfl) (Az rfl rfl rfl rfl (show Al Ew 187 [.pr X.c 0,nV j,itV (r0,0,j)] J0 _ from hL.c▸f187 hY (r0,0,j) hjY (ai_ (qk.set.bound nl) hb)) ?_)
  rintro u1 J1 ⟨Z,hZ,hLZ⟩;refine G5 ?_;rw[←Afn hp0]at hZ;exact⟨bc,SL,Z,hZ,hL.trans hLZ⟩
 ·have bj:(E5 g s).length<=i0:=by simpa using h1
  refine Bo fun hw0=>?_
  refine G ?_
  have e:(Su g s j).take i0=Su g s j:=at_ (by unfold Su;rw[cx_];exact bj)
  rw[e]at hY;exact⟨[],rfl,_,_,a_ hw0 nl (fun _ _=>rfl),hL.n,.same rfl,Y,hY,hL⟩
theorem Ahg(o):(nxC o).length=3:=by cases o<;>rfl
def nxS:Option Pt->Str
 |some p=>p.sort
 |none=>[]
theorem Nt(o):Cz 1 false ((nxC o).drop 1)=some (sV (nxS o)):=by cases o<;>rfl
theorem Alo{g r n}(h:r<g.rules.length):mxP g<=Cu g n:=
 ai_ (dm_ _) (ai_ (Nat.le_mul_of_pos_right _ (Nat.succ_pos n)) (Nat.le_mul_of_pos_left _ (gc_ (aq_ _) h)))
theorem Ts{S:Ch}{j k x}:(S.set k).length<=((S.add j x).set k).length:=by
 unfold Ch.add
 split
 ·grind
 ·show((S.sets.getD k [])).length<=((S.sets.set j _).getD k []).length
  simp only[List.getD_eq_getElem?_getD,List.getElem?_set]
  by_cases e:j=k
  ·subst e
   by_cases hl:j<S.sets.length
   ·rw[if_pos rfl,if_pos hl]
    show _<=(S.set j++[x]).length
    rw[bx_]
    show(S.sets[j]?.getD []).length<=(S.sets.getD j []).length+_
    grind
   grind
  grind
theorem Yd{g s x S k}:(S.set k).length<=((Fc g s x S).set k).length:=by
 unfold Fc
 split
 ·split
  ·exact Ts
  grind
 grind
def eSp(s:Sp):List AV:=[sV s.1,nV s.2.1,nV s.2.2]
theorem f189{g text N n X S J}(h:ChS g text N X S J)(s)(hok:Gj g S)(hs:s.2.1<=s.2.2)(hl:s.2.2<S.sets.length)(hn:S.sets.length<=n+1)(hb:Cu g n<=30000000):Al Ew 189 [.pr X.c 0,.agg (eSp s)] J fun _ J'=>∃X',ChS g text N X' (adv g s (Cu g n+1) 0 S) J'/\Lk X J X' J':=by
 refine Aj Tryz.func189 rfl rfl fun hw hu0=>?_
 refine G9 ?_;refine Ci (fun q:Nat×Ch=>[(0,.pr X.c 0),(3,.pv (eSp s)),(4,nV q.1)]) (fun q J0=>∃Y,ChS g text N Y q.2 J0/\Lk X J Y J0/\Gj g q.2/\q.2.sets.length=S.sets.length/\q.1<=(q.2.set s.2.1).length/\q.1<=Cu g n/\adv g s (Cu g n+1-q.1) q.1 q.2=adv g s (Cu g n+1) 0 S) (fun q=>Cu g n+1-q.1) (0,S) SL ⟨X,h,Lk.refl _ _,hok,rfl,aq_ _,aq_ _,rfl⟩ ?_
 rintro⟨i0,T0⟩ J0 ⟨Y,hY,hL,cq,hlT,hi0,hib,hfu⟩;have hlT:T0.sets.length=S.sets.length:=hlT;have hi0:i0<=(T0.set s.2.1).length:=hi0;have hib:i0<=Cu g n:=hib;have hfu:adv g s (Cu g n+1-i0) i0 T0=adv g s (Cu g n+1) 0 S:=hfu;have hY:ChS g text N Y T0 J0:=hY;have cq:Gj g T0:=cq
 have hj1:s.2.1<T0.sets.length:=by omega
 obtain⟨l,hl⟩:=Ar hj1
 obtain⟨v,hv⟩:=Ar (show s.2.1<Y.vals.length by rw[hY.lv];exact hj1)
 have hvl:=(ae_.1 hv).1;have cd:=ej_ hl;rw[cd]at hi0;have bf:=hY.vals _ l v hl hv;obtain⟨aS,tS,_,zS2,hvS,hgS⟩:=hY.sets.sr hvl
 have hcl:J0.get X.c=some (.cells [Af g.sorts,slV eR 4 g.rules,.mp Y.mR,Af text,.sr aS 0 1 Y.vals.length none,Y.vI,.mp Y.mD]):=by rw[←hvS,←hL.c];exact hY.cl
 have hlb:l.length<=Cu g n:=by have:=(cq.set (j:=s.2.1)).bound (n:=n) Om;grind
 have hv1:∀r,Cz 1 false (eV v++r)=some v:=fun r=>by
  rcases bf with⟨_,rfl|rfl⟩|⟨a,tl,_,_,rfl,_⟩<;>rfl
 refine G2 ?_;refine X0 ?_;refine G4 ?_;refine DF (lO hcl) ?_;refine G2 ?_;refine DF (Br elC rfl rfl hvl) (DF (Dg O0 ldC rfl hgS hv hv1) (DF (Bf slC rfl bf.lenA.1 bf.lenA.2) ?_));refine G2 ?_;refine⟨rfl,rfl,?_⟩;refine Ab rfl ?_ ?_<;>intro h1
 ·have bc:i0<l.length:=gr;obtain⟨x,hx⟩:=Ar bc;obtain⟨a,tl,_,_,hva,hga⟩:=bf.sr bc
  have hxo:Vm g s.2.1 x:=cq _ l hl|>.2 x (au_.2 ⟨_,hx⟩)
  refine G3 ?_;refine Gz 5 [.int .i64 0,.int .i64 0,.int .i64 0] (eIt x) [] rfl rfl (fun hw0=>?_) ?_
  ·refine XX 1 (l:=[]) trivial ?_;refine G3 ?_;refine DF (lO hcl) ?_;refine G2 ?_;refine DF (Br elC rfl rfl hvl) (DF (Dg O0 ldC rfl hgS hv hv1) ?_);refine G ?_;refine DF (Br elC (show _=some (AV.sr a 0 3 l.length none)from congrArg some hva) rfl bc) (DF (Dg Rx ldC rfl hga hx fun _=>rfl) ?_)
   refine DT (Bu ziC) (DT (sO (cs:=[.int .i64 0,.int .i64 0,.int .i64 0]) (cs':=eIt x) (by rw[ag_,if_pos rfl])) ?_)
   refine G ?_
   exact⟨(by intro e he;simp at he;rcases he with rfl|rfl<;>first|exact .refl|exact K4 hw0),trivial,sb,rfl,rfl⟩
  refine G4 ?_;refine Ca (show Al Ew 188 [.pr X.c 0,itV x] J0 _ from f188 g X.c s.2.1 x _ J0 hcl hxo) ?_
  refine G3 ?_;refine Ho ziC ldC rfl (fun _=>rfl) rfl (A7 (Ahg _)) rfl rfl ?_
  refine G6 ?_;refine TAn 5 ?_ (fun hg=>?_) ?_
  rotate_left
  ·refine Gn hg ?_;refine On hg (Ac ldC rfl rfl (Nt _)) ?_
   iterate 3 refine Gn hg ?_
   exact Ez
  refine G ?_;refine Ab rfl ?_ ?_<;>intro h2
  ·obtain⟨p,hp,hps⟩:∃p,nxI g x=some p/\p.sort=s.1:=by
    cases hh:nxI g x with
    |none=>rw[hh]at h2;simp at h2
    |some p=>rw[hh]at h2;exact⟨p,rfl,(by simp[nxS]at h2;grind)⟩
   have hbx:x.2.1<=30000000:=ai_ (ai_ hxo.2.1 W9) (ai_ (Alo hxo.1) hb)
   have hj2:s.2.2<T0.sets.length:=by omega
   have bn:(T0.set s.2.2).length<=30000000:=ai_ ((cq.set (j:=s.2.2)).bound (n:=n) Om) hb
   have eS:Fc g s x T0=T0.add s.2.2 (upI x):=by unfold Fc;grind
   have hst:=Tq (x:=x) cq hs hxo
   have dt:adv g s (Cu g n+1-(i0+1)) (i0+1) (Fc g s x T0)=adv g s (Cu g n+1) 0 S:=by
    rw[←hfu,show Cu g n+1-i0=(Cu g n+1-(i0+1))+1 by omega]
    simp only[adv,cd,hx]
   have hnl:i0+1<=((Fc g s x T0).set s.2.1).length:=by
    have:=Yd (g:=g) (s:=s) (x:=x) (S:=T0) (k:=s.2.1)
    grind
   refine G4 ?_
   refine O1 (Bp Ii rfl rfl (by decide) rfl) ?_
   refine G ?_
   refine O1 (Bp Ii rfl rfl (by decide) rfl) ?_
   refine G2 ?_
   refine O1 (Bp Ii rfl rfl (by decide) rfl) ?_
   refine G ?_;refine O1 (G0 Anl Ii rfl rfl) (Az rfl rfl rfl rfl (show Al Ew 187 [.pr X.c 0,nV s.2.2,itV (upI x)] J0 _ from hL.c▸f187 hY (upI x) hj2 bn) ?_)
   rintro u1 J1 ⟨Z,hZ,hLZ⟩;refine G6 ?_;refine⟨(i0+1,Fc g s x T0),gr,SL,Z,gr,hL.trans hLZ,hst.1.ok,hst.1.len.trans hlT,hnl,gr,dt⟩
  ·have eS:Fc g s x T0=T0:=by
    unfold Fc;cases hh:nxI g x with
    |none=>rfl
    |some p=>rw[hh]at h2;exact if_neg (by simp[nxS]at h2;grind)
   have hst:=Tq (x:=x) cq hs hxo
   have dt:adv g s (Cu g n+1-(i0+1)) (i0+1) (Fc g s x T0)=adv g s (Cu g n+1) 0 S:=by
    rw[←hfu,show Cu g n+1-i0=(Cu g n+1-(i0+1))+1 by omega]
    simp only[adv,cd,hx]
   have hnl:i0+1<=((Fc g s x T0).set s.2.1).length:=gr;refine G6 ?_;refine⟨(i0+1,Fc g s x T0),gr,SL,Y,gr,hL,hst.1.ok,hst.1.len.trans hlT,hnl,gr,dt⟩
 ·have bj:l.length<=i0:=gr
  have ma:T0=adv g s (Cu g n+1) 0 S:=by
   rw[←hfu,show Cu g n+1-i0=(Cu g n-i0)+1 by omega]
   simp only[adv,cd,List.getElem?_eq_none_iff.2 bj]
  refine Bo fun hw0=>?_
  refine G ?_;exact⟨[],rfl,_,_,a_ hw0 nl (fun _ _=>rfl),hL.n,.same rfl,Y,gr,hL⟩
section
variable {g:Gr}{text:List Str}{N:Nat}{X:Cp}{S:Ch}{J:Sto}
def Cp.more(X:Cp)(a m b:Nat):Cp:={ X with vS:=.sr a 0 1 (X.vals.length+1) none,vI:=.sr b 0 1 (X.ms.length+1) none,vals:=X.vals++[nS],ms:=X.ms++[m] }
theorem Cp.loc_more{a m b}(t){c}(h:(X.more a m b).loc t=some c):(t=.s/\c=a)∨(t=.i/\c=b)∨(t=.m X.ms.length/\c=m)∨(t≠.s/\t≠.i/\t≠.m X.ms.length/\X.loc t=some c):=by
 cases t with
 |s=>cases h;exact .inl ⟨rfl,rfl⟩
 |i=>cases h;exact .inr (.inl ⟨rfl,rfl⟩)
 |c=>exact .inr (.inr (.inr ⟨by simp,by simp,by simp,h⟩))
 |d=>exact .inr (.inr (.inr ⟨by simp,by simp,by simp,h⟩))
 |v j=>
  refine .inr (.inr (.inr ⟨by simp,by simp,by simp,?_⟩))
  have h:((X.vals++[nS])[j]?).bind adr=some c:=h
  show(X.vals[j]?).bind adr=some c
  rw[List.getElem?_append]at h
  split at h
  ·exact h
  ·rename_i hj
   by_cases e:j-X.vals.length=0
   ·rw[e]at h;cases h
   ·rw[List.getElem?_eq_none_iff.2 (by simp;omega)]at h;cases h
 |m j=>
  have h:(X.ms++[m])[j]? =some c:=h;rw[List.getElem?_append]at h
  split at h
  ·rename_i hj
   exact .inr (.inr (.inr ⟨by simp,by simp,fun e=>by have:=Tg.m.inj e;omega,h⟩))
  ·rename_i hj
   by_cases e:j-X.ms.length=0
   ·rw[e]at h;cases h
    exact .inr (.inr (.inl ⟨by rw[show j=X.ms.length by omega],rfl⟩))
   ·rw[List.getElem?_eq_none_iff.2 (by simp;omega)]at h;cases h
abbrev fu_:=@Cp.loc_more
theorem ChS.openS(h:ChS g text N X S J){m b U}(hm:nx J<m)(hb:m<b)(hτ:b<nx U)
  (hc:U.get X.c=some (.cells ((X.more (nx J) m b).cells g text)))
  (hS:Own U N eV 1 (X.vals++[nS]) (.sr (nx J) 0 1 (X.vals.length+1) none))(hI:Own U N eMp 1 (X.ms++[m]) (.sr b 0 1 (X.ms.length+1) none))(hM:GAt 351 bE U m ([]:GM Ik Bool))
  (hf:∀c,c<nx J->c≠X.c->adr X.vS≠some c->adr X.vI≠some c->U.get c=J.get c):ChS g text N (X.more (nx J) m b) S.open' U/\Lk X J (X.more (nx J) m b) U:=by
 have oth:∀t a,X.loc t=some a->t≠.c->t≠.s->t≠.i->U.get a=J.get a:=fun t a ht n1 n2 n3=>
  hf a (h.lo t a ht).2 (fun e=>n1 (h.inj t .c a ht (by rw[e];rfl))) (fun e=>n2 (h.inj t .s a ht e)) (fun e=>n3 (h.inj t .i a ht e))
 have hN:=h.lo .c _ rfl
 refine⟨⟨fun t u a ht hu=>?_,fun t a ht=>?_,hc,?_,?_,?_,?_,fun k l u hl hu=>?_,fun k l u hl hu=>?_,h.done.of_get (oth .d _ rfl (by simp) (by simp) (by simp))⟩,⟨rfl,rfl,rfl,by omega,fun t a ht=>?_,fun c hc hn=>hf c hc (fun e=>hn .c (by rw[e];rfl)) (hn .s) (hn .i)⟩⟩
 ·rcases fu_ t ht with⟨rfl,rfl⟩|⟨rfl,rfl⟩|⟨rfl,rfl⟩|⟨_,_,_,h1⟩<;>rcases fu_ u hu with⟨rfl,e⟩|⟨rfl,e⟩|⟨rfl,e⟩|⟨_,_,_,h2⟩
  all_goals first|rfl|(exfalso;omega)|(have:=(h.lo _ _ h2).2;exfalso;omega)|(have:=(h.lo _ _ h1).2;exfalso;omega)|exact h.inj t u a h1 h2
 ·rcases fu_ t ht with⟨_,rfl⟩|⟨_,rfl⟩|⟨_,rfl⟩|⟨_,_,_,h1⟩
  ·omega
  ·omega
  ·omega
  ·have:=h.lo t a h1;omega
 ·have e:(X.more (nx J) m b).vS=.sr (nx J) 0 1 (X.vals.length+1) none:=rfl;rw[e];exact hS
 ·have e:(X.more (nx J) m b).vI=.sr b 0 1 (X.ms.length+1) none:=rfl;rw[e];exact hI
 ·show(X.vals++[_]).length=(S.sets++[[]]).length
  simp[h.lv]
 ·show(X.ms++[_]).length=(S.sets++[[]]).length
  simp[h.lm]
 ·have hl:(S.sets++[[]])[k]? =some l:=hl;have hu:(X.vals++[nS])[k]? =some u:=hu;rw[List.getElem?_append]at hl hu;rw[h.lv]at hu
  split at hl
  ·rename_i hk
   rw[if_pos hk]at hu
   have hk':∀a,adr u=some a->X.loc (.v k)=some a:=fun a ha=>by show(X.vals[k]?).bind adr=_;rw[hu];exact ha
   exact(h.vals k l u hl hu).of_get Om fun a ha=>oth (.v k) a (hk' a ha) (by simp) (by simp) (by simp)
  ·rename_i hk
   rw[if_neg hk]at hu
   by_cases e:k-S.sets.length=0
   ·rw[e]at hl hu;cases hl;cases hu;exact .nil
   ·rw[List.getElem?_eq_none_iff.2 (by simp;omega)]at hl;cases hl
 ·have hl:(S.sets++[[]])[k]? =some l:=hl;have hu:(X.ms++[m])[k]? =some u:=hu;rw[List.getElem?_append]at hl hu;rw[h.lm]at hu
  split at hl
  ·rename_i hk
   rw[if_pos hk]at hu
   exact(h.mps k l u hl hu).of_get (oth (.m k) u hu (by simp) (by simp) (by simp))
  ·rename_i hk
   rw[if_neg hk]at hu
   by_cases e:k-S.sets.length=0
   ·rw[e]at hl hu;cases hl;cases hu
    exact⟨[],hM,fun x=>⟨fun hx=>(by cases hx),fun _=>rfl⟩⟩
   ·rw[List.getElem?_eq_none_iff.2 (by simp;omega)]at hl;cases hl
 ·rcases fu_ t ht with⟨_,rfl⟩|⟨_,rfl⟩|⟨_,rfl⟩|⟨_,_,_,h1⟩
  ·exact .inr nl
  ·exact .inr Om
  ·exact .inr Om
  ·exact .inl ⟨t,h1⟩
end
end Go.AM
