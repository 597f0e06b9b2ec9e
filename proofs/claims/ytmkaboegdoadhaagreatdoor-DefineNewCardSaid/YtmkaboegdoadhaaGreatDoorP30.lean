/- A part of the proof; shortened by program. -/
import Derived.Test.YtmkaboegdoadhaaGreatDoorP29
set_option maxRecDepth 100000
set_option maxHeartbeats 4000000
set_option linter.unusedSimpArgs false
set_option linter.unusedVariables false
namespace Go.AM
open Go Go.Proofs
theorem f57(p:Ax->Bool)(l:List Ax)(k:Nat)(cap:List AV)(σ:Sto)(hb:l.length<4611686018427387904)(hk:∀a∈l,Al Ew k ([.agg (eT a)]++cap) σ fun v σ'=>v=.bool (p a)/\σ'=σ):
  Cv 57 [slV eT 2 l,.fn (.func k) [] cap] σ (iV (A5 p l 0)):=by
 refine Aj Tryz.func57 rfl rfl fun hw hu=>?_
 refine G12 ?_;refine Bz l.length (fun i=>[(0,slV eT 2 l),(1,.fn (.func k) [] cap),(7,iV (.ofNat l.length)),(8,iV (.ofNat i))]) (fun i σ'=>σ'=σ/\A5 p l 0=A5 p (l.drop i) i) SL ⟨rfl,rfl⟩ ?_
 rintro i σ' hi ⟨rfl,hf⟩;refine G5 ?_;refine Ab rfl ?_ ?_<;>intro h
 ·have hlt:i<l.length:=gr;obtain⟨a,ha⟩:∃a,l[i]? =some a:=⟨_,az_ hlt⟩
  have hd:l.drop i=a::l.drop (i+1):=by
   obtain⟨h1,rfl⟩:=ae_.1 ha;exact bj_ h1
  iterate 13 refine G ?_
  refine O1 (A1 elC Dh rfl rfl ha) (O1 (Ac ldC rfl rfl (A6 (Dh a) _)) (Az rfl rfl rfl rfl (hk a (ab_ ha)) ?_));rintro _ _ ⟨rfl,rfl⟩;refine G ?_;refine Ab rfl (fun h'=>?_) (fun h'=>?_)
  ·refine G6 ?_;refine⟨_,rfl,iV (.ofNat i),_,a_ hw nl (fun _ _=>rfl),nl,.same rfl,?_,rfl⟩
   rw[hf,hd];simp only[A5,h',cond_true]
  ·refine G2 ?_;refine O1 (D3 (p:=i) (q:=1) okC rfl rfl Om) ?_;refine G2 ?_;refine⟨hlt,SL,rfl,?_⟩;rw[hf,hd];simp only[A5,h',cond_false]
 ·have hge:l.length<=i:=gr;refine G6 ?_;refine⟨_,rfl,iV (-1),_,a_ hw nl (fun _ _=>rfl),nl,.same rfl,?_,rfl⟩
  rw[hf,ah_ hge];rfl
theorem f18(p:Ax->Bool)(l:List Ax)(k:Nat)(cap:List AV)(σ:Sto)(hb:l.length<4611686018427387904)(hk:∀a∈l,Al Ew k ([.agg (eT a)]++cap) σ fun v σ'=>v=.bool (p a)/\σ'=σ):
  Cv 18 [slV eT 2 l,.fn (.func k) [] cap] σ (.bool (l.any p)):=by
 refine Aj Tryz.func18 rfl rfl fun hw _=>?_
 refine G8 ?_;refine Az rfl rfl rfl rfl (f57 p l k cap σ hb hk) ?_;rintro _ _ ⟨rfl,rfl⟩;refine G4 ?_;refine B4 hw rfl ?_;exact congrArg AV.bool (Gf l)
theorem f14{t:Ax}(h:KB t)(s:Str):∀σ:Sto,Cv 14 [En t,sV s] σ (.bool (Hk t s)):=by
 induction h with
 |@node l ks hl hk ih=>
  intro σ
  have h55:∀k∈ks,Al Ew 55 ([.agg (eT k)]++[.pv [sV s]]) σ fun v σ'=>v=.bool (Hk k s)/\σ'=σ:=fun k hkk=>by
   obtain⟨lk,kk,rfl⟩:∃lk kk,k=.node lk kk:=by cases k;grind
   have ih':=ih _ hkk σ;rw[Cg]at ih';rw[Cl];refine Aj Tryz.func55 rfl rfl fun hw hu0=>?_
   refine G9 ?_;refine Ca ih' ?_;refine G3 ?_;exact⟨_,rfl,_,_,a_ hw nl (fun _ _=>rfl),nl,.same rfl,rfl,rfl⟩
  rw[Cg,R0];refine Aj Tryz.func14 rfl rfl fun hw hu0=>?_
  iterate 13 refine G ?_
  refine Qh 4 _ (ks.any fun k=>Hk k s) rfl rfl rfl rfl rfl (Eh rfl) (fun hg=>?_) (fun hg=>?_) ?_
  ·iterate 3 refine Gn hg ?_
   refine Bh rfl rfl rfl (by rw[hg];rfl) rfl rfl rfl rfl (f18 (fun k=>Hk k s) ks 55 [.pv [sV s]] σ Om h55) ?_
   refine G ?_;refine⟨rfl,?_,?_⟩
   ·exact sb
   ·exact rfl
  ·iterate 4 refine Of hg ?_
   refine G ?_;exact⟨rfl,sb⟩
  refine G3 ?_;exact⟨_,rfl,_,_,a_ hw nl (fun _ _=>rfl),nl,.same rfl,rfl,rfl⟩
theorem f17(f:Fr)(x:Df)(σ:Sto):Al Ew 17 ([.agg (eF f)]++[.pv (eDf x)]) σ fun v σ'=>v=.bool (decide (f.label=x.label))/\σ'=σ:=by
 refine Aj Tryz.func17 rfl rfl fun hw hu0=>?_
 iterate 15 refine G ?_
 exact⟨_,rfl,_,_,a_ hw nl (fun _ _=>rfl),nl,.same rfl,rfl,rfl⟩
theorem f20{t:Ax}(h:KB t)(x:Df)(σ:Sto):Al Ew 20 ([.agg (eT t)]++[.pv (eDf x)]) σ fun v σ'=>v=.bool (Hk t x.label)/\σ'=σ:=by
 obtain⟨lk,kk,rfl⟩:∃lk kk,t=.node lk kk:=by cases t;grind
 have h14:=f14 h x.label σ;rw[Cg]at h14;rw[Cl];refine Aj Tryz.func20 rfl rfl fun hw hu0=>?_
 refine G10 ?_;refine Ca h14 ?_;refine G3 ?_;exact⟨_,rfl,_,_,a_ hw nl (fun _ _=>rfl),nl,.same rfl,rfl,rfl⟩
theorem f12(r:Rs)(σ:Sto):Cv 12 [.agg (eRs r)] σ (.agg (eRs r)):=by
 refine Aj Tryz.func12 rfl rfl fun hw hu0=>?_
 refine G3 ?_;refine O1 (Bj (n:=nx σ) ziC rfl) ?_;refine G ?_;obtain⟨σ1,hσ1⟩:∃σ1,σ.new (.cells [nS,nS])=σ1:=⟨_,rfl⟩;rw[hσ1];have n1:nx σ1=nx σ+1:=gr;have g1:∀b,b<nx σ->σ1.get b=σ.get b:=gr;have r1:σ1.get (nx σ)=some (.cells [nS,nS]):=gr;refine G3 ?_;refine O1 (sO (cs':=eRs r) r1) ?_;refine G2 ?_
 exact⟨[.agg (eRs r)],Am (vs:=eRs r) (ldC (t:=35)) rfl (by simp only[Sto.cells];grind) rfl rfl,_,σ,am_ hw ⟨gr,gr⟩,nl,.same (by
  show(AV.und (nx σ) (Af r.equal)&&(AV.und (nx σ) (Af r.bound)&&true))=true
  have h2:AV.und (nx σ) (Af r.equal)=true:=A2 D9 _;have h3:AV.und (nx σ) (Af r.bound)=true:=A2 D9 _
  grind),rfl,rfl⟩
theorem Avp{N:Nat}(f:Fr):AV.unds N (eF f)=true:=by
 have h1:∀l,AV.und N (Af l)=true:=fun l=>A2 D9 _
 have h2:∀l,AV.und N (slV eH 3 l)=true:=fun l=>A2 Mr _
 have h3:∀l,AV.und N (slV eP 2 l)=true:=fun l=>A2 Am6 _
 simp only[eF,AV.unds,h1,h2,h3,AV.und,be_]
 rfl
def txE(hs:List Hp):List (List Str):=(hs.filter fun h=> !h.floating).map (·.text)
def asL(d:Db)(L:List (List Str)):List Ax:=L.filterMap fun l=>if(B1 d l).2=0/\Nv l=true then some (B1 d l).1 else none
theorem Avq{hs:List Hp}{i:Nat}{h:Hp}(hh:hs[i]? =some h):txE (hs.take (i+1))=if(!h.floating)=true then txE (hs.take i)++[h.text]else txE (hs.take i):=by
 unfold txE;rw[List.take_add_one,hh]
 grind
theorem Ati{d:Db}{L:List (List Str)}{i:Nat}{l:List Str}(hl:L[i]? =some l):asL d (L.take (i+1))=if(B1 d l).2=0/\Nv l=true then asL d (L.take i)++[(B1 d l).1]else asL d (L.take i):=by
 unfold asL;rw[List.take_add_one,hl]
 grind
theorem Aqc(d:Db):(B1 d []).2≠0:=by
 unfold B1
 grind
theorem f19{d:Db}(hD:DbB d)(hvf:d.vars.length+d.frames.length<1000000)(f:Fr)(hh:f.hyps.length<=1000000)(hL:∀l∈f.text::txE f.hyps,l.length<1000000)(σ:Sto):
  Cv 19 [dbV d,.agg (eF f)] σ (slV eT 2 (asL d (f.text::txE f.hyps))):=by
 refine Aj Tryz.func19 rfl rfl fun hw hu0=>?_
 iterate 14 refine G ?_
 refine O1 (Ai elC byW rfl rfl rfl) ?_;refine G11 ?_;refine Ci (fun q:Nat×AV=>[(2,.pv [Af d.consts,Af d.vars,slV eF 8 d.frames]),(5,nS),(6,q.2),(17,slV eH 3 f.hyps),(18,nV f.hyps.length),(19,nV q.1)]) (fun q σ0=>q.1<=f.hyps.length/\Ad0 σ0 (nx σ) eL 1 (f.text::txE (f.hyps.take q.1)) q.2/\(txE (f.hyps.take q.1)).length<=q.1/\nx σ<=nx σ0/\∀b,b<nx σ->σ0.get b=σ.get b) (fun q=>f.hyps.length-q.1) (0,.sv [Af f.text] 1 1 (some 1)) SL ⟨aq_ _,.inl rfl,nl,nl,fun _ _=>rfl⟩ ?_
 rintro⟨i0,v0⟩ σ0 ⟨hi0,bf,hll,n0,g0⟩;have hi0:i0<=f.hyps.length:=hi0;have bf:Ad0 σ0 (nx σ) eL 1 (f.text::txE (f.hyps.take i0)) v0:=bf;have hll:(txE (f.hyps.take i0)).length<=i0:=hll;refine G5 ?_;refine Ab rfl ?_ ?_<;>intro h1
 ·have bc:i0<f.hyps.length:=Int.ofNat_lt.1 (of_decide_eq_true h1);obtain⟨h,hh⟩:=Ar bc;have htk:=Avq hh
  iterate 15 refine G ?_
  refine Ab rfl ?_ ?_<;>intro h2
  ·rw[if_pos h2]at htk
   obtain⟨v1,σ1,hap,cn,hb1,hk1⟩:=Ad0.app (enc:=eL) (sz:=1) (l:=f.text::txE (f.hyps.take i0)) (by':=24) (fun _=>rfl) n0 bf [h.text] (by simp only[sizeLim,as_,cu_];omega)
   refine G4 ?_;refine Cx (Ai elC byW rfl rfl rfl) (Dv (len:=1)) rfl rfl (O1 (Av elC rfl slC rfl rfl rfl (new:=eL h.text) rfl hap) ?_);refine G6 ?_
   refine⟨(i0+1,v1),gr,SL,gr,gr,gr,by have:=hb1.1;omega,fun b hb=>(hb1.2 b hb).trans (g0 b hb)⟩
  ·rw[if_neg gr]at htk;refine G5 ?_;exact⟨(i0+1,v0),gr,SL,gr,gr,gr,n0,g0⟩
 ·have bj:f.hyps.length<=i0:=bm_.1 (Int.not_lt.1 (fun q=>of_decide_eq_false h1 q))
  rw[at_ bj]at bf hll;obtain⟨L,hLe⟩:∃L,f.text::txE f.hyps=L:=⟨_,rfl⟩;have hLl:L.length<=1000001:=gr;rw[hLe]at bf hL⊢;refine G ?_
  refine Av2 σ [(2,.pv [Af d.consts,Af d.vars,slV eF 8 d.frames]),(5,nS),(6,slV eL 1 L)] (am_ hw ⟨n0,g0⟩) nl ⟨⟨_,rfl,.same (by
   show(AV.unds (nx σ) [Af d.consts,Af d.vars,slV eF 8 d.frames])=true
   have h1:AV.und (nx σ) (Af d.consts)=true:=A2 D9 _;have h2:AV.und (nx σ) (Af d.vars)=true:=A2 D9 _;have h3:AV.und (nx σ) (slV eF 8 d.frames)=true:=A2 Avp _;simp only[AV.unds,h1,h2,h3];rfl)⟩,⟨_,rfl,.same rfl⟩,⟨_,rfl,bf.fz (fun _=>rfl) (fun a ha=>hw.none ha) (A2 Am8 _)⟩,trivial⟩ ?_
  refine G8 ?_;refine Ci (fun q:Nat×AV=>[(2,.pv [Af d.consts,Af d.vars,slV eF 8 d.frames]),(5,q.2),(32,slV eL 1 L),(33,nV L.length),(34,nV q.1)]) (fun q σ0=>q.1<=L.length/\Own σ0 (nx σ) eT 2 (asL d (L.take q.1)) q.2/\(asL d (L.take q.1)).length<=q.1/\nx σ<=nx σ0/\∀b,b<nx σ->σ0.get b=σ.get b) (fun q=>L.length-q.1) (0,nS) SL ⟨aq_ _,.nil,nl,nl,fun _ _=>rfl⟩ ?_
  rintro⟨i2,v2⟩ σ2 ⟨hi2,bw,oh,n2,g2⟩;have hi2:i2<=L.length:=hi2;have bw:Own σ2 (nx σ) eT 2 (asL d (L.take i2)) v2:=bw;have oh:(asL d (L.take i2)).length<=i2:=oh;refine G5 ?_;refine Ab rfl ?_ ?_<;>intro h2
  ·have bv:i2<L.length:=Int.ofNat_lt.1 (of_decide_eq_true h2);obtain⟨l,hl⟩:=Ar bv;have htk:=Ati (d:=d) hl;obtain⟨T,e,hTe⟩:∃T e,B1 d l=(T,e):=⟨_,_,rfl⟩
   obtain⟨lk,kk,hT⟩:∃lk kk,T=.node lk kk:=by cases T;grind
   have hc:=f26 d l σ2 hD hvf (hL l (ab_ hl));rw[hTe]at hc htk
   rw[show En T=.agg [sV lk,slV eT 2 kk] by rw[hT];exact Cg lk kk]at hc
   have hek:eT T=[sV lk,slV eT 2 kk]:=by rw[hT];exact Cl lk kk
   iterate 13 refine G ?_
   refine Ca hc ?_;refine G11 ?_;refine Hq 4 _ (Nv l) rfl rfl rfl rfl rfl (Eh rfl) (fun hg=>?_) (fun hg=>?_) ?_
   ·cases l with
    |nil=>exact absurd gr (Aqc d)
    |cons t0 tl=>
     refine Gn hg ?_;refine On hg (A1 (i:=0) elC (fun _=>rfl) rfl rfl rfl) ?_
     refine Gn hg ?_;refine On hg (H5 (q:=[124,45]) okC rfl rfl) ?_;refine G ?_;refine⟨rfl,?_,?_⟩
     ·exact sb
     ·show some (AV.bool (decide (t0=[124,45])))=some (.bool (Nv (t0::tl)))
      unfold Nv;rw[List.getElem?_cons_zero];simp
   ·iterate 4 refine Of hg ?_
    refine G ?_;exact⟨rfl,sb⟩
   refine G ?_;refine Ab rfl ?_ ?_<;>intro h3
   ·rw[if_pos gr]at htk
    obtain⟨σ3,hap,n3,gg,g3⟩:=dn_ (enc:=eT) (sz:=2) (by':=40) Dh n2 bw T (by simp only[sizeLim];omega)
    rw[hek]at hap;refine G3 ?_;refine Cx (Ai elC byW rfl rfl rfl) (Dv (len:=1)) rfl rfl (O1 (Av elC rfl slC rfl rfl rfl (new:=[sV lk,slV eT 2 kk]) rfl hap) ?_);refine G6 ?_
    refine⟨(i2+1,_),gr,SL,gr,gr,gr,by omega,fun b hb=>(g3 b Om (fun e=>by have:=(bw.adr_lt e).1;omega)).trans (g2 b hb)⟩
   ·rw[if_neg gr]at htk;refine G5 ?_;exact⟨(i2+1,v2),gr,SL,gr,gr,gr,n2,g2⟩
  ·have ba:L.length<=i2:=bm_.1 (Int.not_lt.1 (fun q=>of_decide_eq_false h2 q))
   rw[at_ ba]at bw;refine G7 ?_
   exact⟨_,rfl,_,σ,am_ hw ⟨n2,g2⟩,nl,bw.fz Dh (fun a ha=>hw.none ha) (by rw[←No];exact Jq _),rfl,rfl⟩
theorem Avr{d:Db}{r:Rs}{m n i j:Nat}{x y:Df}(hmn:m<n)(hm:(Ip d r)[m]? =some (i,x))(hn:(Ip d r)[n]? =some (j,y)):i<j:=by
 have key:∀(l:List Nat),l.Pairwise (·<·)->((l.filterMap fun i=>if(Ck d r i).2=0 then some (i,(Ck d r i).1)else none).map (·.1)).Pairwise (·<·):=gr
 have hp:=key (List.range d.frames.length) List.pairwise_lt_range;have h1:((Ip d r).map (·.1))[m]? =some i:=gr;have h2:((Ip d r).map (·.1))[n]? =some j:=gr;obtain⟨q1,rfl⟩:=ae_.1 h1;obtain⟨q2,rfl⟩:=ae_.1 h2;exact List.pairwise_iff_getElem.1 hp m n q1 q2 hmn
def puD(f:Nat):Bool:=Nat.beq f 12||Nat.beq f 13
noncomputable def ED:Env:={ Ew with pu:=puD }
theorem T_ED{nt B:Nat}{df:List (Nat×List AV)}{c:Code}{Q:Cc}{ρ:Ad}{σ:Sto}(h:T ED nt df B c Q ρ σ):T Ew nt df B c Q ρ σ:=fun ro n hn C w tm a ht st hB=>
 wpIn_mono (h ro n hn C w tm a ht ⟨st.sim,st.glob,st.tmps,st.size,st.dfs⟩ hB) fun e a' w' ⟨x,tm',ρ',σ',C',h1,h2,h3,h4,h5,h6⟩=>⟨x,tm',ρ',σ',C',h1,h2,h3,⟨h4.sim,h4.glob,h4.tmps,h4.size,h4.dfs⟩,h5,h6⟩
open Classical in
noncomputable def Vy:List (Nat×List AV×AV)->Rec
 |[],_,_,_=>none
 |(f,a,v)::r,.fn f',a',σ=>if f'=f/\a'=a then some (v,σ)else Vy r (.fn f') a' σ
 |_::_,.yl _,_,_=>none
def Aly(E:Env):List (Nat×List AV×AV)->Prop
 |[]=>True
 |(f,a,v)::r=>(∀σ,Al E f a σ (fun u τ=>u=v/\τ=σ))/\Aly E r
theorem Avs{a:Nat}:∀(l:List (Nat×List AV×AV)) (x:List AV) (σ:Sto),Vy l (.yl a) x σ=none
 |[],_,_=>rfl
 |_::_,_,_=>rfl
theorem An4{E:Env}{f':Nat}:∀{l:List (Nat×List AV×AV)},Aly E l->Akz E f' (Vy l (.fn f'))
 |[],_=>fun C w σ args vs v σ' hs hg ha h=>by cases h
 |(f,a,v)::r,hk=>fun C w σ args vs u σ' hs hg ha h=>by
  simp only[Vy]at h
  split at h
  ·rename_i he
   obtain⟨rfl,rfl⟩:=he;cases h;obtain⟨h1,h2⟩:=hk.1 σ C w vs hs hg ha;refine⟨h1,h2.mono fun e w' he=>?_⟩
   cases e with
   |returned x=>obtain⟨v,σ',C',⟨rfl,rfl⟩,k1,k2,k3⟩:=he;exact⟨C',k1,k2,k3⟩
   |panicked _=>exact he.elim
   |outgrown=>exact he.elim
  ·exact An4 hk.2 C w σ args vs u σ' hs hg ha h
theorem Afx{f':Nat}:∀(l:List (Nat×List AV×AV)) (args:List AV),Fk (Vy l (.fn f') args)
 |[],_,_,_,_,h=>by cases h
 |(f,a,v)::r,args,σ,σ',u,h=>by
  simp only[Vy]at h⊢
  split at h
  ·grind
  ·rename_i he
   obtain⟨h1,h2⟩:=Afx r args σ σ' u h
   grind
theorem Alz{E:Env}{l:List (Nat×List AV×AV)}(hk:Aly E l):Bk E (Vy l):=
 ⟨fun _=>An4 hk,fun a C w σ args vs v σ' hs hg ha h=>(by rw[Avs]at h;cases h),fun f _ args=>Afx l args⟩
theorem An5{f:Nat}{a:List AV}{v:AV}{s:Sto}{r:List (Nat×List AV×AV)}:Vy ((f,a,v)::r) (.fn f) a s=some (v,s):=by
 simp only[Vy,and_self,if_true]
theorem Avt{f f':Nat}{a a':List AV}{v:AV}{s:Sto}{r:List (Nat×List AV×AV)}{o:Option (AV×Sto)}(h:f'≠f)(k:Vy r (.fn f') a' s=o):Vy ((f,a,v)::r) (.fn f') a' s=o:=by
 simp only[Vy];grind
theorem Akg{E:Env}{ρ:Ad}{σ:Sto}{l:List (Nat×List AV×AV)}{f:Operand}{args:Array Operand}{tys:Array Nat}{k:Nat}{first cap vs:List AV}{v:AV}{σ':Sto}(hf:Ah E ρ f=some (.fn (.func k) first cap))(ha:Kc E ρ args.toList=some vs)
  (hr:Vy l (.fn k) (first++vs++cap) σ=some (v,σ')):As E (Vy l) (.call ⟨.value f,args,tys⟩) ρ σ v σ':=Ami hf ha rfl hr
def fewR(r:Rs):Bool:=decide (Int.ofNat r.equal.length<=(60:Int))&&decide (Int.ofNat r.bound.length<=(60:Int))
theorem f9w(r:Rs)(σ:Sto):Cv 9 [.agg (eRs r)] σ (.bool (fewR r)):=by
 refine Aj Tryz.func9 rfl rfl fun hw hu0=>?_
 refine G10 ?_;refine O1 (Hn (q:=60) okC rfl rfl) ?_;refine G ?_;refine Hq 4 _ (decide (Int.ofNat r.bound.length<=(60:Int))) rfl rfl rfl rfl rfl (Eh rfl) (fun hg=>?_) (fun hg=>?_) ?_
 ·refine Bi rfl rfl rfl rfl (by first|rfl|(rw[hg];rfl)) noR rfl rfl (Ae fdC rfl rfl) ?_
  refine Bi rfl rfl rfl rfl (by first|rfl|(rw[hg];rfl)) noR rfl rfl (Ac ldC rfl rfl rfl) ?_
  refine Bi rfl rfl rfl rfl (by first|rfl|(rw[hg];rfl)) noR rfl rfl (Jl slC rfl) ?_
  refine Bi rfl rfl rfl rfl (by first|rfl|(rw[hg];rfl)) noR rfl rfl (Hn (q:=60) okC rfl rfl) ?_
  refine G ?_;refine⟨rfl,?_,?_⟩
  ·exact sb
  ·exact rfl
 ·iterate 4 refine Of hg ?_
  refine G ?_;exact⟨rfl,sb⟩
 refine G3 ?_;exact⟨_,rfl,_,_,a_ hw nl (fun _ _=>rfl),nl,.same rfl,rfl,rfl⟩
theorem f3{d:Db}{r:Rs}(hH:W6 d 25 100=true->DbB d/\d.vars.length+d.frames.length<1000000/\(Kh d r=0->DOk d r))(hA:∀σ,Cv 10 [] σ (.bool true))(σ:Sto):
  Cv 3 [dbV d,.agg (eRs r)] σ (.bool true):=by
 refine Aj Tryz.func3 rfl rfl fun hw hu0=>?_
 refine G10 ?_
 refine Ca (f9 d 25 100 _ (by decide) (by decide)) ?_
 refine G2 ?_;refine Qh 3 _ (!fewR r) rfl rfl rfl rfl rfl (Eh rfl) (fun hg=>?_) (fun hg=>?_) ?_
 ·refine Bi rfl rfl rfl rfl (by first|rfl|(rw[hg];rfl)) noR rfl rfl (Ac ldC rfl rfl rfl) ?_
  refine Bh rfl rfl rfl (by first|rfl|(rw[hg];rfl)) rfl rfl rfl rfl (f9w r _) ?_
  refine Bi rfl rfl rfl rfl (by first|rfl|(rw[hg];rfl)) noR rfl rfl (Dc rfl) ?_
  refine G ?_;refine⟨rfl,?_,?_⟩
  ·exact sb
  ·exact rfl
 ·iterate 3 refine Of hg ?_
  refine G ?_;exact⟨rfl,sb⟩
 refine G ?_;refine Ab rfl ?_ ?_<;>intro h1
 ·refine G2 ?_;refine Ca (hA _) ?_;refine G3 ?_;exact⟨_,rfl,_,_,a_ hw nl (fun _ _=>rfl),nl,.same rfl,rfl,rfl⟩
 ·obtain⟨hD,hvf,hH⟩:DbB d/\d.vars.length+d.frames.length<1000000/\(Kh d r=0->DOk d r):=gr;have hfn:=hD.n;refine G2 ?_;refine XX 1 (l:=[(12,[.agg (eRs r)],σ,.agg (eRs r),σ),(11,[dbV d,.agg (eRs r)],σ,.tup [slV eNn 1 (Ac0 d r).1,iV (Ac0 d r).2],σ)]) ⟨f12 r σ,f11 hD hvf hH σ,trivial⟩ ?_;refine G3 ?_
  refine DT (Bq rfl rfl (Dw (by decide) Bv)) ?_
  refine G6 ?_
  refine⟨(by intro e he;simp at he;rcases he with rfl|rfl<;>exact .refl),?_⟩
  refine G6 ?_;refine Ab rfl ?_ ?_<;>intro h2
  ·refine G2 ?_;refine Ca (hA _) ?_;refine G3 ?_;exact⟨_,rfl,_,_,a_ hw nl (fun _ _=>rfl),nl,.same rfl,rfl,rfl⟩
  ·have ho:Kh d r=0:=by
    have h2:(Ac0 d r).2=0:=gr;refine Classical.byContradiction fun q=>?_
    rw[show Ac0 d r=([],Kh d r)from if_pos q]at h2
    exact q h2
   have H:=hH ho;have heq:=(Tx H.op).1;rw[show Ac0 d r=((Ip d r).map (·.1),0)from if_neg (fun q=>q ho)]
   obtain⟨l,hl⟩:∃l,(Ip d r).map (·.1)=l:=⟨_,rfl⟩;have hll:l.length=(Ip d r).length:=gr
   have hlN:(Ip d r).length<=1000000:=by
    have:(Ip d r).length<=(List.range d.frames.length).length:=List.length_filterMap_le _ _
    grind
   iterate 13 refine G ?_
   rw[hl];refine Ci (fun q:Nat×AV=>[(2,.pv [Af d.consts,Af d.vars,slV eF 8 d.frames]),(3,.pv (eRs r)),(7,q.2),(34,slV eNn 1 l),(35,nV l.length),(36,nV q.1)]) (fun q σ0=>q.1<=l.length/\Own σ0 (nx σ) e1 1 (((Ip d r).take q.1).map (·.2.label)) q.2/\nx σ<=nx σ0/\∀b,b<nx σ->σ0.get b=σ.get b) (fun q=>l.length-q.1) (0,nS) SL ⟨aq_ _,.nil,nl,fun _ _=>rfl⟩ ?_
   rintro⟨k0,v0⟩ σ0 ⟨hk0,bf,n0,g0⟩;have hk0:k0<=l.length:=hk0;have bf:Own σ0 (nx σ) e1 1 (((Ip d r).take k0).map (·.2.label)) v0:=bf;have hol:(((Ip d r).take k0).map (·.2.label)).length<=1000000:=gr;refine G5 ?_;refine Ab rfl ?_ ?_<;>intro h3
   ·have bc:k0<l.length:=Int.ofNat_lt.1 (of_decide_eq_true h3)
    obtain⟨⟨i,x⟩,hix⟩:=Ar (show k0<(Ip d r).length by omega)
    have hi:l[k0]? =some i:=gr;obtain⟨hin,hch⟩:=Ake (ab_ hix);have hN:=Axz heq hch;have hKx:=(Acy heq hN.p).1
    obtain⟨lr,kr,hrt⟩:∃lr kr,x.right=.node lr kr:=by cases x.right;grind
    have hE:eDf x=[sV x.label,Af x.args,Af x.dummies,sV lr,slV eT 2 kr]:=by unfold eDf;rw[hrt,Cl];rfl
    have r7:∀σ,Cv 13 [dbV d,.agg (eRs r),nV i] σ (.tup [.agg [sV x.label,Af x.args,Af x.dummies,sV lr,slV eT 2 kr],iV 0]):=fun σ=>by
     have:=f13 H hin σ
     rwa[hN.p,hE]at this
    have r8:∀σ,Cv 14 [.agg [sV lr,slV eT 2 kr],sV x.label] σ (.bool false):=fun σ=>by
     have:=f14 hKx x.label σ
     rwa[hN.c,hrt,Cg]at this
    have sc:Ki (((Ip d r).take k0).map (·.2.label)) x.label=false:=by
     refine dv_.2 fun s hs=>?_
     obtain⟨⟨j,y⟩,hjy,rfl⟩:=bt_.1 hs;obtain⟨n,hn⟩:=au_.1 hjy;have hnk:n<k0:=gr;rw[ea_,if_pos hnk]at hn;have hji:j<i:=Avr hnk hn hix;have:=(Ax1 heq (Ake (ab_ hn)).2 hch hji).1
     grind
    have hUx:∀N,AV.unds N [sV x.label,Af x.args,Af x.dummies,sV lr,slV eT 2 kr]=true:=fun N=>by
     have h1:AV.unds N [sV lr,slV eT 2 kr]=true:=by rw[←Cl];exact Es _
     have h2:AV.und N (Af x.args)=true:=A2 D9 _;have h3:AV.und N (Af x.dummies)=true:=A2 D9 _;simp only[AV.unds,h2,h3]at h1⊢
     simp at h1⊢;exact⟨rfl,h1⟩
    refine G9 ?_;refine Gz 10 z5 [sV x.label,Af x.args,Af x.dummies,sV lr,slV eT 2 kr] [(11,iV 0)] (hUx _) rfl (fun hw0=>?_) ?_
    ·refine T_ED ?_;refine Amt 1 (anns:=[aR 0 1,aR 0 1,aP 0 1,aP 0 1,aP 0 1,aP 0 1,aP 0 1,aP 0 2,aE 0 1,aE 1 2,aP 2 2]) Di (Alz (l:=[(12,[.agg (eRs r)],.agg (eRs r)),(13,[dbV d,.agg (eRs r),nV i],.tup [.agg [sV x.label,Af x.args,Af x.dummies,sV lr,slV eT 2 kr],iV 0])]) ⟨fun σ=>f12 r σ,fun σ=>r7 σ,trivial⟩) Kr Kr ?_
     refine DF (Ac ldC rfl rfl rfl) (DF (Ac ldC rfl rfl rfl) (DF (Akg rfl rfl An5) (DF (Ag rfl) (DF (Akg rfl rfl (Avt (by decide) An5)) ?_))))
     refine DF (Ag rfl) (DF (S7 rfl rfl) (DF (S7 rfl rfl) (DT (Bu ziC) (DT (G1 (cs:=z5) (cs':=[sV x.label,Af x.args,Af x.dummies,sV lr,slV eT 2 kr]) gr ldC rfl rfl rfl rfl) ?_))));refine DF (Gd rfl) (C1 ?_)
     exact⟨(by intro e he;simp at he;rcases he with rfl|rfl<;>first|exact .refl|exact K4 hw0),⟨rfl,trivial⟩,sb,rfl,rfl⟩
    refine G6 ?_;refine Qh 5 _ false rfl rfl rfl rfl rfl (Eh rfl) (fun hg=>?_) gr ?_
    ·refine Bi rfl rfl rfl rfl (by first|rfl|(rw[hg];rfl)) noR rfl rfl (Ae fdC rfl rfl) ?_
     refine Bi rfl rfl rfl rfl (by first|rfl|(rw[hg];rfl)) noR rfl rfl (Ac ldC rfl rfl rfl) ?_
     refine Bi rfl rfl rfl rfl (by first|rfl|(rw[hg];rfl)) noR rfl rfl (Ae fdC rfl rfl) ?_
     refine Bi rfl rfl rfl rfl (by first|rfl|(rw[hg];rfl)) noR rfl rfl (Ac ldC rfl rfl rfl) ?_
     refine Bh rfl rfl rfl (by first|rfl|(rw[hg];rfl)) rfl rfl rfl rfl (r8 _) ?_
     refine G ?_;refine⟨rfl,?_,?_⟩
     ·exact sb
     ·exact rfl
    refine G ?_;refine Qh 4 _ false rfl rfl rfl rfl rfl (Eh rfl) (fun hg=>?_) gr ?_
    ·refine Bi rfl rfl rfl rfl (by first|rfl|(rw[hg];rfl)) noR rfl rfl (Ag rfl) ?_
     refine Bi rfl rfl rfl rfl (by first|rfl|(rw[hg];rfl)) noR rfl rfl (Ae fdC rfl rfl) ?_
     refine Bi rfl rfl rfl rfl (by first|rfl|(rw[hg];rfl)) noR rfl rfl (Ac ldC rfl rfl rfl) ?_
     refine Bh rfl rfl rfl (by first|rfl|(rw[hg];rfl)) rfl rfl rfl rfl (f15o (s:=x.label) bf hol) ?_
     refine G ?_;refine⟨rfl,?_,?_⟩
     ·exact sb
     ·exact congrArg (fun b=>some (AV.bool b)) sc
    refine G ?_;refine Ab rfl gr (fun h4=>?_)
    refine G ?_
    obtain⟨σ1,hap,n1,cn,g1⟩:=dn_ (enc:=e1) (sz:=1) (by':=16) (fun _=>rfl) n0 bf x.label (by simp only[sizeLim];omega)
    have htk:((Ip d r).take (k0+1)).map (·.2.label)=((Ip d r).take k0).map (·.2.label)++[x.label]:=by rw[List.take_add_one,hix];simp
    obtain⟨kf,hkf,hfi⟩:=hN.k
    have oo:=f16 (fun f:Fr=>decide (f.label=x.label)) d.frames 17 [.pv [sV x.label,Af x.args,Af x.dummies,sV lr,slV eT 2 kr]] σ1 Om (fun a _=>by have:=f17 a x σ1;grind)
    rw[hfi]at oo;refine G5 ?_;refine Cx (Ai elC byW rfl rfl rfl) (Dv (len:=1)) rfl rfl (O1 (Av elC rfl slC rfl rfl rfl (new:=e1 x.label) rfl hap) ?_);refine G8 ?_;refine Ca oo ?_;refine G7 ?_;refine Qh 3 _ false rfl rfl rfl rfl rfl (Eh rfl) (fun hg=>?_) (fun hg=>?_) ?_
    ·refine Bi rfl rfl rfl rfl (by first|rfl|(rw[hg];rfl)) noR rfl rfl (Ag rfl) ?_
     refine Bi rfl rfl rfl rfl (by first|rfl|(rw[hg];rfl)) noR rfl rfl (Ag rfl) ?_
     refine Bi rfl rfl rfl rfl (by first|rfl|(rw[hg];rfl)) noR rfl rfl (Agq okC rfl rfl) ?_
     refine G ?_;refine⟨rfl,?_,?_⟩
     ·exact sb
     ·exact congrArg (fun b=>some (AV.bool b)) (decide_eq_false (fun q=>absurd (bm_.1 q) Om))
    ·grind
    refine G ?_;refine Ab rfl ?_ ?_<;>intro h5
    ·grind
    refine G6 ?_;refine O1 (Aka (n:=i) elC (fun _=>rfl) rfl rfl Om) ?_
    refine G3 ?_;obtain⟨fs,hfs⟩:∃fs,d.frames.take i=fs:=⟨_,rfl⟩;have hfsl:fs.length<=1000000:=gr;rw[hfs];refine G ?_;refine Ci (fun q:Nat=>[(2,.pv [Af d.consts,Af d.vars,slV eF 8 d.frames]),(3,.pv (eRs r)),(7,.sr (nx σ0) 0 1 ((((Ip d r).take k0).map (·.2.label)).length+1) none),(10,.pv [sV x.label,Af x.args,Af x.dummies,sV lr,slV eT 2 kr]),(34,slV eNn 1 l),(35,nV l.length),(36,nV k0),(82,slV eF 8 fs),(83,nV fs.length),(84,nV q)]) (fun q σ2=>q<=fs.length/\σ2=σ1) (fun q=>fs.length-q) 0 SL ⟨aq_ _,rfl⟩ ?_
    rintro j0 σ2 ⟨hj0,rfl⟩;refine G5 ?_;refine Ab rfl ?_ ?_<;>intro h6
    ·have sd:j0<fs.length:=Int.ofNat_lt.1 (of_decide_eq_true h6);obtain⟨f,hf⟩:=Ar sd;have hfm:f∈d.frames.take i:=gr;have hfd:=cm_ hfm
     have hT:∀t∈asL d (f.text::txE f.hyps),KB t/\Hk t x.label=false:=fun t ht=>by
      refine⟨?_,hN.a f hfm t ht⟩;obtain⟨l',_,he'⟩:=An3 (f:=f) ht;exact(Q3 he').2.1
     have hal:(asL d (f.text::txE f.hyps)).length<=1000002:=by
      have h1:(asL d (f.text::txE f.hyps)).length<=(f.text::txE f.hyps).length:=List.length_filterMap_le _ _
      have h2:(txE f.hyps).length<=f.hyps.length:=by unfold txE;grind
      have:=(hD.f f hfd).h
      grind
     have o5:=f18 (fun t=>Hk t x.label) (asL d (f.text::txE f.hyps)) 20 [.pv [sV x.label,Af x.args,Af x.dummies,sV lr,slV eT 2 kr]] σ2 Om (fun a ha=>by have:=f20 (hT a ha).1 x σ2;grind)
     rw[show(asL d (f.text::txE f.hyps)).any (fun t=>Hk t x.label)=false from dv_.2 gr]at o5
     have sf:=f19 hD hvf f (by have:=(hD.f f hfd).h;omega) (fun l' hl'=>by
      have hok:=H.ok f hfd
      rcases an_.1 hl' with rfl|hl'
      ·have:=hok.1.1;omega
      ·obtain⟨h',hm',rfl⟩:=bt_.1 hl';have:=(hok.2 h' (cp_.1 hm').1).1;omega) σ2
     iterate 13 refine G ?_
     refine Ca sf ?_;refine G ?_;refine Ca o5 ?_;refine G ?_;refine Ab rfl gr (fun h7=>?_)
     refine G5 ?_;exact⟨j0+1,gr,SL,gr,rfl⟩
    ·refine G5 ?_
     exact⟨(k0+1,.sr (nx σ0) 0 1 ((((Ip d r).take k0).map (·.2.label)).length+1) none),gr,SL,gr,gr,by omega,fun b hb=>(g1 b Om (fun e=>by have:=(bf.adr_lt e).1;omega)).trans (g0 b hb)⟩
   ·refine G3 ?_;refine Ca (hA _) ?_;refine G3 ?_;exact⟨_,rfl,_,σ,am_ hw ⟨n0,g0⟩,nl,.same rfl,rfl,rfl⟩
theorem An6{hy:SM Hp}:∀{l:List Str} {g g':Gr},Kw hy l g=some g'->(∀r∈g.rules,0<r.parts.length)->∀r∈g'.rules,0<r.parts.length
 |[],g,g',h,h1=>by cases h;exact h1
 |v::l,g,g',h,h1=>by
  unfold Kw at h
  split at h
  ·cases h
  ·split at h
   ·cases h
   ·refine An6 h (fun r hr=>?_)
    rcases bb_.1 hr with q|q
    ·exact h1 r q
    grind
theorem Ax3(d:Db):Pne d:=fun s hs=>by
 unfold vrD at hs;rw[ad_]at hs;obtain⟨h1,h2⟩:=hs;unfold rlB at h1;obtain⟨r,hr⟩:=bg_.1 h1
 have hrd:rlD d s=r:=by unfold rlD;rw[hr];rfl
 rw[hrd]at h2⊢
 have hm:r∈(ofF d).1.rules:=by
  rcases L9 (l:=(ofF d).1.rules) (s:=s)with⟨_,hro⟩|⟨n,rl,_,hat,hro⟩
  ·grind
  grind
 unfold ofF at hm
 split at hm
 ·cases hm
 ·split at hm
  ·cases hm
  ·rename_i g hg
   have hv:=An6 hg (fun r hr=>by cases hr)
   split at hm
   ·cases hm
   ·rename_i g' hg'
    split at hm
    ·cases hm
    ·rcases(O7 hg').2 r hm with q|⟨f,_,q2,_⟩
     ·exact hv r q
     ·rw[Acg q2]at h2;cases h2
def KSy(k:Kn):Prop:=∀s,k.isSym s=true->L8 s=true
theorem Ahq:∀(l:List Str) (k:Kn),KSy k->KSy (Qp l k).2
 |[],_,h=>h
 |c::r,k,h=>by
  unfold Qp;cases hs:L8 c with
  |false=>exact h
  |true=>
   cases hk:k.consts.has c with
   |true=>exact h
   |false=>
    refine Ahq r _ fun s hq=>?_
    have hq:((k.consts.put c true).has s||k.vars.has s)=true:=hq
    rw[fo_,bk_,bk_,decide_eq_true_eq]at hq
    rcases hq with(rfl|hq)|hq
    ·exact hs
    ·exact h s (by unfold Kn.isSym;rw[hq];rfl)
    ·exact h s (by unfold Kn.isSym;grind)
theorem An7:∀(l:List Str) (k:Kn),KSy k->KSy (Sf l k).2
 |[],_,h=>h
 |c::r,k,h=>by
  unfold Sf;cases hs:L8 c with
  |false=>exact h
  |true=>
   cases hk:k.isSym c with
   |true=>exact h
   |false=>
    refine An7 r _ fun s hq=>?_
    have hq:(k.consts.has s||(k.vars.put c true).has s)=true:=hq
    rw[fo_,bk_,bk_,decide_eq_true_eq]at hq
    rcases hq with hq|rfl|hq
    ·exact h s (by unfold Kn.isSym;rw[hq];rfl)
    ·exact hs
    ·exact h s (by unfold Kn.isSym;grind)
theorem Avu(d:Db):KSy (K8 d kn0).2:=by
 have h0:KSy kn0:=fun s h=>by cases h
 unfold K8
 split
 ·exact An7 _ _ (Ahq _ _ h0)
 ·exact Ahq _ _ h0
theorem Afy{pw:Str->Bool}:∀{fs:List Fr} {k:Kn} {be:List Hp},I3 pw fs k be=0->KSy k->∀f∈fs,∃k' be',KSy k'/\E9 pw k' f be'=0
 |[],_,_,_,_,f,hf=>by cases hf
 |g::r,k,be,h,hk,f,hf=>by
  unfold I3 at h
  split at h
  ·grind
  ·rename_i hc
   rcases an_.1 hf with rfl|hf
   ·grind
   ·exact Afy h (show KSy (knF k g)from hk) f hf
theorem An8{k:Kn}(hk:KSy k){l:List Str}(h:k.textF l=0):∀s∈l,L8 s=true:=by
 unfold Kn.textF at h
 split at h
 ·cases h
 ·split at h
  ·cases h
  ·rename_i h1 h2
   simp only[bk_,bi_,not_or,Bool.not_eq_false]at h2;cases l with
   |nil=>intro s hs;cases hs
   |cons a r=>
    intro s hs
    rcases an_.1 hs with rfl|hs
    ·exact hk _ (by have:=h2.1;unfold Kn.isSym;grind)
    ·have:=dv_.1 (Bool.not_eq_true _▸h2.2) s hs;exact hk _ gr
theorem An9{k:Kn}(hk:KSy k){nh:Nat}:∀{l:List Hp} {i:Nat} {lab:SM Bool} {ty:SM Str},(Jd k nh l i lab ty).1=0->∀h∈l,∀s∈h.text,L8 s=true
 |[],_,_,_,_,h,hh=>by cases hh
 |g::r,i,lab,ty,h0,h,hh=>by
  unfold Jd at h0
  split at h0
  ·grind
  ·rename_i hc
   have hz:Vg k lab ty g (decide (Int.ofNat nh<=Int.ofNat i))=0:=gr
   rcases an_.1 hh with rfl|hh
   ·cases hf:h.floating with
    |true=>
     obtain⟨a,b,hab⟩:=Ab7 hz hf;unfold Vg at hz
     split at hz
     ·cases hz
     ·split at hz
      ·cases hz
      ·try rw[if_pos hf]at hz
       split at hz
       ·cases hz
       ·rename_i h3
        rw[hab]at h3⊢;simp only[bk_,bi_,not_or,Bool.not_eq_false]at h3;intro s hs
        rcases an_.1 hs with rfl|hs
        ·exact hk _ (by unfold Kn.isSym;grind)
        ·rw[ao_.1 hs]
         exact hk _ (by unfold Kn.isSym;grind)
    |false=>
     unfold Vg at hz
     split at hz
     ·cases hz
     ·split at hz
      ·cases hz
      ·try rw[if_neg gr]at hz
       split at hz
       ·grind
       ·rename_i hc2;exact An8 hk gr
   ·exact An9 hk h0 h hh
theorem Atj{s:Str}(h:L8 s=true):s.length<=140737488355328/\(32:UInt8)∉s:=by
 unfold L8 Mq at h;simp only[ad_,bi_,bv_,decide_eq_false_iff_not,bu_]at h;refine⟨gr,fun hm=>?_⟩
 have:=b_.1 h.2 _ hm
 exact absurd (show okB [2,3] 32=true from this) (by rw[show okB [2,3] 32=false from by kernel_rfl];decide)
theorem Ac1{d:Db}(hs:W6 d 25 100=true):DbB d/\d.vars.length+d.frames.length<1000000/\∀f∈d.frames,f.text.length<=60/\f.apart.length<=200/\∀h∈f.hyps,h.text.length<=60:=by
 unfold W6 at hs;simp only[ad_,decide_eq_true_eq,bu_,bi_]at hs;obtain⟨⟨⟨h1,h2⟩,h3⟩,h4⟩:=hs
 have key:∀f∈d.frames,f.text.length<=60/\f.apart.length<=200/\FrB f/\∀h∈f.hyps,h.text.length<=60:=fun f hf=>by
  have hf:=dv_.1 h4 f hf;simp only[bigF,bk_,decide_eq_true_eq,bu_,e_,not_or,not_exists,not_and]at hf;obtain⟨⟨⟨⟨⟨⟨⟨⟨k1,k2⟩,k3⟩,k4⟩,k5⟩,k6⟩,k7⟩,k8⟩,k9⟩:=hf
  have hl:∀h,X9 h=false->h.text.length<=60:=fun h hh=>by
   unfold X9 at hh
   grind
  refine⟨by omega,by omega,⟨by omega,by unfold Fr.all;simp;omega,by omega,fun h hh=>?_,by omega,by omega⟩,fun h hh=>hl h gr⟩
  have:X9 h=false:=by
   rcases bb_.1 (show h∈f.hyps++f.dummies by simpa[Fr.all]using hh)with hh|hh
   ·grind
   grind
  grind
 exact⟨⟨fun f hf=>(key f hf).2.2.1,by omega,by omega,by omega⟩,by omega,fun f hf=>⟨(key f hf).1,(key f hf).2.1,(key f hf).2.2.2⟩⟩
theorem Atk{d:Db}{r:Rs}(hs:W6 d 25 100=true)(ho:Kh d r=0):DOk d r:=by
 obtain⟨h1,h2,h3⟩:=Ac1 hs
 have hfl:Ea d=0:=by
  have h:=(Tx ho).2.1;unfold ofF at h
  grind
 have hc:=(Afj hfl).1;refine⟨h1,h2,fun f hf=>?_,Ax3 d,ho,gr⟩
 obtain⟨k,be,hk,hfe⟩:=Afy (Ab9 hc) (Avu d) f hf;have hk':KSy (k.fr f.label):=hk
 have ht:(k.fr f.label).textF f.text=0:=by
  unfold E9 at hfe
  grind
 refine⟨⟨(h3 f hf).1,fun s hs=>Atj (An8 hk' ht s hs)⟩,fun h hh=>⟨(h3 f hf).2.2 h hh,fun s hs=>Atj (An9 hk' (Ai7 hfe) h (by simp[Fr.all,hh]) s hs)⟩⟩
def fzL(f:AV->AV->Bool):List AV->List AV->Bool
 |[],[]=>true
 |x::r,y::s=>f x y&&fzL f r s
 |_,_=>false
theorem Ahr{σ τ:Sto}{f:AV->AV->Bool}(hf:∀a b,f a b=true->Fz σ τ a b):∀(l m:List AV),fzL f l m=true->FzL σ τ l m
 |[],[],_=>.nil
 |x::r,y::s,h=>by
  simp only[fzL,ad_]at h;exact .cons (hf x y h.1) (Ahr hf r s h.2)
 |[],_::_,h=>by cases h
 |_::_,[],h=>by cases h
def dS:Db:=⟨[[119,102,102],[124,45],[40],[41],[45,62],[45,46],[60,45,62],[111,114]],[[112,104],[112,115]],[⟨[119,110],false,[⟨[119,112,104],true,[[119,102,102],[112,104]]⟩],[],[[119,102,102],[45,46],[112,104]],[⟨[119,112,115],true,[[119,102,102],[112,115]]⟩],[],[]⟩,
 ⟨[119,105],false,[⟨[119,112,104],true,[[119,102,102],[112,104]]⟩,⟨[119,112,115],true,[[119,102,102],[112,115]]⟩],[],[[119,102,102],[40],[112,104],[45,62],[112,115],[41]],[],[],[]⟩,
 ⟨[119,98],false,[⟨[119,112,104],true,[[119,102,102],[112,104]]⟩,⟨[119,112,115],true,[[119,102,102],[112,115]]⟩],[],[[119,102,102],[40],[112,104],[60,45,62],[112,115],[41]],[],[],[]⟩,
 ⟨[119,111],false,[⟨[119,112,104],true,[[119,102,102],[112,104]]⟩,⟨[119,112,115],true,[[119,102,102],[112,115]]⟩],[],[[119,102,102],[40],[112,104],[111,114],[112,115],[41]],[],[],[]⟩,
 ⟨[98,105,105,100],false,[⟨[119,112,104],true,[[119,102,102],[112,104]]⟩],[],[[124,45],[40],[112,104],[60,45,62],[112,104],[41]],[⟨[119,112,115],true,[[119,102,102],[112,115]]⟩],[],[]⟩,
 ⟨[100,102,45,111,114],false,[⟨[119,112,104],true,[[119,102,102],[112,104]]⟩,⟨[119,112,115],true,[[119,102,102],[112,115]]⟩],[],[[124,45],[40],[40],[112,104],[111,114],[112,115],[41],[60,45,62],[40],[45,46],[112,104],[45,62],[112,115],[41],[41]],[],[],[]⟩]⟩
def rS:Rs:=⟨[[119,98]],[]⟩
def rsS:List Rl:=[⟨[119,112,104],[119,102,102],[⟨[112,104],[],0⟩],true⟩,
 ⟨[119,112,115],[119,102,102],[⟨[112,115],[],0⟩],true⟩,
 ⟨[119,110],[119,102,102],[⟨[45,46],[],0⟩,⟨[],[119,102,102],0⟩],false⟩,
 ⟨[119,105],[119,102,102],[⟨[40],[],0⟩,⟨[],[119,102,102],0⟩,⟨[45,62],[],0⟩,⟨[],[119,102,102],1⟩,⟨[41],[],0⟩],false⟩,
 ⟨[119,98],[119,102,102],[⟨[40],[],0⟩,⟨[],[119,102,102],0⟩,⟨[60,45,62],[],0⟩,⟨[],[119,102,102],1⟩,⟨[41],[],0⟩],false⟩,
 ⟨[119,111],[119,102,102],[⟨[40],[],0⟩,⟨[],[119,102,102],0⟩,⟨[111,114],[],0⟩,⟨[],[119,102,102],1⟩,⟨[41],[],0⟩],false⟩]
def gS:Gr:=⟨[[119,102,102]],rsS⟩
theorem Atl{l:List Int}(h:l.Pairwise fun x y=>decide (x<=y)=true):Ei l=l:=List.mergeSort_of_pairwise h
theorem vS:∀r∈rsS,Hr gS r=true:=by
 intro r hr
 have hp:(D1 r).Pairwise fun x y=>decide (x<=y)=true:=by revert r;decide+kernel
 unfold Hr;rw[Atl hp];clear hp
 revert r
 decide+kernel
theorem Akh{g:Gr}:∀{l:List Rl} {m:SM Bool},(∀r∈l,Hr g r=true)->(l.foldr (fun r (k:SM Bool->Bool) m=> !m.has r.label&&k (m.put r.label true)) (fun _=>true)) m=true->Pe g l m=false
 |[],_,_,_=>rfl
 |r::l,m,h,h2=>by
  simp only[List.foldr_cons,ad_,bi_]at h2;unfold Pe
  rw[h r (by simp),h2.1,Akh (fun x hx=>h x (aj_ _ hx)) h2.2];rfl
theorem Awq:Eb gS=0:=by
 unfold Eb
 rw[if_neg (by decide+kernel),if_neg (by decide+kernel),show Pe gS gS.rules []=false from Akh vS (by decide+kernel)];rfl
theorem Avv:Ea dS=0:=Kr
theorem varsS:Kw (Il (Bt dS) []) dS.vars zG=some ⟨[[119,102,102]],rsS.take 2⟩:=Kr
theorem Avw:F6 dS.frames ⟨[[119,102,102]],rsS.take 2⟩=some gS:=Kr
theorem ofS:ofF dS=(gS,0):=by
 unfold ofF
 rw[if_neg (by rw[Avv];decide),varsS]
 simp only;rw[Avw];simp only
 rw[if_neg (by rw[Awq];decide)]
theorem Ax4:W6 dS 25 100=true:=Kr
def vph:Ax:=.node [119,112,104] []
def vps:Ax:=.node [119,112,115] []
def t4:Ax:=.node [119,98] [vph,vph]
def t5r:Ax:=.node [119,105] [.node [119,110] [vph],vps]
def t5:Ax:=.node [119,98] [.node [119,111] [vph,vps],t5r]
def zFr:Fr:=⟨[],false,[],[],[],[],[],[]⟩
def prsS(l:List Str):Ax×Int:=match l with
 |[]=>(Ek,2)
 |t::text=>if D7 t∉gS.sorts then(Ek,11)else match(if D7 t∉gS.sorts then((none,5):Option (List Nde)×Int)else if text.length>200 then(none,4)else
   if(Ej gS (D7 t) text).sets.length<=text.length∨(D7 t,0,text.length)∉(Ej gS (D7 t) text).done then(none,160)else
   match Im gS (Ej gS (D7 t) text).done text (D7 t,0,text.length)with
   |none=>(none,15)
   |some F=>(some F,0))with
  |(none,e)=>(Ek,if e=160 then 190 else e)
  |(some F,_)=>Mu gS F
theorem Aoa(l:List Str):B1 dS l=prsS l:=by
 unfold B1 prsS
 rw[ofS,if_neg (by decide)]
 cases l with
 |nil=>rfl
 |cons t text=>
  have h:Fj gS (D7 t) text=(if D7 t∉gS.sorts then((none,5):Option (List Nde)×Int)else if text.length>200 then(none,4)else
   if(Ej gS (D7 t) text).sets.length<=text.length∨(D7 t,0,text.length)∉(Ej gS (D7 t) text).done then(none,160)else
   match Im gS (Ej gS (D7 t) text).done text (D7 t,0,text.length)with
   |none=>(none,15)
   |some F=>(some F,0)):=by
   unfold Fj
   rw[if_neg (by rw[Awq];decide)]
   rfl
  show(if D7 t∉gS.sorts then(Ek,(11:Int))else match Fj gS (D7 t) text with
   |(none,e)=>(Ek,if e=160 then 190 else e)
   |(some F,_)=>Mu gS F)=_
  rw[h]
theorem Atm:B1 dS (dS.frames[4]?.getD zFr).text=(t4,0):=by rw[Aoa];kernel_rfl
theorem Ax5:B1 dS (dS.frames[5]?.getD zFr).text=(t5,0):=by rw[Aoa];kernel_rfl
theorem rlS(s:Str):rlD dS s=(F4 rsS s).getD zRl/\rlB dS s=(F4 rsS s).isSome:=by unfold rlD rlB;rw[ofS];exact⟨rfl,rfl⟩
theorem vrS(s:Str):vrD dS s=((F4 rsS s).isSome&&((F4 rsS s).getD zRl).var):=by unfold vrD;rw[(rlS s).1,(rlS s).2]
theorem eqS(s:Str):eqD dS s=(((F4 rsS s).isSome&& !((F4 rsS s).getD zRl).var)&&Ap6 (Io ((F4 rsS s).getD zRl).parts)):=by unfold eqD;rw[(rlS s).1,(rlS s).2]
theorem opS:Kh dS rS=0:=by
 unfold Kh
 rw[ofS,if_neg (by decide),if_neg (by decide),show(rS.equal.any fun s=> !eqD dS s)=false by simp only[rS,dh_,List.any_nil,eqS];kernel_rfl]
 rfl
theorem Atn:DOk dS rS:=Atk Ax4 opS
def xS:Df:=⟨[119,111],[[119,112,104],[119,112,115]],[],t5r⟩
theorem Aob:Bb dS rS 5=(xS,0):=by
 have hT:=Ax5;unfold Bb;have hf:dS.frames[5]? =some (dS.frames[5]?.getD zFr):=Kr;rw[hf];simp only
 rw[if_neg (by decide+kernel),if_neg (by decide+kernel),hT,if_neg (by decide)]
 show Vw dS rS t5=_
 unfold Vw
 rw[if_neg (by decide+kernel)]
 show M7 dS (.node [119,111] [vph,vps]) t5r=_
 unfold M7
 rw[if_neg (by rw[vrS];decide+kernel)]
 have ha:Mc dS (Afu (.node [119,111] [vph,vps])) []=some [[119,112,104],[119,112,115]]:=by
  simp only[Afu,Mc,vrS]
  kernel_rfl
 rw[ha]
 have hd:Xh dS [[119,112,104],[119,112,115]] t5r=[]:=by
  simp only[Xh,t5r,Sh,Vu,vph,vps,bd_,bh_,ay_,ct_,List.foldl_nil,Sw,vrS]
  kernel_rfl
 show(({ label:=[119,111],args:=[[119,112,104],[119,112,115]],dummies:=Xh dS [[119,112,104],[119,112,115]] t5r,right:=t5r }:Df),(0:Int))=_
 rw[hd];rfl
theorem Avx:Ck dS rS 5=(xS,0):=by
 unfold Ck
 rw[Aob,if_neg (by decide)]
 have hu:I8 dS xS 5=false:=by
  unfold I8
  rw[show Vv (dS.frames.take 5)=[(dS.frames[4]?.getD zFr).text] by kernel_rfl,dh_,List.any_nil]
  unfold usF;rw[Atm]
  kernel_rfl
 rw[hu,if_neg (by decide),if_neg (by decide+kernel),if_neg (by decide+kernel)]
 have hf:dS.frames[5]? =some (dS.frames[5]?.getD zFr):=Kr;rw[hf];simp only
 rw[if_neg (by decide+kernel)]
theorem Aoc{i:Nat}(h:i<4):(Bb dS rS i).2=13:=by
 match i,h with
 |0,_=>show(Bb dS rS 0).2=13;kernel_rfl
 |1,_=>show(Bb dS rS 1).2=13;kernel_rfl
 |2,_=>show(Bb dS rS 2).2=13;kernel_rfl
 |3,_=>show(Bb dS rS 3).2=13;kernel_rfl
theorem Aod:(Bb dS rS 4).2=212:=by
 have hT:=Atm;unfold Bb;have hf:dS.frames[4]? =some (dS.frames[4]?.getD zFr):=Kr;rw[hf];simp only
 rw[if_neg (by decide+kernel),if_neg (by decide+kernel),hT,if_neg (by decide)]
 show(Vw dS rS t4).2=_
 unfold Vw
 rw[if_neg (by decide+kernel)]
 show(M7 dS vph vph).2=_
 unfold M7
 rw[if_pos (by rw[vrS];decide+kernel)]
theorem Aoe:(Ck dS rS 4).2=212:=by
 unfold Ck
 rw[if_pos (by rw[Aod];decide)]
 exact Aod
theorem allS:Ac0 dS rS=([5],0):=by
 unfold Ac0;rw[if_neg (fun q=>q opS)]
 have h0:∀i,i<4->(Ck dS rS i).2=13:=fun i h=>by
  unfold Ck
  rw[if_pos (by rw[Aoc h];decide)]
  exact Aoc h
 unfold Ip
 rw[show List.range dS.frames.length=[0,1,2,3,4,5] by kernel_rfl]
 simp only[List.filterMap_cons,List.filterMap_nil,h0 0 (by decide),h0 1 (by decide),h0 2 (by decide),h0 3 (by decide),Aoe,Avx]
 rfl
theorem f40(l m:List Nat)(σ:Sto)(hb:m.length<4611686018427387904):Cv 40 [slV eNn 1 l,slV eNn 1 m] σ (.bool (decide (l=m))):=by
 refine Aj Tryz.func40 rfl rfl fun hw hu0=>?_
 iterate 13 refine G ?_
 refine Ab rfl ?_ ?_<;>intro h1
 ·refine G5 ?_;refine B4 hw rfl ?_;exact congrArg AV.bool (decide_eq_false gr).symm
 ·have bl:l.length=m.length:=gr;refine G9 ?_;refine Bz l.length (fun i0=>[(0,slV eNn 1 l),(1,slV eNn 1 m),(12,iV (.ofNat l.length)),(13,iV (.ofNat i0))]) (fun i0 σ0=>σ0=σ/\l.take i0=m.take i0) SL ⟨rfl,rfl⟩ ?_
  rintro i0 σ0 hi0 ⟨rfl,hf0⟩;refine G5 ?_;refine Ab rfl ?_ ?_<;>intro h2
  ·have bc:i0<l.length:=gr;obtain⟨a0,ha0⟩:=Ar bc;have hd0:=A4 ha0
   obtain⟨b,hb0⟩:=Ar (show i0<m.length by omega)
   refine G9 ?_;refine X0 ?_;refine G10 ?_;refine⟨rfl,rfl,?_⟩;refine Ab rfl ?_ ?_<;>intro h3
   ·refine G5 ?_;refine B4 hw rfl ?_;exact congrArg AV.bool (decide_eq_false gr).symm
   ·refine G5 ?_
    refine⟨bc,SL,rfl,(have h4:a0=b:=gr;by rw[Fw ha0,Fw hb0,hf0,h4])⟩
  ·have bj:l.length<=i0:=gr;refine G6 ?_;refine B4 hw rfl ?_;exact congrArg AV.bool (decide_eq_true gr).symm
def fzC:Nat->AV->AV->Bool
 |0,_,_=>false
 |n+1,.sv l sz len _,.sv l' sz' len' none=>Nat.beq sz sz'&&Nat.beq len len'&&fzL (fzC n) l l'
 |n+1,.agg l,.agg l'=>fzL (fzC n) l l'
 |n+1,.tup l,.tup l'=>fzL (fzC n) l l'
 |_+1,.nil (.slice none 0 0),.sv [] _ 0 none=>true
 |_+1,a,b=>AV.beq a b&&AV.und 0 b
theorem Ahs{σ τ:Sto}:∀(n:Nat) (a b:AV),fzC n a b=true->Fz σ τ a b
 |0,_,_,h=>by unfold fzC at h;cases h
 |n+1,a,b,h=>by
  unfold fzC at h
  split at h
  ·cases h
  ·simp only[ad_]at h;obtain⟨⟨h1,h2⟩,h3⟩:=h;have h1:=ac_ h1;have h2:=ac_ h2;subst h1 h2;exact .sv gr (Ahr (fun a b=>Ahs _ a b) _ _ h3)
  ·exact .agg (Ahr (fun a b=>Ahs _ a b) _ _ h)
  ·exact .tup (Ahr (fun a b=>Ahs _ a b) _ _ h)
  ·exact .nils gr
  ·simp only[ad_]at h;have:=AV.beq_eq _ _ h.1;subst this;exact .same (AV.und_mono (aq_ _) _ h.2)
theorem f100(a b:Str)(σ:Sto):Cv 100 [sV a,sV b] σ (.agg [sV a,.bool true,.sv [.str [119,102,102],sV b] 1 2 none]):=by
 refine Aj Tryz.func100 rfl rfl fun hw hu0=>?_
 refine G2 ?_;refine O1 (Bj (n:=nx σ) ziC rfl) ?_;refine G ?_;obtain⟨σ1,hσ1⟩:∃σ1,σ.new (.cells [.str [],.bool false,nS])=σ1:=⟨_,rfl⟩;rw[hσ1];have n1:nx σ1=nx σ+1:=gr;have g1:∀b,b<nx σ->σ1.get b=σ.get b:=gr;have r1:σ1.get (nx σ)=some (.cells [.str [],.bool false,nS]):=gr;refine G4 ?_;refine Cx (Ai elC byW rfl rfl rfl) (Dv (len:=2)) rfl rfl ?_;refine G ?_;refine O1 (sO (cs':=[sV a,.bool true,.sv [.str [119,102,102],sV b] 1 2 none]) r1) ?_;refine G2 ?_
 exact⟨[.agg [sV a,.bool true,.sv [.str [119,102,102],sV b] 1 2 none]],Am (vs:=[sV a,.bool true,.sv [.str [119,102,102],sV b] 1 2 none]) (ldC (t:=74)) rfl (by simp only[Sto.cells];rw[aa_,if_pos rfl]) rfl rfl,_,σ,am_ hw ⟨by rw[Aq];omega,fun b hb=>by rw[aa_,if_neg Om];exact g1 b hb⟩,nl,.same rfl,rfl,rfl⟩
theorem f48(σ:Sto):Cv 48 [] σ (.tup [dbV dS,.agg (eRs rS)]):=by
 refine Aj Tryz.func48 rfl rfl fun hw hu0=>?_
 refine G2 ?_;refine O1 (Bj (n:=nx σ) ziC rfl) (O1 (Bj (n:=nx σ+1) ziC (Ao _ _)) ?_);refine G ?_;obtain⟨σ1,hσ1⟩:∃σ1,(σ.new (.cells [nS,nS,nS])).new (.cells [nS,nS])=σ1:=⟨_,rfl⟩;rw[hσ1]
 have n1:nx σ1=nx σ+2:=by rw[←hσ1,Ao,Ao]
 have g1:∀b,b<nx σ->σ1.get b=σ.get b:=fun b hb=>by rw[←hσ1,ag_,Ao,if_neg Om,ag_,if_neg Om]
 have r1:σ1.get (nx σ)=some (.cells [nS,nS,nS]):=by rw[←hσ1,ag_,Ao,if_neg Om,ag_,if_pos rfl]
 have r2:σ1.get (nx σ+1)=some (.cells [nS,nS]):=by rw[←hσ1,ag_,Ao,if_pos rfl]
 refine G7 ?_;refine Ca (f100 [119,112,104] [112,104] _) ?_;refine G ?_;refine Ca (f100 [119,112,115] [112,115] _) ?_
 refine O1 (Bj (n:=nx σ1) ziC rfl) (O1 (Bj (n:=nx σ1+1) ziC (Ao _ _)) (O1 (G1 (cs:=[.str [],.bool false,nS]) (cs':=[.str [119,112,104],.bool true,.sv [.str [119,102,102],.str [112,104]] 1 2 none]) (by rw[ag_,Ao,if_neg Om,ag_,if_pos rfl]) ldC rfl rfl rfl rfl) ?_))
 refine O1 (G1 (cs:=[.str [],.bool false,nS]) (cs':=[.str [119,112,115],.bool true,.sv [.str [119,102,102],.str [112,115]] 1 2 none]) (by rw[aa_,if_neg Om,ag_,Ao,if_pos rfl]) ldC rfl rfl rfl rfl) ?_
 refine G ?_;obtain⟨σ2,hσ2⟩:∃σ2,(((σ1.new (.cells [.str [],.bool false,nS])).new (.cells [.str [],.bool false,nS])).set (nx σ1) (.cells [.str [119,112,104],.bool true,.sv [.str [119,102,102],.str [112,104]] 1 2 none])).set (nx σ1+1) (.cells [.str [119,112,115],.bool true,.sv [.str [119,102,102],.str [112,115]] 1 2 none])=σ2:=⟨_,rfl⟩;rw[hσ2]
 have n2:nx σ2=nx σ1+2:=by rw[←hσ2,Aq,Aq,Ao,Ao]
 have g2:∀b,b<nx σ1->σ2.get b=σ1.get b:=fun b hb=>by rw[←hσ2,aa_,if_neg Om,aa_,if_neg Om,ag_,Ao,if_neg Om,ag_,if_neg Om]
 have p3:σ2.get (nx σ1)=some (.cells [.str [119,112,104],.bool true,.sv [.str [119,102,102],.str [112,104]] 1 2 none]):=by rw[←hσ2,aa_,if_neg Om,aa_,if_pos rfl]
 have p4:σ2.get (nx σ1+1)=some (.cells [.str [119,112,115],.bool true,.sv [.str [119,102,102],.str [112,115]] 1 2 none]):=by rw[←hσ2,aa_,if_pos rfl]
 refine G2 ?_;refine O1 (lO p3) (O1 (lO p4) (O1 (Ai elC byW rfl rfl rfl) ?_));refine G4 ?_;refine O1 (Ai elC byW rfl rfl rfl) (O1 (Ai elC byW rfl rfl rfl) (O1 (lO p3) (O1 (Ai elC byW rfl rfl rfl) (O1 (lO p4) (O1 (Ai elC byW rfl rfl rfl) (O1 (Ai elC byW rfl rfl rfl) ?_))))));refine G2 ?_;refine O1 (Ai elC byW rfl rfl rfl) ?_;refine G2 ?_;refine O1 (Ai elC byW rfl rfl rfl) ?_;refine G2 ?_;refine O1 (Ai elC byW rfl rfl rfl) ?_;refine G ?_;refine O1 (lO p3) (O1 (Ai elC byW rfl rfl rfl) (O1 (lO p4) (O1 (Ai elC byW rfl rfl rfl) (O1 (Ai elC byW rfl rfl rfl) ?_))));refine G2 ?_;refine O1 (Ai elC byW rfl rfl rfl) ?_;refine G ?_;refine O1 (Ai elC byW rfl rfl rfl) ?_;refine G ?_;refine O1 (Ai elC byW rfl rfl rfl) ?_;refine G ?_;refine O1 (G1 (off:=0) ((g2 _ Om).trans r1) ldC rfl rfl rfl rfl) ?_
 refine O1 (G1 (off:=0) (by rw[aa_,if_neg Om];exact(g2 _ Om).trans r2) ldC rfl rfl rfl rfl) ?_
 refine G2 ?_
 refine⟨_,Am (ldC (t:=25)) rfl (by simp only[Sto.cells];rw[aa_,if_neg Om,aa_,if_pos rfl]) rfl (Am (ldC (t:=35)) rfl (by simp only[Sto.cells];rw[aa_,if_pos rfl]) rfl rfl),.tup [dbV dS,.agg (eRs rS)],σ,am_ hw ⟨by rw[Aq,Aq];omega,fun b hb=>by rw[aa_,if_neg Om,aa_,if_neg Om,g2 b Om];exact g1 b hb⟩,nl,Ahs 12 _ _ Kr,rfl,rfl⟩
theorem Ato{E:Env}{nt B:Nat}{df:List (Nat×List AV)}{ρ:Ad}{σ σ₁:Sto}{K:Ad->Sto->Prop}{ops r:List Oper}{o oj:Oper}{d:Nat}{v v':AV}{j dj:Nat}{b want:Bool}(h:As E (fun _ _ _=>none) o.op ρ σ v σ₁)(hw:Wk v v')(k:TO E nt df B ops r K ((d,v')::ρ) σ₁)
  (ho:o.dst=some d:=by exact rfl)(hg:o.guard=some (j,want):=by exact rfl)(hj:ops[j]? =some oj:=by exact rfl)(hdj:oj.dst=some dj:=by exact rfl)(hb:Ad.at ρ dj=some (.bool b):=by exact rfl)(hwt:cond b want (!want)=true:=by exact rfl)(hn:Ga o.op=true:=by exact rfl)(hd:B0 nt o.dst=true:=by exact rfl):TO E nt df B ops (o::r) K ρ σ:=
 Bi hg hj hdj hb hwt noR hn hd h (by rw[ho];exact Av3 hw k)
theorem f10a(σ:Sto):Cv 10 [] σ (.bool true):=by
 have hE:eDf xS=[sV [119,111],Af [[119,112,104],[119,112,115]],Af [],sV [119,105],slV eT 2 [.node [119,110] [vph],vps]]:=by unfold eDf xS t5r;rw[Cl];rfl
 have h13:∀σ,Cv 13 [.agg [Af dS.consts,Af dS.vars,slV eF 8 dS.frames],.agg (eRs rS),nV 5] σ (.tup [.agg [sV [119,111],Af [[119,112,104],[119,112,115]],Af [],sV [119,105],slV eT 2 [.node [119,110] [vph],vps]],iV 0]):=fun σ=>by
  have:=f13 Atn (i:=5) (by decide) σ
  rwa[Aob,hE]at this
 have h11:∀σ,Cv 11 [.agg [Af dS.consts,Af dS.vars,slV eF 8 dS.frames],.agg (eRs rS)] σ (.tup [slV eNn 1 [5],iV 0]):=fun σ=>by
  have:=f11 Atn.db Atn.vf (fun _=>Atn) σ
  rwa[allS]at this
 have h50:∀σ,Cv 50 [.agg [Af dS.consts,Af dS.vars,slV eF 8 dS.frames],.agg (eRs rS),nV 4] σ (iV 212):=fun σ=>by
  have:=f50 Atn (i:=4) (by decide) σ
  rwa[Aoe]at this
 have h49:∀σ,Cv 49 [Af [[119,112,104],[119,112,115]],Af [[119,112,104],[119,112,115]]] σ (.bool true):=fun σ=>by
  have:=f49 [[119,112,104],[119,112,115]] [[119,112,104],[119,112,115]] σ (by decide)
  grind
 have h40:∀σ,Cv 40 [slV eNn 1 [5],slV eNn 1 [5]] σ (.bool true):=fun σ=>by
  have:=f40 [5] [5] σ (by decide)
  grind
 refine Aj Tryz.func10 rfl rfl fun hw hu0=>?_
 refine G6 ?_;refine Ca (f48 _) ?_;refine G3 ?_
 refine O1 (Bj (n:=nx σ) ziC rfl) (O1 (Bj (n:=nx σ+1) ziC (Ao _ _)) (O1 (G1 (cs:=[nS,nS,nS]) (cs':=[Af dS.consts,Af dS.vars,slV eF 8 dS.frames]) (by rw[ag_,Ao,if_neg Om,ag_,if_pos rfl]) ldC rfl rfl rfl rfl) ?_))
 refine O1 (G1 (cs:=[nS,nS]) (cs':=eRs rS) (by rw[aa_,if_neg Om,ag_,Ao,if_pos rfl]) ldC rfl rfl rfl rfl) ?_
 refine G ?_;obtain⟨σ1,hσ1⟩:∃σ1,(((σ.new (.cells [nS,nS,nS])).new (.cells [nS,nS])).set (nx σ) (.cells [Af dS.consts,Af dS.vars,slV eF 8 dS.frames])).set (nx σ+1) (.cells (eRs rS))=σ1:=⟨_,rfl⟩;rw[hσ1]
 have n1:nx σ1=nx σ+2:=by rw[←hσ1,Aq,Aq,Ao,Ao]
 have g1:∀b,b<nx σ->σ1.get b=σ.get b:=fun b hb=>by rw[←hσ1,aa_,if_neg Om,aa_,if_neg Om,ag_,Ao,if_neg Om,ag_,if_neg Om]
 have p1:σ1.get (nx σ)=some (.cells [Af dS.consts,Af dS.vars,slV eF 8 dS.frames]):=by rw[←hσ1,aa_,if_neg Om,aa_,if_pos rfl]
 have p2:σ1.get (nx σ+1)=some (.cells (eRs rS)):=by rw[←hσ1,aa_,if_pos rfl]
 refine G2 ?_;refine O1 (lO p1) (O1 (lO p2) ?_);refine Ca (h13 _) ?_;refine G8 ?_;refine O1 (lO p1) (O1 (lO p2) ?_);refine Ca (h11 _) ?_;refine G11 ?_;refine Bi rfl rfl rfl rfl rfl noR rfl rfl (Ag rfl) (Bi rfl rfl rfl rfl rfl noR rfl rfl (H4 (q:=0) okC rfl rfl) (O1 (A3 rfl rfl rfl) ?_));refine G ?_;refine Bi rfl rfl rfl rfl rfl noR rfl rfl (Ae fdC rfl rfl) (Bi rfl rfl rfl rfl rfl noR rfl rfl (Ac ldC rfl rfl rfl) (Bi rfl rfl rfl rfl rfl noR rfl rfl (H5 (q:=[119,111]) okC rfl rfl) (O1 (A3 rfl rfl rfl) ?_)));refine G ?_;refine Bi rfl rfl rfl rfl rfl noR rfl rfl (Ae fdC rfl rfl) (Bi rfl rfl rfl rfl rfl noR rfl rfl (Ac ldC rfl rfl rfl) (Ato (Ai elC byW rfl rfl rfl) (Dv (len:=2)) (Bh rfl rfl rfl rfl rfl rfl rfl rfl (h49 _) (O1 (A3 rfl rfl rfl) ?_))));refine G ?_;refine Bi rfl rfl rfl rfl rfl noR rfl rfl (Ae fdC rfl rfl) (Bi rfl rfl rfl rfl rfl noR rfl rfl (Ac ldC rfl rfl rfl) (Bi rfl rfl rfl rfl rfl noR rfl rfl (Jl slC rfl) (Bi rfl rfl rfl rfl rfl noR rfl rfl (H4 (q:=0) okC rfl rfl) (O1 (A3 rfl rfl rfl) ?_))));refine G ?_;refine Bi rfl rfl rfl rfl rfl noR rfl rfl (Ae fdC rfl rfl) (Bi rfl rfl rfl rfl rfl noR rfl rfl (Ae fdC rfl rfl) (Bi rfl rfl rfl rfl rfl noR rfl rfl (Ac ldC rfl rfl rfl) (Bi rfl rfl rfl rfl rfl noR rfl rfl (H5 (q:=[119,105]) okC rfl rfl) (O1 (A3 rfl rfl rfl) ?_))));refine G ?_;refine Bi rfl rfl rfl rfl rfl noR rfl rfl (Ag rfl) (Ato (Ai elC byW rfl rfl rfl) (Dv (len:=1)) (Bh rfl rfl rfl rfl rfl rfl rfl rfl (h40 _) (O1 (A3 rfl rfl rfl) ?_)));refine G ?_;refine Bi rfl rfl rfl rfl rfl noR rfl rfl (lO p1) (Bi rfl rfl rfl rfl rfl noR rfl rfl (lO p2) (Bh rfl rfl rfl rfl rfl rfl rfl rfl (h50 _) (Bi rfl rfl rfl rfl rfl noR rfl rfl (H4 (q:=212) okC rfl rfl) (O1 (A3 rfl rfl rfl) ?_))));refine G3 ?_
 exact⟨_,rfl,_,σ,am_ hw ⟨by omega,g1⟩,nl,.same rfl,rfl,rfl⟩
theorem law3(d:Db)(r:Rs)(σ:Sto):Cv 3 [dbV d,.agg (eRs r)] σ (.bool true):=
 f3 (fun h1=>⟨(Ac1 h1).1,(Ac1 h1).2.1,fun h3=>Atk h1 h3⟩) f10a σ
def C0:Ctx:=⟨fun _=>none,fun _=>0,fun _=>False,fun _=>none⟩
theorem Al0(b:Nat):¬C0.own b:=fun hb=>hb.elim (fun h=>h) fun⟨a,o,h⟩=>by cases h
theorem sim0(w:World):Sim Tryz.prog C0 w ⟨.e,0⟩:=
 ⟨fun a O hg=>(by simp[Sto.get,Tr.get]at hg),fun a O hg=>(by simp[Sto.get,Tr.get]at hg),fun a p hp=>(by cases hp),fun a b c o o' ha=>(by cases ha),fun a c o ha=>(by cases ha),fun b hb=>False.elim hb,fun a c o ha=>(by cases ha)⟩
theorem Al1{f:Nat}{args:List AV}{vs:Array Value}{w:World}(h:Al Ew f args ⟨.e,0⟩ fun v σ'=>v=.bool true/\σ'=⟨.e,0⟩)(hg:Iw C0 0 w Ew)(ha:RL C0 0 w args vs.toList):
  Calls Tryz.prog f vs w fun e w'=>e=.returned (.bool true)/\w.heap.size<=w'.heap.size/\(∀b,b<w.heap.size->w'.heap[b]? =w.heap[b]?)/\w'.os=w.os/\w'.output=w.output:=by
 refine(h C0 w vs (sim0 w) hg ha).2.mono fun e w' he=>?_
 cases e with
 |returned x=>
  obtain⟨v,σ',C',⟨rfl,rfl⟩,k1,k2,k3⟩:=he;unfold R at k3;subst k3;exact⟨rfl,k2.size,fun b hb=>(k2.keep b hb (Al0 b)).2,k2.os⟩
 |panicked _=>exact he.elim
 |outgrown=>exact he.elim
end Go.AM
