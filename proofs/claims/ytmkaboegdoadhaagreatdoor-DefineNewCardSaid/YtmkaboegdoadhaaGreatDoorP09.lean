/- A part of the proof; shortened by program. -/
import Derived.Test.YtmkaboegdoadhaaGreatDoorP08
set_option maxRecDepth 100000
set_option maxHeartbeats 4000000
set_option linter.unusedSimpArgs false
set_option linter.unusedVariables false
namespace Go.AM
open Go
theorem noR{E}:Bk E (fun _ _ _=>none):=di_
section
variable {E:Env}{nt B:Nat}{df:List (Nat×List AV)}{ρ ρ':Ad}{σ σ':Sto}{K:Ad->Sto->Prop}
theorem Aii{ops r op dst}{ty:Nat}{pos after}{Pv:AV->Prop}(hd:B0 nt dst=true)
  (h:∀C w tm a,Has tm ρ->SSt E C w ⟨tm,nt,df,σ⟩ a->∃v,Pv v/\S5 E.P C w σ (execOp a.eval { dst:=dst,op:=op,type:=ty,pos:=pos,after:=after,guard:=none }) v σ')
  (k:∀v,Pv v->TO E nt df B ops r K (Dt dst v ρ) σ'):TO E nt df B ops ({ dst:=dst,op:=op,type:=ty,pos:=pos,after:=after,guard:=none }::r) K ρ σ:=by
 intro ro n hn C w tm a ht st hB arr i QQ rest br hr hQ;obtain⟨hn1,hn2⟩:=L1 hn
 have ho:arr[i]? =some { dst:=dst,op:=op,type:=ty,pos:=pos,after:=after,guard:=none }:=by have:=hr 0 (by simp);grind
 simp only[as_,cj_,ay_,wpOpsIn,ho];have hw:Region.wanted { dst:=dst,op:=op,type:=ty,pos:=pos,after:=after,guard:=none } (yielded arr a.tmps)=true:=rfl;rw[if_pos hw];refine Ev hn1 ?_;obtain⟨v,hpv,x,w',C',h1,h2,h3,h4⟩:=h C w tm a ht st;obtain⟨tm',g1,g2⟩:=C6 (dst:=dst) hd ht v;have go:∀y,R C' (nx σ') w' v y->wpOpsIn (Cy ro) n E.P arr QQ (List.range' (i+1) r.length++rest) (a.put dst y) w':=fun y hy=>
  k v hpv ro n hn2 C' w' tm' _ g2 (st.put h3 h4 hy g1) (ai_ hB h4.next) arr (i+1) QQ rest br (fun j hj=>by have:=hr (j+1) gr;grind)
   fun C2 w2 a2 tm2 ρ2 σ2 q1 q2 q3 qB q4=>hQ C2 w2 a2 tm2 ρ2 σ2 q1 q2 q3 qB ((h4.base hB).trans q4)
 unfold Oper.wp
 rcases h1 with h1|⟨h1,rfl⟩
 ·rw[h1,Oper.upon_value];grind
 ·rw[h1,Oper.upon_skip];grind
theorem Agx{ops r op dst}{ty:Nat}{pos after v}(hd:B0 nt dst=true)
  (h:∀C w tm a,Has tm ρ->SSt E C w ⟨tm,nt,df,σ⟩ a->S5 E.P C w σ (execOp a.eval { dst:=dst,op:=op,type:=ty,pos:=pos,after:=after,guard:=none }) v σ')
  (k:TO E nt df B ops r K (Dt dst v ρ) σ'):TO E nt df B ops ({ dst:=dst,op:=op,type:=ty,pos:=pos,after:=after,guard:=none }::r) K ρ σ:=
 Aii (Pv:=fun u=>u=v) hd (fun C w tm a ht st=>⟨v,rfl,h C w tm a ht st⟩) gr
theorem Aq4{P C w}(hs:Sim P C w σ){t n x X}(hx:R C (nx σ) w x X){cs}(h:x.cellsN n=some cs):Iv P C w σ (Instr.box t X) (.pv cs) σ:=by
 obtain⟨q1,q2,q3,q4⟩:=Hc h hx;have p:=K3 w (.cells X.cells t (0,0));obtain⟨k1,k2⟩:=hs.push p;refine⟨_,.pointer (some ⟨w.heap.size,0,none⟩),_,C,?_,rfl,k1,k2,?_⟩
 ·unfold Instr.box
  simp[newVar,newRow]
 ·unfold R;refine⟨_,_,rfl,fun _ ho=>?_,fb_ p.here (q1.ext k2) q4 gr⟩
  have:=hs.own_lt ho;grind
theorem Jv{ops r t x dst}{ty:Nat}{pos after v sz agg cs}(hi:ldI E.P t=some (sz,agg))(hx:Ah E ρ x=some v)(hc:v.cellsN sz=some cs)(hd:B0 nt dst=true)
  (k:TO E nt df B ops r K (Dt dst (.pv cs) ρ) σ):TO E nt df B ops ({ dst:=dst,op:=.box t x,type:=ty,pos:=pos,after:=after,guard:=none }::r) K ρ σ:=by
 refine Agx hd (fun C w tm a ht st=>?_) k
 have hv:=Be st.glob st.tmps x;rw[ht.opd hx]at hv;exact .ofRuns (Aq4 st.sim hv hc)
theorem S9{ops}{t d ty:Nat}{pos after z tm}(hz:zI E.P t=some z)(hd:Nat.blt d nt=true):
  Yi E ops { dst:=some d,op:=.alloc t,type:=ty,pos:=pos,after:=after,guard:=none } (fun _ _ _=>none) ⟨tm,nt,df,σ⟩=some ⟨tm.put (d+1) d (some (.pr (nx σ) 0)),nt,df,σ.new (.cells z)⟩:=by
 rw[Rk (s:=⟨tm,nt,df,σ⟩) rfl rfl]
 have:opA E (.alloc t) (fun _ _ _=>none) tm σ=some (.pr (nx σ) 0,σ.new (.cells z)):=by
  unfold zI at hz
  split at hz
  ·rename_i ti hti;simp only[opA,Aw,hti,hz,Aab]
  grind
 simp only[this,Ka,hd,cond_true,Ef]
theorem Eg{ob}:(σ.new (.cells ob)).cells (nx σ)=some ob:=by
 unfold Sto.cells;grind
theorem Hh:∀{z l:List AV},l.length=z.length->Et z 0 l=some l
 |[],[],_=>rfl
 |x::z,y::l,h=>by
  have:=Hh (z:=z) (l:=l) gr;simp only[Et,this]
 |[],_::_,h=>by simp at h
 |_::_,[],h=>by simp at h
theorem Ho{ops r t d sz agg x}{ty ty':Nat}{pos pos' after after' z cs v}(hz:zI E.P t=some z)(hi:ldI E.P t=some (sz,agg))(hl:Nat.beq z.length sz=true)
  (hx:∀u,Ah E ((d,u)::ρ) x=some v)(hv:Ah E ρ x=some v)(hc:v.cellsN sz=some cs)(hd:Nat.blt d nt=true)[Se E](hdf:df=[])
  (k:TO E nt df B ops r K ((d,.pv cs)::ρ) σ):
  TO E nt df B ops ({ dst:=some d,op:=.alloc t,type:=ty,pos:=pos,after:=after,guard:=none }::{ dst:=none,op:=.store t (.tmp d) x,type:=ty',pos:=pos',after:=after',guard:=none }::r) K ρ σ:=by
 subst hdf;intro ro n hn C w tm a ht st hB
 have hcs:cs.length=z.length:=by
  have hb:=ac_ hl;have hvR:=Be st.glob st.tmps x;rw[ht.opd hv]at hvR;obtain⟨q1,q2,_⟩:=Hc hc hvR
  grind
 have hwf:=st.sim.wfs;have em:∀i u,Ad.at ρ i=some u->AV.und (nx σ) u=true:=fun i u hu=>R.und _ _ (st.tmps i u (ht i u hu))
 have hvu:AV.und (nx σ) v=true:=by
  have hvR:=Be st.glob st.tmps x;rw[ht.opd hv]at hvR;exact R.und _ _ hvR
 have hcu:AV.unds (nx σ) cs=true:=by
  unfold AV.cellsN at hc
  split at hc<;>try (cases hc;done)
  ·cases hb':Nat.beq ‹List AV›.length sz with
   |true=>rw[hb']at hc;cases hc;exact hvu
   |false=>rw[hb']at hc;cases hc
  ·cases hb':Nat.beq sz 1 with
   |true=>rw[hb']at hc;cases hc;simp only[AV.unds,hvu,be_]
   |false=>rw[hb']at hc;cases hc
 have key:TO E nt [] B ops ({ dst:=some d,op:=.alloc t,type:=ty,pos:=pos,after:=after,guard:=none }::{ dst:=none,op:=.store t (.tmp d) x,type:=ty',pos:=pos',after:=after',guard:=none }::r) K ρ σ:=by
  refine Qg noR (σ₁:=σ.new (.cells z)) (ρ₁:=(d,.pr (nx σ) 0)::ρ) (fun tm' ht'=>⟨_,S9 hz hd,ht'.put d _⟩) ?_
  refine X4 noR rfl rfl (By (vs:=z) (vs':=cs) (ad:=nx σ) (off:=0) (v:=v) (cs:=cs) hi (by simp[Ah,Ad.at,aw_]) (hx _) hc Eg (Hh hcs)) ?_
  simp only[Dt];refine Aq3 σ ((d,.pv cs)::ρ) ?_ hB ?_ k
  ·refine a_ hwf gr fun b hb=>?_
   grind
  ·intro i u hu;simp only[Ad.at]at hu⊢;cases hb:Nat.beq d i with
   |true=>
    rw[hb]at hu;simp only[cond_true,af_]at hu⊢;subst hu;refine⟨_,rfl,.pr (vs:=cs) gr ?_ (dj_ hcu)⟩;cases hg:σ.get (nx σ)with
    |none=>rfl
    |some O=>exact absurd (hwf _ _ hg).1 (Nat.lt_irrefl _)
   |false=>rw[hb]at hu;exact⟨u,hu,.same (em i u hu)⟩
 exact key ro n hn C w tm a ht st hB
def Hy(ρ ρ':Ad):Prop:=∀i v,Ad.at ρ i=some v->Ad.at ρ' i=some v
theorem Hy.refl:Hy ρ ρ:=fun _ _ h=>h
theorem Hy.cons{d v}(hd:Ad.at ρ d=none)(h:Hy ρ ρ'):Hy ρ ((d,v)::ρ'):=fun i u hu=>by
 simp only[Ad.at];cases hb:Nat.beq d i with
 |true=>have:=ac_ hb;subst this;rw[hd]at hu;cases hu
 |false=>exact h i u hu
theorem Zw{ops r}(h:TO E nt df B ops r K ρ σ)(hs:Hy ρ ρ'):TO E nt df B ops r K ρ' σ:=
 fun ro n hn C w tm a ht st=>h ro n hn C w tm a (fun i v hv=>ht i v (hs i v hv)) st
theorem Hy.put{d v}(h:Hy ρ ρ'):Hy ((d,v)::ρ) ((d,v)::ρ'):=fun i u hu=>by
 simp only[Ad.at]at hu⊢;cases hb:Nat.beq d i with
 |true=>rw[hb]at hu;exact hu
 |false=>rw[hb]at hu;exact h i u hu
theorem Eh{ops o}(hg:o.guard=none):∀ρ',Hy ρ ρ'->∀tm,Has tm ρ'->Bn ops o tm=some true:=fun _ _ _ _=>by simp only[Bn,hg]
theorem Ft{ops}{o oj:Oper}{j d:Nat}{b want}(hg:o.guard=some (j,want))(hj:ops[j]? =some oj)(hdj:oj.dst=some d)(hb:Ad.at ρ d=some (.bool b))(hw:cond b want (!want)=true):
  ∀ρ',Hy ρ ρ'->∀tm,Has tm ρ'->Bn ops o tm=some true:=fun ρ' hs tm ht=>by rw[Hf ht hg hj hdj (hs _ _ hb),hw]
theorem Zx{ops r o}{t:Nat}{c x y v}(hg:∀tm,Has tm ρ->Bn ops o tm=some true)(hop:o.op=.pick c x y)(ct:o.dst=some t)(ht:Nat.blt t nt=true)
  (h:As E (fun _ _ _=>none) (.pick c x y) ρ σ v σ)(k:TO E nt df B ops r K ((t,v)::ρ) σ):TO E nt df B ops (o::r) K ρ σ:=by
 refine Qg di_ (fun tm hh=>?_) k
 obtain⟨tm',h1,h2⟩:=C6 (dst:=o.dst) (by rw[ct];exact ht) hh v
 rw[ct]at h2;refine⟨tm',?_,h2⟩
 rw[Rk (s:=⟨tm,nt,df,σ⟩) (hg tm hh) (by rw[hop];rfl),hop]
 simp only[h tm hh,h1]
theorem Hq(n b q){ops r r'}{o:Oper}{t:Nat}{c x}(h0:Ah E ρ c=some (.bool b))
  (hr:r.drop n=o::r')(hop:o.op=.pick c x (.const (.bool false)))(ct:o.dst=some t)(ht:Nat.blt t nt=true)(hg:∀ρ',Hy ρ ρ'->∀tm,Has tm ρ'->Bn ops o tm=some true)
  (hon:b=true->TO E nt df B ops (r.take n) (fun ρ' σ'=>σ'=σ/\Hy ρ ρ'/\Ah E ρ' x=some (.bool q)) ρ σ)
  (ep:b=false->TO E nt df B ops (r.take n) (fun ρ' σ'=>σ'=σ/\Hy ρ ρ') ρ σ)
  (k:TO E nt df B ops r' K ((t,.bool (b&&q))::ρ) σ):TO E nt df B ops r K ρ σ:=by
 refine Aq2 n ?_;rw[hr]
 have cc:∀ρ',Hy ρ ρ'->Ah E ρ' c=some (.bool b):=fun ρ' hs=>by
  cases c with
  |tmp j=>exact hs _ _ h0
  |_=>exact h0
 cases b with
 |true=>
  refine(hon rfl).mono fun ρ' σ' ⟨h1,h2,h3⟩=>?_
  subst h1;exact Zx (hg ρ' h2) hop ct ht (A3 (cc ρ' h2) rfl h3) (Zw gr h2.put)
 |false=>
  refine(ep rfl).mono fun ρ' σ' ⟨h1,h2⟩=>?_
  subst h1;exact Zx (hg ρ' h2) hop ct ht (Au (v:=.bool false) (cc ρ' h2) rfl rfl) (Zw gr h2.put)
theorem Qh(n b q){ops r r'}{o:Oper}{t:Nat}{c x}(h0:Ah E ρ c=some (.bool b))
  (hr:r.drop n=o::r')(hop:o.op=.pick c (.const (.bool true)) x)(ct:o.dst=some t)(ht:Nat.blt t nt=true)(hg:∀ρ',Hy ρ ρ'->∀tm,Has tm ρ'->Bn ops o tm=some true)
  (hon:b=false->TO E nt df B ops (r.take n) (fun ρ' σ'=>σ'=σ/\Hy ρ ρ'/\Ah E ρ' x=some (.bool q)) ρ σ)
  (ep:b=true->TO E nt df B ops (r.take n) (fun ρ' σ'=>σ'=σ/\Hy ρ ρ') ρ σ)
  (k:TO E nt df B ops r' K ((t,.bool (b||q))::ρ) σ):TO E nt df B ops r K ρ σ:=by
 refine Aq2 n ?_;rw[hr]
 have cc:∀ρ',Hy ρ ρ'->Ah E ρ' c=some (.bool b):=fun ρ' hs=>by
  cases c with
  |tmp j=>exact hs _ _ h0
  |_=>exact h0
 cases b with
 |false=>
  refine(hon rfl).mono fun ρ' σ' ⟨h1,h2,h3⟩=>?_
  subst h1;exact Zx (hg ρ' h2) hop ct ht (Au (cc ρ' h2) rfl h3) (Zw gr h2.put)
 |true=>
  refine(ep rfl).mono fun ρ' σ' ⟨h1,h2⟩=>?_
  subst h1;exact Zx (hg ρ' h2) hop ct ht (A3 (v:=.bool true) (cc ρ' h2) rfl rfl) (Zw gr h2.put)
theorem Auf{ops r}{o oj:Oper}{j d:Nat}{want}(hg:o.guard=some (j,want))(hj:ops[j]? =some oj)(hdj:oj.dst=some d)(hb:Ad.at ρ d=some An)
  (hd:B0 nt o.dst=true)(k:TO E nt df B ops r K (Dt o.dst An ρ) σ):TO E nt df B ops (o::r) K ρ σ:=by
 refine Qg di_ (fun tm ht=>?_) k
 obtain⟨tm',h1,h2⟩:=C6 (dst:=o.dst) hd ht An;refine⟨tm',?_,h2⟩
 have:Bn ops o tm=some false:=by simp only[Bn,hg,hj,hdj,ht d _ hb];rfl
 unfold Yi
 grind
theorem Aij{ops r}{oj:Oper}{j dj:Nat}{b want f args}{tys:Array Nat}{dst}{ty:Nat}{pos after}{k:Nat}{first cap vs full Post}
  (hj:ops[j]? =some oj)(hdj:oj.dst=some dj)(hb:Ad.at ρ dj=some (.bool b))(hw:cond b want (!want)=true)(hd:B0 nt dst=true)
  (hf:Ah E ρ f=some (.fn (.func k) first cap))(ha:Kc E ρ args.toList=some vs)(hl:first++vs++cap=full)(hc:Al E k full σ Post)
  (kk:∀v σ',Post v σ'->TO E nt df B ops r K (Dt dst v ρ) σ'):TO E nt df B ops ({ dst:=dst,op:=.call ⟨.value f,args,tys⟩,type:=ty,pos:=pos,after:=after,guard:=some (j,want) }::r) K ρ σ:=by
 intro ro n hn C w tm a ht st hB arr i QQ rest br hr hQ;obtain⟨hn1,hn2⟩:=L1 hn
 have ho:arr[i]? =some { dst:=dst,op:=.call ⟨.value f,args,tys⟩,type:=ty,pos:=pos,after:=after,guard:=some (j,want) }:=by have:=hr 0 (by simp);grind
 simp only[as_,cj_,ay_,wpOpsIn,ho]
 have hw':Region.wanted { dst:=dst,op:=.call ⟨.value f,args,tys⟩,type:=ty,pos:=pos,after:=after,guard:=some (j,want) } (yielded arr a.tmps)=true:=by
  refine Dp (o:={ dst:=dst,op:=.call ⟨.value f,args,tys⟩,type:=ty,pos:=pos,after:=after,guard:=some (j,want) }) st.tmps ?_;rw[br,Hf (o:={ dst:=dst,op:=.call ⟨.value f,args,tys⟩,type:=ty,pos:=pos,after:=after,guard:=some (j,want) }) ht rfl hj hdj hb,hw]
 rw[if_pos hw'];refine Ev hn1 ?_;have hV:=Be st.glob st.tmps f;rw[ht.opd hf]at hV;unfold R at hV;obtain⟨p,q,hV,hp,hq⟩:=hV;have bp:=Dm st.glob st.tmps args.toList;rw[ht.opds ha]at bp
 have bs:RL C (nx σ) w full (p++args.map a.eval++q).toList:=by
  subst hl;simp only[cv_,c_];exact(hp.append bp).append hq
 obtain⟨⟨fn,g1,g2,g3⟩,b8⟩:=hc C w _ st.sim st.glob bs
 have bq:(execOp a.eval { dst:=dst,op:=.call ⟨.value f,args,tys⟩,type:=ty,pos:=pos,after:=after,guard:=some (j,want) }).run E.P w=.ok (.enter k (p++args.map a.eval++q)) w:=by
  have g2':fn.name≠ "runtime.NumGoroutine" :=gr;have g3':fn.body≠none:=gr
  simp[execOp,resolve,hV,Deferred.ofValue,invoke,callFunc,g1,g2',g3']
 unfold Oper.wp;rw[bq,Oper.upon_enter];refine b8.mono fun e w' he=>?_
 cases e with
 |returned x=>
  obtain⟨v,σ',C',k0,k1,k2,k3⟩:=he;obtain⟨tm',h1,h2⟩:=C6 (dst:=dst) hd ht v
  exact kk v σ' k0 ro n hn2 C' w' tm' _ h2 (st.put k1 k2 k3 h1) (ai_ hB k2.next) arr (i+1) QQ rest br (fun j hj=>by have:=hr (j+1) gr;grind)
   fun C2 w2 a2 tm2 ρ2 σ2 q1 q2 q3 qB q4=>hQ C2 w2 a2 tm2 ρ2 σ2 q1 q2 q3 qB ((k2.base hB).trans q4)
 |panicked _=>exact he.elim
 |outgrown=>exact he.elim
end
abbrev Str:=List UInt8
def sV(s:Str):AV:=.str (s.map UInt8.toNat)
def slV{α:Type}(enc:α->List AV)(sz:Nat)(l:List α):AV:=.sv (l.flatMap enc) sz l.length none
def bV(b:Bool):AV:=.bool b
def iV(n:Int):AV:=.int .i64 n
theorem Fu{s t:Str}:(s.map UInt8.toNat=t.map UInt8.toNat)↔s=t:=List.map_inj_right (fun a b h=>UInt8.toNat_inj.1 h)
theorem Dl{α:Type}{enc:α->List AV}{sz}(he:∀a,(enc a).length=sz):∀l:List α,(l.flatMap enc).length=l.length*sz
 |[]=>by simp
 |a::r=>by simp only[bs_,bx_,he,Dl he r,as_,fw_];omega
theorem Ww{α:Type}{enc:α->List AV}{sz}(he:∀a,(enc a).length=sz):∀(l:List α) (i:Nat),(l.flatMap enc).drop (i*sz)=(l.drop i).flatMap enc
 |l,0=>by simp
 |[],i+1=>by simp
 |a::r,i+1=>by
  simp only[bs_,List.drop_succ_cons,fw_];rw[←Ww he r i,fz_,←eo_,List.drop_left' (he a)]
theorem Aml{α:Type}{enc:α->List AV}{sz}(he:∀a,(enc a).length=sz){l:List α}{i a}(h:l[i]? =some a):(l.flatMap enc).drop (i*sz)=enc a++(l.drop (i+1)).flatMap enc:=by
 rw[Ww he];obtain⟨hi,rfl⟩:=ae_.1 h;rw[bj_ hi,bs_]
section
variable {E:Env}{ρ:Ad}{σ:Sto}{Rr:Rec}{t n:Nat}{x y:Operand}{α:Type}{enc:α->List AV}{sz:Nat}{l:List α}
theorem Jl{t₀}(hi:Mk E.P t₀=true)(hx:Ah E ρ x=some (slV enc sz l)):As E Rr (.call ⟨.builtin .len,#[x],#[t₀]⟩) ρ σ (.int .i64 (.ofNat l.length)) σ:=
 Bf hi hx rfl rfl
theorem Aug{t₀ s}(hi:Fs E.P t₀=true)(hx:Ah E ρ x=some (sV s)):As E Rr (.call ⟨.builtin .len,#[x],#[t₀]⟩) ρ σ (.int .i64 (.ofNat s.length)) σ:=by
 have:=Aou (Rr:=Rr) (σ:=σ) hi hx
 rwa[cx_]at this
theorem A1{by' i zz k a}(hi:elI E.P t=some (sz,by',zz))(he:∀a,(enc a).length=sz)(hx:Ah E ρ x=some (slV enc sz l))(hy:Ah E ρ y=some (.int k (.ofNat i)))(ha:l[i]? =some a):
  As E Rr (.indexAddr t x y) ρ σ (.pv (enc a++(l.drop (i+1)).flatMap enc)) σ:=by
 have h:=Aif (Rr:=Rr) (σ:=σ) hi hx hy (m:=l.length) rfl rfl (ae_.1 ha).1
 have e:Aie (slV enc sz l) (i*sz)=.pv (enc a++(l.drop (i+1)).flatMap enc):=by
  show AV.pv ((l.flatMap enc).drop (i*sz))=_
  rw[Aml he ha]
 rw[e]at h;exact h
theorem H5{p q}{ty:Nat}(hi:okI E.P t=true)(hx:Ah E ρ x=some (sV p))(hy:Ah E ρ y=some (sV q)):As E Rr (.binOp .eql t x y ty) ρ σ (.bool (decide (p=q))) σ:=by
 have:=Awy (Rr:=Rr) (σ:=σ) (ty:=ty) hi hx hy
 simpa only[Fu]using this
theorem Ko{p q}{ty:Nat}(hi:okI E.P t=true)(hx:Ah E ρ x=some (sV p))(hy:Ah E ρ y=some (sV q)):As E Rr (.binOp .neq t x y ty) ρ σ (.bool (!decide (p=q))) σ:=by
 have:=Awz (Rr:=Rr) (σ:=σ) (ty:=ty) hi hx hy
 simpa only[Fu]using this
end
theorem D0:∀{l r:List AV},Dr l.length (l++r)=some l
 |[],r=>rfl
 |x::l,r=>by simp only[as_,ay_,Dr,D0 (l:=l)]
theorem A6{l sz}(h:l.length=sz)(r):Cz sz true (l++r)=some (.agg l):=by
 subst h;simp only[Cz,D0]
theorem Wz{l sz}(h:l.length=sz):Cz sz true l=some (.agg l):=by
 have:=A6 h []
 rwa[bh_]at this
theorem A7{l sz}(h:l.length=sz):(AV.agg l).cellsN sz=some l:=by
 subst h;simp only[AV.cellsN,aw_,cond_true]
def A5{α:Type}(p:α->Bool):List α->Nat->Int
 |[],_=> -1
 |a::r,i=>cond (p a) (.ofNat i) (A5 p r (i+1))
theorem Aik{α p}:∀(l:List α) (i:Nat),(0:Int)<=A5 p l i↔l.any p=true
 |[],i=>by simp[A5]
 |a::r,i=>by
  rw[dh_];unfold A5
  by_cases hp:p a=true
  ·rw[hp];simp
  ·have hp:p a=false:=by simpa using hp
   rw[hp,cond_false,Bool.false_or];exact Aik r (i+1)
theorem Gf{α p}(l:List α):decide (Int.ofNat 0<=A5 p l 0)=l.any p:=by
 have:=Aik (p:=p) l 0
 by_cases h:l.any p=true
 ·rw[h];exact decide_eq_true (this.2 h)
 ·rw[Bool.not_eq_true]at h;rw[h];exact decide_eq_false (fun hh=>by rw[this.1 hh]at h;cases h)
def Wk(v v':AV):Prop:=∀C N w x,R C N w v x->R C N w v' x
theorem Wk.rfl'{v}:Wk v v:=fun _ _ _ _ h=>h
theorem Dv{cs sz len cap}:Wk (.sv cs sz len cap) (.sv cs sz len none):=fun C N w x h=>by
 unfold R at h⊢;obtain⟨ado,k,h1,h2,h3,h4⟩:=h
 exact⟨ado,k,h1,h2,fun q hq=>(by cases hq),h4⟩
theorem Agy{sz}:Wk (.nil (.slice none 0 0)) (.sv [] sz 0 none):=fun C N w x h=>by
 unfold R at h⊢;obtain⟨rfl,_⟩:=h
 exact⟨none,0,rfl,nl,fun q hq=>(by cases hq),by simp,fun _=>rfl,fun ad ha=>by cases ha⟩
inductive WkL:List AV->List AV->Prop
 |nil:WkL [] []
 |cons {a b:AV} {l m:List AV}:Wk a b->WkL l m->WkL (a::l) (b::m)
theorem WkL.RL{C N w}:∀{l m:List AV},WkL l m->∀{xs:List Value},RL C N w l xs->RL C N w m xs
 |_,_,.nil,xs,h=>h
 |_,_,.cons h1 h2,[],h=>by unfold AM.RL at h;exact h.elim
 |_,_,.cons h1 h2,x::xs,h=>by unfold AM.RL at h⊢;exact⟨h1 _ _ _ _ h.1,h2.RL h.2⟩
theorem WkL.refl:∀{l:List AV},WkL l l
 |[]=>.nil
 |_::_=>.cons .rfl' .refl
theorem Al.wk{E f args args' σ Post}(h:Al E f args' σ Post)(k:WkL args args'):Al E f args σ Post:=
 fun C w vs hs hg ha=>h C w vs hs hg (k.RL ha)
section
variable {E:Env}{nt B:Nat}{df:List (Nat×List AV)}{ρ ρ':Ad}{σ σ':Sto}{K:Ad->Sto->Prop}{Rr:Rec}
theorem Av3{ops r d v v'}(h:Wk v v')(k:TO E nt df B ops r K ((d,v')::ρ) σ):TO E nt df B ops r K ((d,v)::ρ) σ:=by
 intro ro n hn C w tm a ht st hB
 have hd:=st.tmps d v (ht d v (by simp[Ad.at,aw_]))
 refine k ro n hn C w (tm.put (d+1) d (some v')) a (fun i u hu=>?_) ⟨st.sim,st.glob,fun i u hu=>?_,st.size,st.dfs⟩ hB
 ·rw[dd_];simp only[Ad.at]at hu;cases hb:Nat.beq d i with
  |true=>rw[hb]at hu;have:=ac_ hb;subst this;rw[if_pos rfl];exact hu
  |false=>
   rw[hb]at hu
   rw[if_neg (fun he=>by subst he;rw[aw_]at hb;cases hb)]
   exact ht i u (by simp only[Ad.at];rw[hb];exact hu)
 ·have hu:(tm.put (d+1) d (some v')).get i=some u:=hu;rw[dd_]at hu
  by_cases hi:i=d
  ·subst hi;rw[if_pos rfl]at hu;cases hu;exact h _ _ _ _ hd
  ·rw[if_neg hi]at hu;exact st.tmps i u hu
theorem Cx{ops r op d}{ty:Nat}{pos after v v' σ₁}(h:As E (fun _ _ _=>none) op ρ σ v σ₁)(hw:Wk v v')(hn:Ga op=true)(hd:Nat.blt d nt=true)
  (k:TO E nt df B ops r K ((d,v')::ρ) σ₁):TO E nt df B ops ({ dst:=some d,op:=op,type:=ty,pos:=pos,after:=after,guard:=none }::r) K ρ σ:=
 X4 noR hn hd h (Av3 hw k)
theorem Nm{ops r f args}{tys:Array Nat}{dst}{ty:Nat}{pos after}{k:Nat}{first cap vs full v}(hd:B0 nt dst=true)
  (hf:Ah E ρ f=some (.fn (.func k) first cap))(ha:Kc E ρ args.toList=some vs)(hl:first++vs++cap=full)(hc:Al E k full σ fun u τ=>u=v/\τ=σ')
  (kk:TO E nt df B ops r K (Dt dst v ρ) σ'):TO E nt df B ops ({ dst:=dst,op:=.call ⟨.value f,args,tys⟩,type:=ty,pos:=pos,after:=after,guard:=none }::r) K ρ σ:=
 Az hd hf ha hl hc fun u τ h=>by obtain⟨rfl,rfl⟩:=h;exact kk
theorem Bh{ops r}{oj:Oper}{j dj:Nat}{b want f args}{tys:Array Nat}{dst}{ty:Nat}{pos after}{k:Nat}{first cap vs full v}
  (hj:ops[j]? =some oj)(hdj:oj.dst=some dj)(hb:Ad.at ρ dj=some (.bool b))(hw:cond b want (!want)=true)(hd:B0 nt dst=true)
  (hf:Ah E ρ f=some (.fn (.func k) first cap))(ha:Kc E ρ args.toList=some vs)(hl:first++vs++cap=full)(hc:Al E k full σ fun u τ=>u=v/\τ=σ')
  (kk:TO E nt df B ops r K (Dt dst v ρ) σ'):TO E nt df B ops ({ dst:=dst,op:=.call ⟨.value f,args,tys⟩,type:=ty,pos:=pos,after:=after,guard:=some (j,want) }::r) K ρ σ:=
 Aij hj hdj hb hw hd hf ha hl hc fun u τ h=>by obtain⟨rfl,rfl⟩:=h;exact kk
theorem Auh{t i x y s b k}(hi:Fs E.P t=true)(hx:Ah E ρ x=some (sV s))(hy:Ah E ρ y=some (.int k (.ofNat i)))(hb:s[i]? =some b):
  As E Rr (.index t x y) ρ σ (.int .u8 (.ofNat b.toNat)) σ:=Aig hi hx hy (by rw[br_,hb];rfl)
theorem Aex{n}(h1: -9223372036854775808<=n)(h2:n<9223372036854775808):Me .i64 n=.int .i64 n:=by
 cases n with
 |ofNat m=>
  have:Nat.ble m 9223372036854775807=true:=ar_ (by have:(m:Int)<9223372036854775808:=h2;omega)
  simp only[Me,Ak,M0,this,cond_true]
 |negSucc m=>
  have:Nat.ble m 9223372036854775807=true:=ar_ Om;simp only[Me,Ak,M0,this,cond_true]
theorem Agz{t ty:Nat}{x y p q}(hi:okI E.P t=true)(hx:Ah E ρ x=some (.int .i64 p))(hy:Ah E ρ y=some (.int .i64 q))(h1: -9223372036854775808<=p-q)(h2:p-q<9223372036854775808):
  As E Rr (.binOp .sub t x y ty) ρ σ (iV (p-q)) σ:=L0 hi hx hy (by simp only[Ic,Wh,Aex h1 h2];rfl)
theorem W2{t ty:Nat}{x y p q}(hi:okI E.P t=true)(hx:Ah E ρ x=some (.int .i64 (.ofNat p)))(hy:Ah E ρ y=some (.int .i64 (.ofNat q)))(h:q<=p)(hp:p<9223372036854775808):
  As E Rr (.binOp .sub t x y ty) ρ σ (iV (.ofNat (p-q))) σ:=by
 have:=Agz (Rr:=Rr) (σ:=σ) (ty:=ty) hi hx hy (by simp only[bu_];omega) (by simp only[bu_];omega)
 rwa[show(Int.ofNat p-Int.ofNat q)=Int.ofNat (p-q) by simp only[bu_];omega]at this
theorem Abi{ops r}{t ty0:Nat}{x}{d ty:Nat}{pos after cs sz len cap}(hsl:Mk E.P t=true)(hx:Ah E ρ x=some (.sv cs sz len cap))(hd:Nat.blt d nt=true)
  (k:∀b:Bool,(b=true->len=0)->TO E nt df B ops r K ((d,.bool b)::ρ) σ):
  TO E nt df B ops ({ dst:=some d,op:=.binOp .eql t x (.const (.slice none 0 0)) ty0,type:=ty,pos:=pos,after:=after,guard:=none }::r) K ρ σ:=by
 have hti:∃ti e,Ay E.P t=some ti/\ti.desc=.slice e:=by
  unfold Mk at hsl
  split at hsl
  ·rename_i ti hti
   split at hsl
   ·rename_i e he;exact⟨ti,e,hti,he⟩
   ·cases hsl
  ·cases hsl
 obtain⟨ti,e,hti,hde⟩:=hti
 have hu:E.P.underlying t=some (.slice e):=by
  obtain⟨_,dd,_,g2,g3,_⟩:=Ap hti
  exact g2.trans (by rw[←g3,hde])
 refine Aii (Pv:=fun v=>∃b:Bool,v=.bool b/\(b=true->len=0)) (dst:=some d) (σ':=σ) hd (fun C w tm a ht st=>?_) (fun v hv=>by obtain⟨b,rfl,hb⟩:=hv;exact k b hb)
 have hv:=Be st.glob st.tmps x;rw[ht.opd hx]at hv;unfold R at hv;obtain⟨ado,kk,h1,h2,h3,h4,h5,h6⟩:=hv;have fin:∀{X:Value} {b:Bool},a.eval x=X->(∀l,X≠.agg l)->X≠.nilIface->(binOp .eql t X (.slice none 0 0)).run E.P w=.ok (.bool b) w->
   (execOp a.eval { dst:=some d,op:=.binOp .eql t x (.const (.slice none 0 0)) ty0,type:=ty,pos:=pos,after:=after,guard:=none }).run E.P w=.ok (.value (.bool b)) w:=by
  intro X b hX hn1 hn2 hb;have hg:=E7 (P:=E.P) (w:=w) (op:=.eql) (t:=t) (x:=x) (y:=.const (.slice none 0 0)) (a:=X) (b:=.slice none 0 0) (fun l m hh=>hn1 l hh.1) (fun hh=>hn2 hh.1)
  have hY:a.eval (.const (.slice none 0 0))=.slice none 0 0:=rfl;simp only[execOp,hX,hY,Sem.run_bind,hg,Result.andThen_ok,hb,Sem.run_pure]
 cases ado with
 |some ad=>
  have:=(gh_ (w:=w) hu ⟨_,rfl⟩ ad len kk).1.eql
  exact⟨.bool false,⟨false,rfl,fun h=>by cases h⟩,.bool false,w,C,.inl (fin h1 (fun l h=>by cases h) (fun h=>by cases h) this),by unfold R;rfl,st.sim,cf_ _ _ _⟩
 |none=>
  have hk:=h5 rfl;subst hk
  have hl:len=0:=by omega
  subst hl;have:=(gh_ (w:=w) hu ⟨_,rfl⟩ ⟨0,0,none⟩ 0 0).2.2.eql
  exact⟨.bool true,⟨true,rfl,fun _=>rfl⟩,.bool true,w,C,.inl (fin h1 (fun l h=>by cases h) (fun h=>by cases h) this),by unfold R;rfl,st.sim,cf_ _ _ _⟩
end
def Abj(E:Env)(ρ:Ad)(fl:List (Nat×Nat)):List (Nat×Operand)->Option (List (Nat×Nat×AV))
 |[]=>some []
 |(i,x)::r=>match fl[i]?,Ah E ρ x,Abj E ρ fl r with
  |some (o,n),some v,some l=>some ((o,n,v)::l)
  |_,_,_=>none
def W3(E:Env)(ρ:Ad)(sz:Nat):List (Nat×Operand)->Option (List (Nat×Nat×AV))
 |[]=>some []
 |(i,x)::r=>match Ah E ρ x,W3 E ρ sz r with
  |some v,some l=>some ((i*sz,sz,v)::l)
  |_,_=>none
section
variable {E:Env}{ρ:Ad}{σ σ':Sto}{tm:Tr AV}{Rr:Rec}
theorem Amm{P}:∀{fs:List Field} {fl:List (Nat×Nat)},bdF P fs=some fl->∀(i:Nat) (p:Nat×Nat),fl[i]? =some p->∃(f:Field) (ti:TI),fs[i]? =some f/\Ay P f.type=some ti/\p=(f.offset,ti.size)
 |[],fl,h,i,p,hp=>by simp only[bdF,af_]at h;subst h;simp at hp
 |f::r,fl,h,i,p,hp=>by
  simp only[bdF]at h
  split at h
  ·rename_i ti l hti hl
   cases h;cases i with
   |zero=>simp at hp;exact⟨f,ti,rfl,hti,hp.symm⟩
   |succ i=>obtain⟨g,tj,h1,h2,h3⟩:=Amm hl i p (by simpa using hp);exact⟨g,tj,by simpa using h1,h2,h3⟩
  ·cases h
theorem Ail(h:Has tm ρ){fs fl}(hf:bdF E.P fs=some fl):∀{l:List (Nat×Operand)} {ps:List (Nat×Nat×AV)},Abj E ρ fl l=some ps->Js E.P E tm fs l=some ps
 |[],ps,hp=>by simp only[Abj,af_]at hp;subst hp;rfl
 |(i,x)::r,ps,hp=>by
  simp only[Abj]at hp
  split at hp
  ·rename_i o n v l h1 h2 h3
   cases hp;obtain⟨f,ti,k1,k2,k3⟩:=Amm hf i _ h1;cases k3;simp only[Js,k1,Ail h hf h3,k2,h.opd h2]
  ·cases hp
theorem Abk(h:Has tm ρ){sz}:∀{l:List (Nat×Operand)} {ps:List (Nat×Nat×AV)},W3 E ρ sz l=some ps->Is E tm sz l=ps
 |[],ps,hp=>by simp only[W3,af_]at hp;subst hp;rfl
 |(i,x)::r,ps,hp=>by
  simp only[W3]at hp
  split at hp
  ·rename_i v l h2 h3
   cases hp;simp only[Is,h.opd h2,Abk h h3]
  ·cases hp
theorem Ut{t parts z cs fl ps}(hi:bdI E.P t=some (z,fl))(hp:Abj E ρ fl parts.toList=some ps)(hf:Si z ps=some cs):
  As E Rr (.build t parts) ρ σ (.agg cs) σ:=fun tm h=>by
 unfold bdI at hi
 split at hi
 ·rename_i ti hti
  split at hi
  ·rename_i z' fs hz hd
   split at hi
   ·rename_i l h1 h2
    cases hi;simp only[opA,Aw,hti,hz,hd,h1,Ail h h2 hp,M2,hf]
   ·cases hi
  ·cases hi
 ·cases hi
theorem Ai{t len sz by' z cs parts ps}(hi:elI E.P t=some (sz,by',some z))(hby:∀e,E.byref e=false)(hl:(Nat.ble (len*sz) 16777216&&Nat.beq z.length sz)=true)
  (hp:W3 E ρ sz parts.toList=some ps)(hf:Si (rep z len) ps=some cs):As E Rr (.buildSlice t len parts) ρ σ (.sv cs sz len (some len)) σ:=fun tm h=>by
 obtain⟨ti,e,te,h1,h2,h3,h4,h5,h6⟩:=Qc hi;subst h4;simp only[opA,Aw,h1,h2,h3,h6,hl,hby,Abk h hp,Id,hf]
theorem Aq5{α:Type}{enc sz}(he:∀a,(enc a).length=sz)(l:List α){a b}(hab:a<=b)(hb:b<=l.length):
  Dr ((b-a)*sz) ((l.flatMap enc).drop (a*sz))=some (((l.take b).drop a).flatMap enc):=by
 rw[Ww he]
 have bl:((l.take b).drop a).length=b-a:=by simp;omega
 have e:l.drop a=(l.take b).drop a++l.drop b:=by
  have h1:l=l.take b++l.drop b:=(cc_ b l).symm
  calc l.drop a=(l.take b++l.drop b).drop a:=by rw[←h1]
   _=(l.take b).drop a++l.drop b:=by rw[fj_ (by simp;omega)]
 rw[e,da_];have:=D0 (l:=((l.take b).drop a).flatMap enc) (r:=(l.drop b).flatMap enc)
 rwa[Dl he,bl]at this
theorem Ag0{α enc t sz by' a b zz}{l:List α}{x lo hi mx alo ahi amx c}(hel:elI E.P t=some (sz,by',zz))(he:∀a,(enc a).length=sz)
  (hx:Ah E ρ x=some (slV enc sz l))(h1:Iz E ρ lo=some alo)(h2:Iz E ρ hi=some ahi)(h3:Iz E ρ mx=some amx)(hb:Do l.length none alo ahi amx=some (a,b,c))(hab:a<=b)(hbl:b<=l.length):
  As E Rr (.slice t x lo hi mx) ρ σ (.sv (((l.take b).drop a).flatMap enc) sz (b-a) c) σ:=fun tm h=>by
 obtain⟨ti,e,te,k1,k2,k3,k4,k5,k6⟩:=Qc hel;subst k4;simp only[opA,Aw,k1,k2,k3,h.opd hx,h.opdO h1,h.opdO h2,h.opdO h3,slV,Lj,aw_,hb,Aq5 he l hab hbl,Ak]
theorem Av{t t2 sz by' n z x y d s v new}(hi:elI E.P t=some (sz,by',some z))(hl:Nat.beq z.length sz=true)(hs:Mk E.P t2=true)(hx:Ah E ρ x=some d)(hy:Ah E ρ y=some s)
  (hn:lenA s=some n)(ef:F9 σ sz s n=some new)(ha:B6 σ sz by' d n new=some (v,σ')):As E Rr (.call ⟨.builtin .append,#[x,y],#[t,t2]⟩) ρ σ v σ':=fun tm h=>by
 obtain⟨ti,e,te,h1,h2,h3,h4,h5,h6⟩:=Qc hi;subst h4 h5;unfold Mk at hs
 split at hs
 ·rename_i t2i ht2
  split at hs
  ·rename_i e2 hd2
   simp only[opA,Aw,h1,Ee,h2,h3,ht2,h6,hl,hd2,h.opd hx,h.opd hy,opds,T7,hn,ef,ha]
  ·cases hs
 ·cases hs
def Below(N:Nat)(σ σ':Sto):Prop:=nx σ<=nx σ'/\∀a,a<N->σ'.get a=σ.get a
theorem Below.rfl'{N}:Below N σ σ:=⟨nl,fun _ _=>rfl⟩
abbrev fn_:=@Below.rfl'
theorem Below.trans{N σ''}(h:Below N σ σ')(k:Below N σ' σ''):Below N σ σ'':=⟨ai_ h.1 k.1,fun a ha=>(k.2 a ha).trans (h.2 a ha)⟩
end
theorem Below.new{N σ σ'}(h:Below N σ σ')(hN:N<=nx σ)(o):Below N σ (σ'.new o):=
 ⟨by rw[Ao];have:=h.1;omega,fun a ha=>by rw[ag_,if_neg (by have:=h.1;omega)];exact h.2 a ha⟩
theorem Below.set{N a σ σ'}(h:Below N σ σ')(ha:N<=a)(o):Below N σ (σ'.set a o):=
 ⟨by rw[Aq];exact h.1,fun b hb=>by rw[aa_,if_neg Om];exact h.2 b hb⟩
theorem Ds.below{σ σ'}(hw:WFS σ)(h:Below (nx σ) σ σ'):Ds σ' σ:=a_ hw h.1 h.2
abbrev am_:=@Ds.below
theorem X5{N}:∀{l m:List AV},AV.unds N (l++m)=(AV.unds N l&&AV.unds N m)
 |[],m=>by simp[AV.unds]
 |x::l,m=>by simp only[ay_,AV.unds,X5 (l:=l),Bool.and_assoc]
theorem A2{N}{α:Type}{enc}(h:∀a,AV.unds N (enc a)=true):∀l:List α,AV.unds N (l.flatMap enc)=true
 |[]=>rfl
 |a::r=>by rw[bs_,X5,h a,A2 h r];rfl
theorem Fv{N α enc sz}(h:∀a,AV.unds N (enc a)=true)(l:List α):AV.und N (slV enc sz l)=true:=A2 h l
def Ku:List (Tr AV×AV)->List (Ad×AV)->Prop
 |[],[]=>True
 |(tm,v)::l,(ρ,u)::m=>Has tm ρ/\v=u/\Ku l m
 |_,_=>False
theorem Ku.append:∀{l l':List (Tr AV×AV)} {m m':List (Ad×AV)},Ku l m->Ku l' m'->Ku (l++l') (m++m')
 |[],l',[],m',_,h=>h
 |(tm,v)::l,l',(ρ,u)::m,m',h,k=>⟨h.1,h.2.1,Ku.append h.2.2 k⟩
 |[],_,_::_,_,h,_=>h.elim
 |_::_,_,[],_,h,_=>h.elim
theorem Ku.reverse:∀{l:List (Tr AV×AV)} {m:List (Ad×AV)},Ku l m->Ku l.reverse m.reverse
 |[],[],h=>h
 |(tm,v)::l,(ρ,u)::m,h=>by
  rw[d_,d_];exact Ku.append (Ku.reverse h.2.2) ⟨h.1,h.2.1,trivial⟩
 |[],_::_,h=>h.elim
 |_::_,[],h=>h.elim
theorem Ku.get:∀{l:List (Tr AV×AV)} {m:List (Ad×AV)},Ku l m->∀(j:Nat) (t:Tr AV) (v:AV),l[j]? =some (t,v)->∃ρ,m[j]? =some (ρ,v)/\Has t ρ
 |[],[],_,j,t,v,h=>by simp at h
 |(tm,v)::l,(ρ,u)::m,h,0,t,x,hj=>by simp at hj;obtain⟨rfl,rfl⟩:=hj;obtain⟨h1,rfl,_⟩:=h;exact⟨ρ,rfl,h1⟩
 |(tm,v)::l,(ρ,u)::m,h,j+1,t,x,hj=>by
  obtain⟨ρ',h1,h2⟩:=Ku.get h.2.2 j t x (by simpa using hj)
  exact⟨ρ',by simpa using h1,h2⟩
 |[],_::_,h,_,_,_,_=>h.elim
 |_::_,[],h,_,_,_,_=>h.elim
abbrev KD:=Ad->Sto->List Sto->List (Ad×AV)->Prop
def TD(E:Env)(nt:Nat)(Rr:Rec)(ops r:List Oper)(K:KD)(ρ:Ad)(σ:Sto)(eps:List Sto)(log:List (Ad×AV)):Prop:=
 ∀(tm:Tr AV) (df:List (Nat×List AV)) (dl:List (Tr AV×AV)),Has tm ρ->Ku dl log->∃d',T9 E ops Rr r ⟨⟨tm,nt,df,σ⟩,eps,dl⟩=some d'/\d'.s.nt=nt/\d'.s.df=df/\∃ρ' log',Has d'.s.tm ρ'/\Ku d'.log log'/\K ρ' d'.s.sto d'.eps log'
section
variable {E:Env}{nt B:Nat}{df:List (Nat×List AV)}{Q:Cc}{Rr:Rec}{ops r:List Oper}{K:KD}{ρ:Ad}{σ:Sto}{eps:List Sto}{log:List (Ad×AV)}
theorem C1(h:K ρ σ eps log):TD E nt Rr ops [] K ρ σ eps log:=fun tm df dl ht hl=>⟨_,rfl,rfl,rfl,ρ,log,ht,hl,h⟩
theorem Aq6{o v σ₁ b}(hg:∀tm,Has tm ρ->Bn ops o tm=some true)(he:B5 (Bc E o.op)=b)(hd:B0 nt o.dst=true)(h:As E Rr o.op ρ σ v σ₁)
  (k:TD E nt Rr ops r K (Dt o.dst v ρ) (cond b σ₁ σ) (cond b (σ₁::eps) eps) ((ρ,v)::log)):TD E nt Rr ops (o::r) K ρ σ eps log:=by
 intro tm df dl ht hl;obtain⟨tm',h1,h2⟩:=C6 (dst:=o.dst) hd ht v
 have:Rc E ops o Rr ⟨⟨tm,nt,df,σ⟩,eps,dl⟩=some ⟨⟨tm',nt,df,cond b σ₁ σ⟩,cond b (σ₁::eps) eps,(tm,v)::dl⟩:=by
  unfold Rc;simp only[hg tm ht,h tm ht,h1,he];cases b<;>rfl
 obtain⟨d',k1,k2⟩:=k tm' df ((tm,v)::dl) h2 ⟨ht,rfl,hl⟩
 exact⟨d',by simp only[T9,this];exact k1,k2⟩
theorem Amn{op dst}{ty:Nat}{pos after v σ₁ b}(he:B5 (Bc E op)=b)(hd:B0 nt dst=true)(h:As E Rr op ρ σ v σ₁)
  (k:TD E nt Rr ops r K (Dt dst v ρ) (cond b σ₁ σ) (cond b (σ₁::eps) eps) ((ρ,v)::log)):TD E nt Rr ops ({ dst:=dst,op:=op,type:=ty,pos:=pos,after:=after,guard:=none }::r) K ρ σ eps log:=
 Aq6 (o:={ dst:=dst,op:=op,type:=ty,pos:=pos,after:=after,guard:=none }) (fun _ _=>rfl) he hd h k
theorem Qi{o oj v σ₁}{j d:Nat}{b want e}(hg:o.guard=some (j,want))(hj:ops[j]? =some oj)(hdj:oj.dst=some d)(hb:Ad.at ρ d=some (.bool b))(hw:cond b want (!want)=true)
  (he:B5 (Bc E o.op)=e)(hd:B0 nt o.dst=true)(h:As E Rr o.op ρ σ v σ₁)
  (k:TD E nt Rr ops r K (Dt o.dst v ρ) (cond e σ₁ σ) (cond e (σ₁::eps) eps) ((ρ,v)::log)):TD E nt Rr ops (o::r) K ρ σ eps log:=
 Aq6 (fun tm ht=>by rw[Hf ht hg hj hdj hb,hw]) he hd h k
def Obl(E:Env)(eps:List Sto):List Ann->List Oper->List (Ad×AV)->Prop
 |a::az,o::os,(ρ,v)::l=>(match a.cls with
  |.read=>∀σ∈(eps.drop a.lo).take (a.hi+1-a.lo),∃σ',As E (fun _ _ _=>none) o.op ρ σ v σ'
  |_=>True)/\Obl E eps az os l
 |_,_,_=>True
theorem Obl.get{E eps}:∀{az:List Ann} {os:List Oper} {l:List (Ad×AV)},Obl E eps az os l->∀(j:Nat) (a:Ann) (o:Oper) (ρ:Ad) (v:AV),az[j]? =some a->os[j]? =some o->l[j]? =some (ρ,v)->a.cls=.read->
  ∀σ∈(eps.drop a.lo).take (a.hi+1-a.lo),∃σ',As E (fun _ _ _=>none) o.op ρ σ v σ'
 |a::az,o::os,(ρ,v)::l,h,0,a',o',ρ',v',ha,ho,hl,hc=>by
  simp at ha ho hl;obtain⟨rfl,rfl⟩:=hl;subst ha ho
  have:=h.1;rw[hc]at this;exact this
 |a::az,o::os,(ρ,v)::l,h,j+1,a',o',ρ',v',ha,ho,hl,hc=>Obl.get h.2 j a' o' ρ' v' (by simpa using ha) (by simpa using ho) (by simpa using hl) hc
 |[],_,_,_,_,_,_,_,_,h,_,_,_=>by simp at h
 |_::_,[],_,_,_,_,_,_,_,_,h,_,_=>by simp at h
 |_::_,_::_,[],_,_,_,_,_,_,_,_,h,_=>by simp at h
theorem Jm{ops anns}(h:Lo E ops=some anns):Eu ops (Region.before ops).toList=true/\Fo ops=true/\Mg (Region.before ops).toList (A8 E ops.toList 0)=true/\
  anns=Kb E (Region.before ops).toList (A8 E ops.toList 0) ops.toList 0:=by
 unfold Lo at h;simp only at h
 split at h
 ·rename_i dw
  cases h;simp only[ad_]at dw;obtain⟨⟨⟨c1,c2⟩,c3⟩,_⟩:=dw;exact⟨c1,c2,c3,rfl⟩
 ·cases h
theorem L4{id ops anns}(hm:E.P.follows .mixedOrders=true)(hR:Bk E Rr)(ha:Lo E ops=some anns)
  (h:TD E nt Rr ops.toList ops.toList (fun ρ' σ' eps log=>Obl E eps.reverse anns ops.toList log.reverse/\Q .normal ρ' σ') ρ σ [σ] []):T E nt df B (.region id ops true) Q ρ σ:=by
 intro ro n hn C w tm a ht st hB;obtain⟨c1,c2,c3,c4⟩:=Jm ha;obtain⟨d,k1,k2,k3,ρ',log',k4,k5,k6,k7⟩:=h tm df [] ht trivial;refine wpIn_mono (Aic hm hR st c1 c2 c3 k1 fun j o t v ho hl hc hg σk hσ=>?_) fun e a' w' he=>?_
 ·obtain⟨ρj,q1,q2⟩:=k5.reverse.get j t v hl
  have cv:=Ix (E:=E) (b:=(Region.before ops).toList) (effs:=A8 E ops.toList 0) ops.toList 0 j o (by simpa using ho)
  rw[←c4]at cv;simp only[bn_]at cv
  obtain⟨σ',hto⟩:=k6.get j _ o ρj v cv (by simpa using ho) q1 hc σk (by simp only[Gc];exact hσ)
  have:=hto t q2;refine⟨σ',?_⟩
  have hne:B5 (Bc E o.op)=false:=by rw[hc];rfl
  rw[←Iy (Rr:=fun _ _ _=>none) hc];exact this
 ·obtain⟨y,hy,C',h1,h2,h3⟩:=he;rw[ao_]at hy;subst hy;obtain⟨⟨tm',nt',df',σ'⟩,eps',dl'⟩:=d;simp only at k2 k3;subst k2 k3;exact⟨.normal,tm',ρ',σ',C',h1,k4,k7,h2,ai_ hB h3.next,h3.base hB⟩
def Amo(E:Env)(ops:List Oper):Bool:=ops.all fun o=> !B5 (Bc E o.op)
def KD0(Q:Cc)(σ:Sto):KD:=fun ρ' σ' eps _=>σ'=σ/\eps=[σ]/\Q .normal ρ' σ
theorem Aui{id ops anns}(hm:E.P.follows .mixedOrders=true)(ha:Lo E ops=some anns)(hc:Amo E ops.toList=true)
  (h:TD E nt (fun _ _ _=>none) ops.toList ops.toList (KD0 Q σ) ρ σ [σ] []):T E nt df B (.region id ops true) Q ρ σ:=by
 intro ro n hn C w tm a ht st hB;obtain⟨c1,c2,c3,c4⟩:=Jm ha;obtain⟨d,k1,k2,k3,ρ',log',k4,k5,k6,k7,k8⟩:=h tm df [] ht trivial;refine wpIn_mono (Aic hm di_ st c1 c2 c3 k1 fun j o t v ho hl hcl hg σk hσ=>?_) fun e a' w' he=>?_
 ·rw[k7]at hσ
  have hσ':σk=σ:=by
   have:=fl_ (cm_ hσ)
   simpa using this
  subst hσ';obtain⟨log,eps,lex,g2,g3,g4,g5⟩:=Lz k1;simp only[dy_,bd_,d_]at g2 g3;obtain⟨x1,x2,x3,x4,x5⟩:=Wq lex
  obtain⟨t',v',t₁,σ₀,σ₁,y1,y2,y3,y4,y5,y6⟩:=x5 j o (by simpa using ho)
  rw[g2]at hl;rw[hl]at y1;cases y1
  have px:eps=[]:=by
   rw[k7]at g3
   simpa using g3.symm
  rw[px]at y3
  have hσ0:σ₀=σk:=by
   have:=(ae_.1 y3).1;simp only[fh_]at this
   have h0:cnt E ops.toList j=0:=by omega
   rw[h0]at y3;simpa using y3.symm
  subst hσ0
  have hne:B5 (Bc E o.op)=false:=by rw[hcl];rfl
  rcases y5 with⟨z1,z2⟩|⟨z1,z2⟩
  ·exact⟨σ₁,by rw[←Iy (Rr:=fun _ _ _=>none) hcl];exact z2⟩
  ·rw[z1]at hg;cases hg
 ·obtain⟨y,hy,C',h1,h2,h3⟩:=he;rw[ao_]at hy;subst hy;obtain⟨⟨tm',nt',df',σ'⟩,eps',dl'⟩:=d;simp only at k2 k3 k6;subst k2 k3 k6;exact⟨.normal,tm',ρ',σ',C',h1,k4,k8,h2,ai_ hB h3.next,h3.base hB⟩
def Rm(E:Env):List Ann->List Oper->Nat->Bool
 |a::az,o::os,c=>(match a.cls with
  |.read=>Nat.beq a.lo c&&Nat.beq a.hi c
  |_=>true)&&Rm E az os (cond (B5 (Bc E o.op)) (c+1) c)
 |_,_,_=>true
theorem X6{E}:∀{az:List Ann} {os:List Oper} {c:Nat},Rm E az os c=true->∀(j:Nat) (a:Ann) (o:Oper),az[j]? =some a->os[j]? =some o->a.cls=.read->a.lo=c+cnt E os j/\a.hi=c+cnt E os j
 |a::az,o::os,c,h,0,a',o',ha,ho,hc=>by
  simp at ha ho;subst ha ho
  simp only[Rm,hc,ad_]at h
  exact⟨by simp only[cnt];exact ac_ h.1.1,by simp only[cnt];exact ac_ h.1.2⟩
 |a::az,o::os,c,h,j+1,a',o',ha,ho,hc=>by
  simp only[Rm,ad_]at h
  have:=X6 h.2 j a' o' (by simpa using ha) (by simpa using ho) hc
  simp only[cnt];cases he:B5 (Bc E o.op)with
  |true=>rw[he]at this;simp only[cond_true]at this;rw[if_pos rfl];omega
  |false=>rw[he]at this;simp only[cond_false]at this;rw[if_neg (by simp)];omega
 |[],_,_,_,_,_,_,h,_,_=>by simp at h
 |_::_,[],_,_,_,_,_,_,h,_=>by simp at h
def KDS(Q:Cc):KD:=fun ρ' σ' _ _=>Q .normal ρ' σ'
theorem Auj{id ops anns}(hm:E.P.follows .mixedOrders=true)(hR:Bk E Rr)(ha:Lo E ops=some anns)(hp:Rm E anns ops.toList 0=true)
  (h:TD E nt Rr ops.toList ops.toList (KDS Q) ρ σ [σ] []):T E nt df B (.region id ops true) Q ρ σ:=by
 intro ro n hn C w tm a ht st hB;obtain⟨c1,c2,c3,c4⟩:=Jm ha;obtain⟨d,k1,k2,k3,ρ',log',k4,k5,k6⟩:=h tm df [] ht trivial;refine wpIn_mono (Aic hm hR st c1 c2 c3 k1 fun j o t v ho hl hcl hg σk hσ=>?_) fun e a' w' he=>?_
 ·have cv:=Ix (E:=E) (b:=(Region.before ops).toList) (effs:=A8 E ops.toList 0) ops.toList 0 j o (by simpa using ho)
  rw[←c4]at cv;simp only[bn_]at cv
  obtain⟨q1,q2⟩:=X6 hp j _ o cv (by simpa using ho) hcl
  simp only[bn_,Gc]at q1 q2
  rw[q1,q2,show cnt E ops.toList j+1-cnt E ops.toList j=1 by omega]at hσ
  obtain⟨log,eps,lex,g2,g3,g4,g5⟩:=Lz k1;simp only[dy_,bd_,d_]at g2 g3;obtain⟨x1,x2,x3,x4,x5⟩:=Wq lex
  obtain⟨t',v',t₁,σ₀,σ₁,y1,y2,y3,y4,y5,y6⟩:=x5 j o (by simpa using ho)
  rw[g2]at hl;rw[hl]at y1;cases y1
  have fg:σk=σ₀:=by
   rw[g3]at hσ;obtain⟨i,hi⟩:=au_.1 hσ;rw[ea_]at hi
   split at hi
   ·rename_i hlt
    have h0:i=0:=by omega
    subst h0;rw[g_,fd_]at hi;have e1:([σ]++eps)[cnt E ops.toList j]? =some σ₀:=y3;rw[e1]at hi;cases hi;rfl
   ·cases hi
  subst fg
  have hne:B5 (Bc E o.op)=false:=by rw[hcl];rfl
  rcases y5 with⟨z1,z2⟩|⟨z1,z2⟩
  ·rw[Iy hcl]at z2;exact⟨σ₁,z2⟩
  ·rw[z1]at hg;cases hg
 ·obtain⟨y,hy,C',h1,h2,h3⟩:=he;rw[ao_]at hy;subst hy;obtain⟨⟨tm',nt',df',σ'⟩,eps',dl'⟩:=d;simp only at k2 k3;subst k2 k3;exact⟨.normal,tm',ρ',σ',C',h1,k4,k6,h2,ai_ hB h3.next,h3.base hB⟩
theorem Bq{l f args}{tys:Array Nat}{k:Nat}{first cap vs v σ'}(hf:Ah E ρ f=some (.fn (.func k) first cap))(ha:Kc E ρ args.toList=some vs)
  (hr:Dk l (.fn k) (first++vs++cap) σ=some (v,σ')):As E (Dk l) (.call ⟨.value f,args,tys⟩) ρ σ v σ':=Ami hf ha rfl hr
theorem Bv{f a s v s' r}:Dk ((f,a,s,v,s')::r) (.fn f) a s=some (v,s'):=by
 simp only[Dk,and_self,if_true]
end
section
variable {E:Env}{nt B:Nat}{df:List (Nat×List AV)}{ρ ρ':Ad}{σ σ':Sto}{K:Ad->Sto->Prop}
theorem Ak4{v:AV}{sz cs}(hc:v.cellsN sz=some cs):cs.length=sz:=by
 unfold AV.cellsN at hc
 split at hc<;>try (cases hc;done)
 ·cases hb':Nat.beq ‹List AV›.length sz with
  |true=>rw[hb']at hc;cases hc;exact ac_ hb'
  |false=>rw[hb']at hc;cases hc
 ·cases hb':Nat.beq sz 1 with
  |true=>rw[hb']at hc;cases hc;exact(ac_ hb').symm
  |false=>rw[hb']at hc;cases hc
theorem Ak5{v sz N cs}(hc:v.cellsN sz=some cs)(hv:AV.und N v=true):AV.unds N cs=true:=by
 unfold AV.cellsN at hc
 split at hc<;>try (cases hc;done)
 ·cases hb':Nat.beq ‹List AV›.length sz with
  |true=>rw[hb']at hc;cases hc;exact hv
  |false=>rw[hb']at hc;cases hc
 ·cases hb':Nat.beq sz 1 with
  |true=>rw[hb']at hc;cases hc;simp only[AV.unds,hv,be_]
  |false=>rw[hb']at hc;cases hc
theorem Rn{ops r t d e sz agg x y}{ty ty' ty'':Nat}{pos pos' pos'' after after' after'' z cs v u}(hz:zI E.P t=some z)(hi:ldI E.P t=some (sz,agg))(hl:Nat.beq z.length sz=true)
  (hy:Ah E ρ y=some u)(hy':∀p,Ah E ((d,p)::ρ) y=some u)(hv:Ah E ρ x=some v)(hx:∀p,Ah E ((e,u)::(d,p)::ρ) x=some v)(hde:Nat.beq e d=false)(hc:v.cellsN sz=some cs)(hd:Nat.blt d nt=true)(he:Nat.blt e nt=true)[Se E](hdf:df=[])
  (k:TO E nt df B ops r K ((e,u)::(d,.pv cs)::ρ) σ):
  TO E nt df B ops ({ dst:=some d,op:=.alloc t,type:=ty,pos:=pos,after:=after,guard:=none }::{ dst:=some e,op:=.assign y,type:=ty'',pos:=pos'',after:=after'',guard:=none }::
   { dst:=none,op:=.store t (.tmp d) x,type:=ty',pos:=pos',after:=after',guard:=none }::r) K ρ σ:=by
 subst hdf;intro ro n hn C w tm a ht st hB;have hwf:=st.sim.wfs;have em:∀i u,Ad.at ρ i=some u->AV.und (nx σ) u=true:=fun i u hu=>R.und _ _ (st.tmps i u (ht i u hu))
 have hou:∀(o:Operand) v,Ah E ρ o=some v->AV.und (nx σ) v=true:=fun o v ho=>by
  have hvR:=Be st.glob st.tmps o;rw[ht.opd ho]at hvR;exact R.und _ _ hvR
 have hcu:=Ak5 hc (hou x v hv)
 have hcs:cs.length=z.length:=by rw[Ak4 hc];exact(ac_ hl).symm
 have key:TO E nt [] B ops ({ dst:=some d,op:=.alloc t,type:=ty,pos:=pos,after:=after,guard:=none }::{ dst:=some e,op:=.assign y,type:=ty'',pos:=pos'',after:=after'',guard:=none }::
   { dst:=none,op:=.store t (.tmp d) x,type:=ty',pos:=pos',after:=after',guard:=none }::r) K ρ σ:=by
  refine Qg noR (σ₁:=σ.new (.cells z)) (ρ₁:=(d,.pr (nx σ) 0)::ρ) (fun tm' ht'=>⟨_,S9 hz hd,ht'.put d _⟩) ?_
  refine X4 noR rfl he (Gd (hy' _)) ?_
  refine X4 noR rfl rfl (By (vs:=z) (vs':=cs) (ad:=nx σ) (off:=0) (v:=v) (cs:=cs) hi (by simp[Ah,Dt,Ad.at,aw_,hde]) (hx _) hc Eg (Hh hcs)) ?_
  simp only[Dt];refine Aq3 σ ((e,u)::(d,.pv cs)::ρ) ?_ hB ?_ k
  ·refine a_ hwf (by rw[Aq,Ao];exact dm_ _) fun b hb=>?_
   rw[aa_,if_neg Om,ag_,if_neg Om]
  ·intro i u' hu;simp only[Ad.at]at hu⊢;cases hb:Nat.beq e i with
   |true=>
    rw[hb]at hu;simp only[cond_true,af_]at hu⊢;subst hu;exact⟨_,rfl,.same (hou y _ hy)⟩
   |false=>
    rw[hb]at hu;simp only[cond_false]at hu⊢;cases hb2:Nat.beq d i with
    |true=>
     rw[hb2]at hu;simp only[cond_true,af_]at hu⊢;subst hu
     refine⟨_,rfl,.pr (vs:=cs) (by rw[aa_,if_pos rfl]) ?_ (dj_ hcu)⟩
     cases hg:σ.get (nx σ)with
     |none=>rfl
     |some O=>exact absurd (hwf _ _ hg).1 (Nat.lt_irrefl _)
    |false=>rw[hb2]at hu;exact⟨u',hu,.same (em i u' hu)⟩
 exact key ro n hn C w tm a ht st hB
def KDI(Q:Cc)(σ:Sto):KD:=fun ρ' σ' eps _=>σ'=σ/\(∀e∈eps,e=σ)/\Q .normal ρ' σ
theorem Auk{Q Rr id ops anns}(hm:E.P.follows .mixedOrders=true)(hR:Bk E Rr)(ha:Lo E ops=some anns)
  (h:TD E nt Rr ops.toList ops.toList (KDI Q σ) ρ σ [σ] []):T E nt df B (.region id ops true) Q ρ σ:=by
 intro ro n hn C w tm a ht st hB;obtain⟨c1,c2,c3,c4⟩:=Jm ha;obtain⟨d,k1,k2,k3,ρ',log',k4,k5,k6,k7,k8⟩:=h tm df [] ht trivial;refine wpIn_mono (Aic hm hR st c1 c2 c3 k1 fun j o t v ho hl hcl hg σk hσ=>?_) fun e a' w' he=>?_
 ·have hσ':σk=σ:=k7 σk (by simpa using fl_ (cm_ hσ))
  subst hσ';obtain⟨log,eps,lex,g2,g3,g4,g5⟩:=Lz k1;simp only[dy_,bd_,d_]at g2 g3;obtain⟨x1,x2,x3,x4,x5⟩:=Wq lex
  obtain⟨t',v',t₁,σ₀,σ₁,y1,y2,y3,y4,y5,y6⟩:=x5 j o (by simpa using ho)
  rw[g2]at hl;rw[hl]at y1;cases y1
  have hσ0:σ₀=σk:=by
   refine k7 σ₀ ?_
   have:σ₀∈d.eps.reverse:=by rw[g3];exact ab_ y3
   simpa using this
  subst hσ0
  have hne:B5 (Bc E o.op)=false:=by rw[hcl];rfl
  rcases y5 with⟨z1,z2⟩|⟨z1,z2⟩
  ·rw[Iy hcl]at z2;exact⟨σ₁,z2⟩
  ·rw[z1]at hg;cases hg
 ·obtain⟨y,hy,C',h1,h2,h3⟩:=he;rw[ao_]at hy;subst hy;obtain⟨⟨tm',nt',df',σ'⟩,eps',dl'⟩:=d;simp only at k2 k3 k6;subst k2 k3 k6;exact⟨.normal,tm',ρ',σ',C',h1,k4,k8,h2,ai_ hB h3.next,h3.base hB⟩
theorem Dw{f f' a a' s s' t v r}{o:Option (AV×Sto)}(h:f'≠f)(k:Dk r (.fn f') a' t=o):Dk ((f,a,s,v,s')::r) (.fn f') a' t=o:=by
 simp only[Dk];rw[if_neg (fun hh=>h hh.1)];exact k
theorem Am{a t b off sz agg vs v r l}(hi:ldI E.P t=some (sz,agg))(ha:Ad.at ρ a=some (.pr b off))(hc:σ.cells b=some vs)(hv:Cz sz agg (vs.drop off)=some v)(hr:Us E ρ σ r=some l):
  Us E ρ σ (.cell a t::r)=some (v::l):=by
 obtain⟨ti,h1,h2,h3⟩:=Rj hi;subst h2 h3;simp only[Us,h1,ha,hc,hv,hr]
theorem Ba{t v r l}(hv:Ad.at ρ t=some v)(hr:Us E ρ σ r=some l):Us E ρ σ (.tmp t::r)=some (v::l):=by
 simp only[Us,hv,hr]
theorem Ex{σ τ sz}:Fz σ τ (.nil (.slice none 0 0)) (.sv [] sz 0 none):=.nils (fun q hq=>by cases hq)
end
end Go.AM
