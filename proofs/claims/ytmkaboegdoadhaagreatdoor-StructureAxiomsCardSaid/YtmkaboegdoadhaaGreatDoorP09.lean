/- A part of the proof; shortened by program. -/
import Derived.Test.YtmkaboegdoadhaaGreatDoorP08
set_option maxRecDepth 100000
set_option maxHeartbeats 4000000
set_option linter.all false
namespace Go.AM
open Go
theorem bT{E}:Bk E (λ_ _ _=>none):=sQ
section
variable {E:aZ}{nt B:Nat}{df:List (Nat×List I)}{ρ ρ':Ad}{J J':F}{K:Ad->F->Prop}
theorem OV{G r op dst}{l:Nat}{pos after}{Pv:I->Prop}(hd:B0 nt dst=true)
  (h:∀C w e a,Has e ρ->cV E C w ⟨e,nt,df,J⟩ a->∃v,Pv v/\S5 E.P C w J (execOp a.eval { dst:=dst,op:=op,type:=l,pos:=pos,after:=after,guard:=none }) v J')
  (k:∀v,Pv v->TO E nt df B G r K (Dt dst v ρ) J'):TO E nt df B G ({ dst:=dst,op:=op,type:=l,pos:=pos,after:=after,guard:=none }::r) K ρ J:=by
 intro S n hn C w e a Q T N b i L c br P hQ;obtain⟨g,m⟩:=L1 hn
 have ho:b[i]? =some { dst:=dst,op:=op,type:=l,pos:=pos,after:=after,guard:=none }:=by have:=P 0 zS;grind
 simp only[cZ,kI,dL,wpOpsIn,ho];have hw:Region.wanted { dst:=dst,op:=op,type:=l,pos:=pos,after:=after,guard:=none } (yielded b a.tmps)=true:=rfl;rw[if_pos hw];refine Ev g ?_;obtain⟨v,o,x,s,u,d,h2,h3,f⟩:=h C w e a Q T;obtain⟨p,g1,g2⟩:=C6 (dst:=dst) hd Q v;have go:∀y,R u (O J') s v y->wpOpsIn (Cy S) n E.P b L (List.range' (i+1) r.length++c) (a.put dst y) s:=λy hy=>
  k v o S n m u s p _ g2 (T.put h3 f hy g1) (bD N f.next) b (i+1) L c br (λj hj=>by have:=P (j+1) Z;grind)
   λU w2 X q t W q1 q2 q3 qB q4=>hQ U w2 X q t W q1 q2 q3 qB ((f.base N).trans q4)
 unfold Oper.wp
 rcases d with d|⟨d,rfl⟩
 ·rw[d,Oper.upon_value];grind
 ·rw[d,Oper.upon_skip];grind
theorem Agx{G r op dst}{l:Nat}{pos after v}(g:B0 nt dst=true)
  (h:∀C w b a,Has b ρ->cV E C w ⟨b,nt,df,J⟩ a->S5 E.P C w J (execOp a.eval { dst:=dst,op:=op,type:=l,pos:=pos,after:=after,guard:=none }) v J')
  (k:TO E nt df B G r K (Dt dst v ρ) J'):TO E nt df B G ({ dst:=dst,op:=op,type:=l,pos:=pos,after:=after,guard:=none }::r) K ρ J:=
 OV (Pv:=λu=>u=v) g (λC w b a c d=>⟨v,rfl,h C w b a c d⟩) Z
theorem Y3{P C w}(j:aX P C w J){t n x X}(W:R C (O J) w x X){a}(h:x.cellsN n=some a):Iv P C w J (Instr.box t X) (.pv a) J:=by
 obtain⟨e,g,i,f⟩:=Hc h W;have p:=K3 w (.cells X.cells t (0,0));obtain⟨d,b⟩:=j.push p;refine⟨_,.pointer (some ⟨w.heap.size,0,none⟩),_,C,?_,rfl,d,b,?_⟩
 ·unfold Instr.box
  simp[newVar,newRow]
 ·unfold R;refine⟨_,_,rfl,λ_ c=>?_,xl p.here (e.ext b) f Z⟩
  have:=j.own_lt c;grind
theorem Jv{G r t x dst}{l:Nat}{pos after v T e c}(L:gN E.P t=some (T,e))(W:Ah E ρ x=some v)(P:v.cellsN T=some c)(g:B0 nt dst=true)
  (k:TO E nt df B G r K (Dt dst (.pv c) ρ) J):TO E nt df B G ({ dst:=dst,op:=.box t x,type:=l,pos:=pos,after:=after,guard:=none }::r) K ρ J:=by
 refine Agx g (λC w h a f b=>?_) k
 have d:=Be b.glob b.tmps x;rw[f.opd W]at d;exact .ofRuns (Y3 b.sim d P)
theorem S9{G}{t d l:Nat}{pos after U n}(b:zI E.P t=some U)(g:Nat.blt d nt=true):
  Yi E G { dst:=some d,op:=.alloc t,type:=l,pos:=pos,after:=after,guard:=none } (λ_ _ _=>none) ⟨n,nt,df,J⟩=some ⟨n.put (d+1) d (some (.pr (O J) 0)),nt,df,J.new (.cells U)⟩:=by
 rw[Rk (s:=⟨n,nt,df,J⟩) rfl rfl]
 have:bB E (.alloc t) (λ_ _ _=>none) n J=some (.pr (O J) 0,J.new (.cells U)):=by
  unfold zI at b
  split at b
  ·rename_i c a;simp only[bB,Aw,a,b,uA]
  grind
 simp only[this,Ka,g,cond_true,Ef]
theorem Eg{T}:(J.new (.cells T)).cells (O J)=some T:=by
 unfold F.cells;grind
theorem Hh:∀{z l:List I},l.length=z.length->Et z 0 l=some l
 |[],[],_=>rfl
 |x::z,y::l,h=>by
  have:=Hh (z:=z) (l:=l) Z;simp only[Et,this]
 |[],_::_,h=>by simp at h
 |_::_,[],h=>by simp at h
theorem Ho{G r t d T e x}{ty p:Nat}{pos j after c U cs v}(hz:zI E.P t=some U)(hi:gN E.P t=some (T,e))(hl:Nat.beq U.length T=true)
  (hx:∀u,Ah E ((d,u)::ρ) x=some v)(X:Ah E ρ x=some v)(P:v.cellsN T=some cs)(hd:Nat.blt d nt=true)[Se E](N:df=[])
  (k:TO E nt df B G r K ((d,.pv cs)::ρ) J):
  TO E nt df B G ({ dst:=some d,op:=.alloc t,type:=ty,pos:=pos,after:=after,guard:=none }::{ dst:=none,op:=.store t (.tmp d) x,type:=p,pos:=j,after:=c,guard:=none }::r) K ρ J:=by
 subst N;intro ro n hn C w tm a s l W
 have y:cs.length=U.length:=by
  have q:=bK hl;have g:=Be l.glob l.tmps x;rw[s.opd X]at g;obtain⟨q1,q2,_⟩:=Hc P g
  grind
 have o:=l.sim.wfs;have em:∀i u,Ad.at ρ i=some u->I.und (O J) u=true:=λi u h=>R.und _ _ (l.tmps i u (s i u h))
 have m:I.und (O J) v=true:=by
  have g:=Be l.glob l.tmps x;rw[s.opd X]at g;exact R.und _ _ g
 have L:I.unds (O J) cs=true:=by
  unfold I.cellsN at P
  split at P<;>try (cases P;done)
  ·cases f:Nat.beq ‹List I›.length T with
   |true=>rw[f]at P;cases P;exact m
   |false=>rw[f]at P;cases P
  ·cases f:Nat.beq T 1 with
   |true=>rw[f]at P;cases P;simp only[I.unds,m,dR]
   |false=>rw[f]at P;cases P
 have S:TO E nt [] B G ({ dst:=some d,op:=.alloc t,type:=ty,pos:=pos,after:=after,guard:=none }::{ dst:=none,op:=.store t (.tmp d) x,type:=p,pos:=j,after:=c,guard:=none }::r) K ρ J:=by
  refine Qg bT (J₁:=J.new (.cells U)) (ρ₁:=(d,.pr (O J) 0)::ρ) (λa7 Q=>⟨_,S9 hz hd,Q.put d _⟩) ?_
  refine X4 bT rfl rfl (By (vs:=U) (vs':=cs) (ad:=O J) (off:=0) (v:=v) (cs:=cs) hi (by simp[Ah,Ad.at,cb]) (hx _) P Eg (Hh y)) ?_
  simp only[Dt];refine JK J ((d,.pv cs)::ρ) ?_ W ?_ k
  ·refine a_ o Z λb q=>?_
   grind
  ·intro i u h;simp only[Ad.at]at h⊢;cases q:Nat.beq d i with
   |true=>
    rw[q]at h;simp only[cond_true,bH]at h⊢;subst h;refine⟨_,rfl,.pr (vs:=cs) Z ?_ (jg L)⟩;cases H:J.get (O J)with
    |none=>rfl
    |some a8=>exact absurd (o _ _ H).1 (Nat.lt_irrefl _)
   |false=>rw[q]at h;exact⟨u,h,.same (em i u h)⟩
 exact S ro n hn C w tm a s l W
def Hy(f s:Ad):Prop:=∀i v,Ad.at f i=some v->Ad.at s i=some v
theorem Hy.refl:Hy ρ ρ:=λ_ _ h=>h
theorem Hy.cons{d v}(g:Ad.at ρ d=none)(h:Hy ρ ρ'):Hy ρ ((d,v)::ρ'):=λi u a=>by
 simp only[Ad.at];cases b:Nat.beq d i with
 |true=>have:=bK b;subst this;rw[g]at a;cases a
 |false=>exact h i u a
theorem Zw{G r}(h:TO E nt df B G r K ρ J)(j:Hy ρ ρ'):TO E nt df B G r K ρ' J:=
 λe n b C w g a c f=>h e n b C w g a (λi v d=>c i v (j i v d)) f
theorem Hy.put{d v}(h:Hy ρ ρ'):Hy ((d,v)::ρ) ((d,v)::ρ'):=λi u a=>by
 simp only[Ad.at]at a⊢;cases b:Nat.beq d i with
 |true=>rw[b]at a;exact a
 |false=>rw[b]at a;exact h i u a
theorem Eh{G o}(H:o.guard=none):∀a,Hy ρ a->∀b,Has b a->Bn G o b=some true:=λ_ _ _ _=>by simp only[Bn,H]
theorem Ft{G}{o e:Oper}{j d:Nat}{b n}(H:o.guard=some (j,n))(h:G[j]? =some e)(t:e.dst=some d)(Q:Ad.at ρ d=some (.bool b))(i:cond b n (!n)=true):
  ∀a,Hy ρ a->∀c,Has c a->Bn G o c=some true:=λa f c g=>by rw[Hf g H h t (f _ _ Q),i]
theorem Zx{G r o}{t:Nat}{c x y v}(H:∀a,Has a ρ->Bn G o a=some true)(m:o.op=.pick c x y)(e:o.dst=some t)(i:Nat.blt t nt=true)
  (h:As E (λ_ _ _=>none) (.pick c x y) ρ J v J)(k:TO E nt df B G r K ((t,v)::ρ) J):TO E nt df B G (o::r) K ρ J:=by
 refine Qg sQ (λa b=>?_) k
 obtain⟨d,g,f⟩:=C6 (dst:=o.dst) (by rw[e];exact i) b v
 rw[e]at f;refine⟨d,?_,f⟩
 rw[Rk (s:=⟨a,nt,df,J⟩) (H a b) (by rw[m];rfl),m]
 simp only[h a b,g]
theorem Hq(n b q){G r y}{o:Oper}{t:Nat}{c x}(l:Ah E ρ c=some (.bool b))
  (w:r.drop n=o::y)(m:o.op=.pick c x (.const (.bool false)))(e:o.dst=some t)(p:Nat.blt t nt=true)(H:∀a,Hy ρ a->∀s,Has s a->Bn G o s=some true)
  (h:b=true->TO E nt df B G (r.take n) (λa f=>f=J/\Hy ρ a/\Ah E a x=some (.bool q)) ρ J)
  (u:b=false->TO E nt df B G (r.take n) (λa f=>f=J/\Hy ρ a) ρ J)
  (k:TO E nt df B G y K ((t,.bool (b&&q))::ρ) J):TO E nt df B G r K ρ J:=by
 refine QO n ?_;rw[w]
 have i:∀a,Hy ρ a->Ah E a c=some (.bool b):=λa L=>by
  cases c with
  |tmp j=>exact L _ _ l
  |_=>exact l
 cases b with
 |true=>
  refine(h rfl).mono λa f ⟨g,d,C⟩=>?_
  subst g;exact Zx (H a d) m e p (A3 (i a d) rfl C) (Zw Z d.put)
 |false=>
  refine(u rfl).mono λa f ⟨g,d⟩=>?_
  subst g;exact Zx (H a d) m e p (Au (v:=.bool false) (i a d) rfl rfl) (Zw Z d.put)
theorem Qh(n b q){G r y}{o:Oper}{t:Nat}{c x}(l:Ah E ρ c=some (.bool b))
  (w:r.drop n=o::y)(m:o.op=.pick c (.const (.bool true)) x)(e:o.dst=some t)(p:Nat.blt t nt=true)(H:∀a,Hy ρ a->∀s,Has s a->Bn G o s=some true)
  (h:b=false->TO E nt df B G (r.take n) (λa f=>f=J/\Hy ρ a/\Ah E a x=some (.bool q)) ρ J)
  (u:b=true->TO E nt df B G (r.take n) (λa f=>f=J/\Hy ρ a) ρ J)
  (k:TO E nt df B G y K ((t,.bool (b||q))::ρ) J):TO E nt df B G r K ρ J:=by
 refine QO n ?_;rw[w]
 have i:∀a,Hy ρ a->Ah E a c=some (.bool b):=λa L=>by
  cases c with
  |tmp j=>exact L _ _ l
  |_=>exact l
 cases b with
 |false=>
  refine(h rfl).mono λa f ⟨g,d,C⟩=>?_
  subst g;exact Zx (H a d) m e p (Au (i a d) rfl C) (Zw Z d.put)
 |true=>
  refine(u rfl).mono λa f ⟨g,d⟩=>?_
  subst g;exact Zx (H a d) m e p (A3 (v:=.bool true) (i a d) rfl rfl) (Zw Z d.put)
theorem Auf{G r}{o c:Oper}{j d:Nat}{n}(H:o.guard=some (j,n))(h:G[j]? =some c)(t:c.dst=some d)(Q:Ad.at ρ d=some An)
  (g:B0 nt o.dst=true)(k:TO E nt df B G r K (Dt o.dst An ρ) J):TO E nt df B G (o::r) K ρ J:=by
 refine Qg sQ (λf b=>?_) k
 obtain⟨a,i,e⟩:=C6 (dst:=o.dst) g b An;refine⟨a,?_,e⟩
 have:Bn G o f=some false:=by simp only[Bn,H,h,t,b d _ Q];rfl
 unfold Yi
 grind
theorem AY{G r}{oj:Oper}{j dj:Nat}{b d f c}{g:Array Nat}{dst}{l:Nat}{pos after}{k:Nat}{first y vs t h}
  (hj:G[j]? =some oj)(T:oj.dst=some dj)(hb:Ad.at ρ dj=some (.bool b))(hw:cond b d (!d)=true)(hd:B0 nt dst=true)
  (hf:Ah E ρ f=some (.fn (.func k) first y))(ha:Kc E ρ c.toList=some vs)(hl:first++vs++y=t)(hc:Al E k t J h)
  (kk:∀v N,h v N->TO E nt df B G r K (Dt dst v ρ) N):TO E nt df B G ({ dst:=dst,op:=.call ⟨.value f,c,g⟩,type:=l,pos:=pos,after:=after,guard:=some (j,d) }::r) K ρ J:=by
 intro ro n hn C w tm a P m hB s i QQ L br hr hQ;obtain⟨W,X⟩:=L1 hn
 have ho:s[i]? =some { dst:=dst,op:=.call ⟨.value f,c,g⟩,type:=l,pos:=pos,after:=after,guard:=some (j,d) }:=by have:=hr 0 zS;grind
 simp only[cZ,kI,dL,wpOpsIn,ho]
 have a7:Region.wanted { dst:=dst,op:=.call ⟨.value f,c,g⟩,type:=l,pos:=pos,after:=after,guard:=some (j,d) } (yielded s a.tmps)=true:=by
  refine Dp (o:={ dst:=dst,op:=.call ⟨.value f,c,g⟩,type:=l,pos:=pos,after:=after,guard:=some (j,d) }) m.tmps ?_;rw[br,Hf (o:={ dst:=dst,op:=.call ⟨.value f,c,g⟩,type:=l,pos:=pos,after:=after,guard:=some (j,d) }) P rfl hj T hb,hw]
 rw[if_pos a7];refine Ev W ?_;have u:=Be m.glob m.tmps f;rw[P.opd hf]at u;unfold R at u;obtain⟨p,q,u,hp,hq⟩:=u;have bp:=Dm m.glob m.tmps c.toList;rw[P.opds ha]at bp
 have bs:RL C (O J) w t (p++c.map a.eval++q).toList:=by
  subst hl;simp only[pM,c_];exact(hp.append bp).append hq
 obtain⟨⟨fn,g1,g2,g3⟩,b8⟩:=hc C w _ m.sim m.glob bs
 have bq:(execOp a.eval { dst:=dst,op:=.call ⟨.value f,c,g⟩,type:=l,pos:=pos,after:=after,guard:=some (j,d) }).run E.P w=.ok (.enter k (p++c.map a.eval++q)) w:=by
  have Q:fn.name≠ "runtime.NumGoroutine" :=Z;have S:fn.body≠none:=Z
  simp[execOp,resolve,u,Deferred.ofValue,invoke,callFunc,g1,Q,S]
 unfold Oper.wp;rw[bq,Oper.upon_enter];refine b8.mono λe w' U=>?_
 cases e with
 |returned x=>
  obtain⟨v,N,C',k0,k1,k2,k3⟩:=U;obtain⟨a8,h1,h2⟩:=C6 (dst:=dst) hd P v
  exact kk v N k0 ro n X C' w' a8 _ h2 (m.put k1 k2 k3 h1) (bD hB k2.next) s (i+1) QQ L br (λj hj=>by have:=hr (j+1) Z;grind)
   λC2 w2 a2 a9 aa J2 q1 q2 q3 qB q4=>hQ C2 w2 a2 a9 aa J2 q1 q2 q3 qB ((k2.base hB).trans q4)
 |panicked _=>exact U.elim
 |outgrown=>exact U.elim
end
abbrev aH:=List UInt8
def sV(s:aH):I:=.str (s.map UInt8.toNat)
def aD{C:Type}(a:C->List I)(T:Nat)(l:List C):I:=.sv (l.flatMap a) T l.length none
def bV(b:Bool):I:=.bool b
def D(n:Int):I:=.int .i64 n
theorem Fu{s t:aH}:(s.map UInt8.toNat=t.map UInt8.toNat)↔s=t:=List.map_inj_right (λa b h=>UInt8.toNat_inj.1 h)
theorem Dl{C:Type}{enc:C->List I}{sz}(p:∀a,(enc a).length=sz):∀l:List C,(l.flatMap enc).length=l.length*sz
 |[]=>by simp
 |a::r=>by simp only[ej,gW,p,Dl p r,cZ,ya];omega
theorem Ww{C:Type}{b:C->List I}{T}(p:∀a,(b a).length=T):∀(l:List C) (i:Nat),(l.flatMap b).drop (i*T)=(l.drop i).flatMap b
 |l,0=>by simp
 |[],i+1=>by simp
 |a::r,i+1=>by
  simp only[ej,List.drop_succ_cons,ya];rw[<-Ww p r i,yg,<-rU,List.drop_left' (p a)]
theorem KM{C:Type}{b:C->List I}{T}(p:∀a,(b a).length=T){l:List C}{i a}(h:l[i]? =some a):(l.flatMap b).drop (i*T)=b a++(l.drop (i+1)).flatMap b:=by
 rw[Ww p];obtain⟨c,rfl⟩:=bQ.1 h;rw[iF c,ej]
section
variable {E:aZ}{ρ:Ad}{J:F}{Rr:bP}{t n:Nat}{x y:Operand}{α:Type}{enc:α->List I}{sz:Nat}{l:List α}
theorem Jl{v}(L:Mk E.P v=true)(W:Ah E ρ x=some (aD enc sz l)):As E Rr (.call ⟨.builtin .len,#[x],#[v]⟩) ρ J (.int .i64 (.ofNat l.length)) J:=
 Bf L W rfl rfl
theorem XF{v s}(L:Fs E.P v=true)(W:Ah E ρ x=some (sV s)):As E Rr (.call ⟨.builtin .len,#[x],#[v]⟩) ρ J (.int .i64 (.ofNat s.length)) J:=by
 have:=Aou (Rr:=Rr) (J:=J) L W
 rwa[jT]at this
theorem A1{b i d k a}(L:fM E.P t=some (sz,b,d))(p:∀a,(enc a).length=sz)(W:Ah E ρ x=some (aD enc sz l))(B:Ah E ρ y=some (.int k (.ofNat i)))(c:l[i]? =some a):
  As E Rr (.indexAddr t x y) ρ J (.pv (enc a++(l.drop (i+1)).flatMap enc)) J:=by
 have h:=MO (Rr:=Rr) (J:=J) L W B (m:=l.length) rfl rfl (bQ.1 c).1
 have e:xb (aD enc sz l) (i*sz)=.pv (enc a++(l.drop (i+1)).flatMap enc):=by
  show I.pv ((l.flatMap enc).drop (i*sz))=_
  rw[KM p c]
 rw[e]at h;exact h
theorem H5{p q}{ty:Nat}(L:cW E.P t=true)(W:Ah E ρ x=some (sV p))(B:Ah E ρ y=some (sV q)):As E Rr (.binOp .eql t x y ty) ρ J (.bool (decide (p=q))) J:=by
 have:=φ (Rr:=Rr) (J:=J) (ty:=ty) L W B
 simpa only[Fu]using this
theorem Ko{p q}{ty:Nat}(L:cW E.P t=true)(W:Ah E ρ x=some (sV p))(B:Ah E ρ y=some (sV q)):As E Rr (.binOp .neq t x y ty) ρ J (.bool (!decide (p=q))) J:=by
 have:=V8 (Rr:=Rr) (J:=J) (ty:=ty) L W B
 simpa only[Fu]using this
end
theorem D0:∀{l r:List I},Dr l.length (l++r)=some l
 |[],r=>rfl
 |x::l,r=>by simp only[cZ,dL,Dr,D0 (l:=l)]
theorem A6{l T}(h:l.length=T)(r):Cz T true (l++r)=some (.agg l):=by
 subst h;simp only[Cz,D0]
theorem Wz{l T}(h:l.length=T):Cz T true l=some (.agg l):=by
 have:=A6 h []
 rwa[dA]at this
theorem A7{l T}(h:l.length=T):(I.agg l).cellsN T=some l:=by
 subst h;simp only[I.cellsN,cb,cond_true]
def A5{C:Type}(p:C->Bool):List C->Nat->Int
 |[],_=> -1
 |a::r,i=>cond (p a) (.ofNat i) (A5 p r (i+1))
theorem Aik{C p}:∀(l:List C) (i:Nat),(0:Int)<=A5 p l i↔l.any p=true
 |[],i=>by simp[A5]
 |a::r,i=>by
  rw[yR];unfold A5
  by_cases b:p a=true
  ·rw[b];simp
  ·have b:p a=false:=by simpa using b
   rw[b,cond_false,Bool.false_or];exact Aik r (i+1)
theorem Gf{C p}(l:List C):decide (Int.ofNat 0<=A5 p l 0)=l.any p:=by
 have:=Aik (p:=p) l 0
 by_cases h:l.any p=true
 ·rw[h];exact decide_eq_true (this.2 h)
 ·rw[Bool.not_eq_true]at h;rw[h];exact decide_eq_false (λa=>by rw[this.1 a]at h;cases h)
def Wk(v U:I):Prop:=∀C N w x,R C N w v x->R C N w U x
theorem Wk.rfl'{v}:Wk v v:=λ_ _ _ _ h=>h
theorem Dv{b T len y}:Wk (.sv b T len y) (.sv b T len none):=λC N w x h=>by
 unfold R at h⊢;obtain⟨a,k,c,d,g,e⟩:=h
 exact⟨a,k,c,d,λq f=>(by cases f),e⟩
theorem yZ{sz}:Wk (.nil (.slice none 0 0)) (.sv [] sz 0 none):=λC N w x h=>by
 unfold R at h⊢;obtain⟨rfl,_⟩:=h
 exact⟨none,0,rfl,Y,λq b=>(by cases b),by simp,λ_=>rfl,λc a=>by cases a⟩
inductive nX:List I->List I->Prop
 |nil:nX [] []
 |cons {a b:I} {l m:List I}:Wk a b->nX l m->nX (a::l) (b::m)
theorem nX.RL{C N w}:∀{l m:List I},nX l m->∀{a:List Value},RL C N w l a->RL C N w m a
 |_,_,.nil,a,h=>h
 |_,_,.cons b c,[],h=>by unfold AM.RL at h;exact h.elim
 |_,_,.cons b c,x::a,h=>by unfold AM.RL at h⊢;exact⟨b _ _ _ _ h.1,c.RL h.2⟩
theorem nX.refl:∀{l:List I},nX l l
 |[]=>.nil
 |_::_=>.cons .rfl' .refl
theorem Al.wk{E f c a J b}(h:Al E f a J b)(k:nX c a):Al E f c J b:=
 λC w g e H d=>h C w g e H (k.RL d)
section
variable {E:aZ}{nt B:Nat}{df:List (Nat×List I)}{ρ ρ':Ad}{J J':F}{K:Ad->F->Prop}{Rr:bP}
theorem OT{G r d v U}(h:Wk v U)(k:TO E nt df B G r K ((d,U)::ρ) J):TO E nt df B G r K ((d,v)::ρ) J:=by
 intro q n p C w j a g e l
 have m:=e.tmps d v (g d v (by simp[Ad.at,cb]))
 refine k q n p C w (j.put (d+1) d (some U)) a (λi u b=>?_) ⟨e.sim,e.glob,λi u b=>?_,e.size,e.dfs⟩ l
 ·rw[jL];simp only[Ad.at]at b;cases c:Nat.beq d i with
  |true=>rw[c]at b;have:=bK c;subst this;rw[if_pos rfl];exact b
  |false=>
   rw[c]at b
   rw[if_neg (λo=>by subst o;rw[cb]at c;cases c)]
   exact g i u (by simp only[Ad.at];rw[c];exact b)
 ·have b:(j.put (d+1) d (some U)).get i=some u:=b;rw[jL]at b
  by_cases f:i=d
  ·subst f;rw[if_pos rfl]at b;cases b;exact h _ _ _ _ m
  ·rw[if_neg f]at b;exact e.tmps i u b
theorem Cx{G r op d}{l:Nat}{pos after v U c}(h:As E (λ_ _ _=>none) op ρ J v c)(i:Wk v U)(S:Ga op=true)(g:Nat.blt d nt=true)
  (k:TO E nt df B G r K ((d,U)::ρ) c):TO E nt df B G ({ dst:=some d,op:=op,type:=l,pos:=pos,after:=after,guard:=none }::r) K ρ J:=
 X4 bT S g h (OT i k)
theorem Nm{G r f a}{b:Array Nat}{dst}{l:Nat}{pos after}{k:Nat}{first y e t v}(g:B0 nt dst=true)
  (N:Ah E ρ f=some (.fn (.func k) first y))(c:Kc E ρ a.toList=some e)(d:first++e++y=t)(P:Al E k t J λu U=>u=v/\U=J')
  (X:TO E nt df B G r K (Dt dst v ρ) J'):TO E nt df B G ({ dst:=dst,op:=.call ⟨.value f,a,b⟩,type:=l,pos:=pos,after:=after,guard:=none }::r) K ρ J:=
 Az g N c d P λu U h=>by obtain⟨rfl,rfl⟩:=h;exact X
theorem Bh{G r}{p:Oper}{j o:Nat}{b n f a}{m:Array Nat}{dst}{l:Nat}{pos after}{k:Nat}{first y q t v}
  (s:G[j]? =some p)(e:p.dst=some o)(Q:Ad.at ρ o=some (.bool b))(i:cond b n (!n)=true)(g:B0 nt dst=true)
  (N:Ah E ρ f=some (.fn (.func k) first y))(c:Kc E ρ a.toList=some q)(d:first++q++y=t)(P:Al E k t J λu U=>u=v/\U=J')
  (X:TO E nt df B G r K (Dt dst v ρ) J'):TO E nt df B G ({ dst:=dst,op:=.call ⟨.value f,a,m⟩,type:=l,pos:=pos,after:=after,guard:=some (j,n) }::r) K ρ J:=
 AY s e Q i g N c d P λu U h=>by obtain⟨rfl,rfl⟩:=h;exact X
theorem Auh{t i x y s b k}(L:Fs E.P t=true)(W:Ah E ρ x=some (sV s))(B:Ah E ρ y=some (.int k (.ofNat i)))(Q:s[i]? =some b):
  As E Rr (.index t x y) ρ J (.int .u8 (.ofNat b.toNat)) J:=Ω L W B (by rw[eC,Q];rfl)
theorem ET{n}(u: -9223372036854775808<=n)(r:n<9223372036854775808):Me .i64 n=.int .i64 n:=by
 cases n with
 |ofNat m=>
  have:Nat.ble m 9223372036854775807=true:=dS (by have:(m:Int)<9223372036854775808:=r;omega)
  simp only[Me,Ak,M0,this,cond_true]
 |negSucc m=>
  have:Nat.ble m 9223372036854775807=true:=dS z;simp only[Me,Ak,M0,this,cond_true]
theorem rH{t l:Nat}{x y:Operand}{p q:Int}(L:cW E.P t=true)(W:Ah E ρ x=some (.int .i64 p))(B:Ah E ρ y=some (.int .i64 q))(u: -9223372036854775808<=p+q)(r:p+q<9223372036854775808):
  As E Rr (.binOp .add t x y l) ρ J (D (p+q)) J:=L0 L W B (by simp only[Ic,QA,ET u r];rfl)
theorem xz{t ty:Nat}{x y p q}(L:cW E.P t=true)(W:Ah E ρ x=some (.int .i64 p))(B:Ah E ρ y=some (.int .i64 q))(u: -9223372036854775808<=p-q)(r:p-q<9223372036854775808):
  As E Rr (.binOp .sub t x y ty) ρ J (D (p-q)) J:=L0 L W B (by simp only[Ic,Wh,ET u r];rfl)
theorem W2{t ty:Nat}{x y p q}(L:cW E.P t=true)(W:Ah E ρ x=some (.int .i64 (.ofNat p)))(B:Ah E ρ y=some (.int .i64 (.ofNat q)))(h:q<=p)(a:p<9223372036854775808):
  As E Rr (.binOp .sub t x y ty) ρ J (D (.ofNat (p-q))) J:=by
 have:=xz (Rr:=Rr) (J:=J) (ty:=ty) L W B (by simp only[ep];omega) (by simp only[ep];omega)
 rwa[show(Int.ofNat p-Int.ofNat q)=Int.ofNat (p-q) by simp only[ep];omega]at this
theorem HJ{G r}{t o:Nat}{x}{d W:Nat}{pos after cs sz g s}(c:Mk E.P t=true)(hx:Ah E ρ x=some (.sv cs sz g s))(hd:Nat.blt d nt=true)
  (k:∀b:Bool,(b=true->g=0)->TO E nt df B G r K ((d,.bool b)::ρ) J):
  TO E nt df B G ({ dst:=some d,op:=.binOp .eql t x (.const (.slice none 0 0)) o,type:=W,pos:=pos,after:=after,guard:=none }::r) K ρ J:=by
 have f:∃n e,Ay E.P t=some n/\n.desc=.slice e:=by
  unfold Mk at c
  split at c
  ·rename_i n f
   split at c
   ·rename_i e he;exact⟨n,e,f,he⟩
   ·cases c
  ·cases c
 obtain⟨n,e,f,L⟩:=f
 have U:E.P.underlying t=some (.slice e):=by
  obtain⟨_,dd,_,g2,g3,_⟩:=Ap f
  exact g2.trans (by rw[<-g3,L])
 refine OV (Pv:=λv=>∃b:Bool,v=.bool b/\(b=true->g=0)) (dst:=some d) (J':=J) hd (λC w tm a ht p=>?_) (λv j=>by obtain⟨b,rfl,u⟩:=j;exact k b u)
 have j:=Be p.glob p.tmps x;rw[ht.opd hx]at j;unfold R at j;obtain⟨q,kk,T,h2,h3,h4,h5,h6⟩:=j;have i:∀{X:Value} {b:Bool},a.eval x=X->(∀l,X≠.agg l)->X≠.nilIface->(binOp .eql t X (.slice none 0 0)).run E.P w=.ok (.bool b) w->
   (execOp a.eval { dst:=some d,op:=.binOp .eql t x (.const (.slice none 0 0)) o,type:=W,pos:=pos,after:=after,guard:=none }).run E.P w=.ok (.value (.bool b)) w:=by
  intro X b hX Q S u;have H:=E7 (P:=E.P) (w:=w) (op:=.eql) (t:=t) (x:=x) (y:=.const (.slice none 0 0)) (a:=X) (b:=.slice none 0 0) (λl m N=>Q l N.1) (λN=>S N.1)
  have hY:a.eval (.const (.slice none 0 0))=.slice none 0 0:=rfl;simp only[execOp,hX,hY,Sem.run_bind,H,Result.andThen_ok,u,Sem.run_pure]
 cases q with
 |some ad=>
  have:=(xy (w:=w) U ⟨_,rfl⟩ ad g kk).1.eql
  exact⟨.bool false,⟨false,rfl,λh=>by cases h⟩,.bool false,w,C,.inl (i T (λl h=>by cases h) (λh=>by cases h) this),by unfold R;rfl,p.sim,dJ _ _ _⟩
 |none=>
  have hk:=h5 rfl;subst hk
  have hl:g=0:=by omega
  subst hl;have:=(xy (w:=w) U ⟨_,rfl⟩ ⟨0,0,none⟩ 0 0).2.2.eql
  exact⟨.bool true,⟨true,rfl,λ_=>rfl⟩,.bool true,w,C,.inl (i T (λl h=>by cases h) (λh=>by cases h) this),by unfold R;rfl,p.sim,dJ _ _ _⟩
end
def Abj(E:aZ)(f:Ad)(q:List (Nat×Nat)):List (Nat×Operand)->Option (List (Nat×Nat×I))
 |[]=>some []
 |(i,x)::r=>match q[i]?,Ah E f x,Abj E f q r with
  |some (o,n),some v,some l=>some ((o,n,v)::l)
  |_,_,_=>none
def W3(E:aZ)(f:Ad)(T:Nat):List (Nat×Operand)->Option (List (Nat×Nat×I))
 |[]=>some []
 |(i,x)::r=>match Ah E f x,W3 E f T r with
  |some v,some l=>some ((i*T,T,v)::l)
  |_,_=>none
section
variable {E:aZ}{ρ:Ad}{J J':F}{tm:Tr I}{Rr:bP}
theorem Amm{P}:∀{e:List Field} {b:List (Nat×Nat)},bdF P e=some b->∀(i:Nat) (p:Nat×Nat),b[i]? =some p->∃(f:Field) (c:TI),e[i]? =some f/\Ay P f.type=some c/\p=(f.offset,c.size)
 |[],b,h,i,p,a=>by simp only[bdF,bH]at h;subst h;simp at a
 |f::r,b,h,i,p,a=>by
  simp only[bdF]at h
  split at h
  ·rename_i c l d n
   cases h;cases i with
   |zero=>simp at a;exact⟨f,c,rfl,d,a.symm⟩
   |succ i=>obtain⟨g,o,j,k,m⟩:=Amm n i p (by simpa using a);exact⟨g,o,by simpa using j,k,m⟩
  ·cases h
theorem Ail(h:Has tm ρ){c q}(N:bdF E.P c=some q):∀{l:List (Nat×Operand)} {b:List (Nat×Nat×I)},Abj E ρ q l=some b->Js E.P E tm c l=some b
 |[],b,a=>by simp only[Abj,bH]at a;subst a;rfl
 |(i,x)::r,b,a=>by
  simp only[Abj]at a
  split at a
  ·rename_i o n v l d e g
   cases a;obtain⟨f,p,j,k,m⟩:=Amm N i _ d;cases m;simp only[Js,j,Ail h N g,k,h.opd e]
  ·cases a
theorem Abk(h:Has tm ρ){T}:∀{l:List (Nat×Operand)} {b:List (Nat×Nat×I)},W3 E ρ T l=some b->Is E tm T l=b
 |[],b,a=>by simp only[W3,bH]at a;subst a;rfl
 |(i,x)::r,b,a=>by
  simp only[W3]at a
  split at a
  ·rename_i v l c d
   cases a;simp only[Is,h.opd c,Abk h d]
  ·cases a
theorem Ut{t a U c q k}(L:yQ E.P t=some (U,q))(g:Abj E ρ q a.toList=some k)(N:Si U k=some c):
  As E Rr (.build t a) ρ J (.agg c) J:=λn h=>by
 unfold yQ at L
 split at L
 ·rename_i m b
  split at L
  ·rename_i o j i f
   split at L
   ·rename_i l d e
    cases L;simp only[bB,Aw,b,i,f,d,Ail h e g,M2,N]
   ·cases L
  ·cases L
 ·cases L
theorem Ai{t b T c U f a k}(L:fM E.P t=some (T,c,some U))(s:∀e,E.byref e=false)(d:(Nat.ble (b*T) 16777216&&Nat.beq U.length T)=true)
  (n:W3 E ρ T a.toList=some k)(N:Si (rep U b) k=some f):As E Rr (.buildSlice t b a) ρ J (.sv f T b (some b)) J:=λr h=>by
 obtain⟨q,e,p,g,i,j,l,o,m⟩:=Qc L;subst l;simp only[bB,Aw,g,i,j,m,d,s,Abk h n,Id,N]
theorem UY{C:Type}{c T}(p:∀a,(c a).length=T)(l:List C){a b}(g:a<=b)(Q:b<=l.length):
  Dr ((b-a)*T) ((l.flatMap c).drop (a*T))=some (((l.take b).drop a).flatMap c):=by
 rw[Ww p]
 have d:((l.take b).drop a).length=b-a:=by simp;omega
 have e:l.drop a=(l.take b).drop a++l.drop b:=by
  have f:l=l.take b++l.drop b:=(gK b l).symm
  calc l.drop a=(l.take b++l.drop b).drop a:=by rw[<-f]
   _=(l.take b).drop a++l.drop b:=by rw[OJ (by simp;omega)]
 rw[e,mV];have:=D0 (l:=((l.take b).drop a).flatMap c) (r:=(l.drop b).flatMap c)
 rwa[Dl p,d]at this
theorem yP{C d t T f a b w}{l:List C}{x lo hi mx m q s c}(N:fM E.P t=some (T,f,w))(p:∀a,(d a).length=T)
  (W:Ah E ρ x=some (aD d T l))(u:Iz E ρ lo=some m)(r:Iz E ρ hi=some q)(j:Iz E ρ mx=some s)(Q:Do l.length none m q s=some (a,b,c))(g:a<=b)(i:b<=l.length):
  As E Rr (.slice t x lo hi mx) ρ J (.sv (((l.take b).drop a).flatMap d) T (b-a) c) J:=λL h=>by
 obtain⟨K,e,G,k,n,o,v,y,B⟩:=Qc N;subst v;simp only[bB,Aw,k,n,o,h.opd W,h.opdO u,h.opdO r,h.opdO j,aD,Lj,cb,Q,UY p l g i,Ak]
theorem Av{t g T a n U x y d s v new}(L:fM E.P t=some (T,a,some U))(r:Nat.beq U.length T=true)(j:Mk E.P g=true)(W:Ah E ρ x=some d)(B:Ah E ρ y=some s)
  (S:lenA s=some n)(i:F9 J T s n=some new)(c:B6 J T a d n new=some (v,J')):As E Rr (.call ⟨.builtin .append,#[x,y],#[t,g]⟩) ρ J v J':=λK h=>by
 obtain⟨G,e,C,k,l,m,o,p,q⟩:=Qc L;subst o p;unfold Mk at j
 split at j
 ·rename_i u f
  split at j
  ·rename_i w b
   simp only[bB,Aw,k,Ee,l,m,f,q,r,b,h.opd W,h.opd B,opds,T7,S,i,c]
  ·cases j
 ·cases j
def Below(N:Nat)(J q:F):Prop:=O J<=O q/\∀a,a<N->q.get a=J.get a
theorem Below.rfl'{N}:Below N J J:=⟨Y,λ_ _=>rfl⟩
abbrev mE:=@Below.rfl'
theorem Below.trans{N b}(h:Below N J J')(k:Below N J' b):Below N J b:=⟨bD h.1 k.1,λa c=>(k.2 a c).trans (h.2 a c)⟩
end
theorem Below.new{N J q}(h:Below N J q)(R:N<=O J)(o):Below N J (q.new o):=
 ⟨by rw[Ao];have:=h.1;omega,λa b=>by rw[a5,if_neg (by have:=h.1;omega)];exact h.2 a b⟩
theorem Below.set{N a J q}(h:Below N J q)(c:N<=a)(o):Below N J (q.set a o):=
 ⟨by rw[Aq];exact h.1,λb d=>by rw[aU,if_neg z];exact h.2 b d⟩
theorem Ds.below{J q}(i:bY J)(h:Below (O J) J q):Ds q J:=a_ i h.1 h.2
abbrev bL:=@Ds.below
theorem X5{N}:∀{l m:List I},I.unds N (l++m)=(I.unds N l&&I.unds N m)
 |[],m=>by simp[I.unds]
 |x::l,m=>by simp only[dL,I.unds,X5 (l:=l),Bool.and_assoc]
theorem A2{N}{C:Type}{enc}(h:∀a,I.unds N (enc a)=true):∀l:List C,I.unds N (l.flatMap enc)=true
 |[]=>rfl
 |a::r=>by rw[ej,X5,h a,A2 h r];rfl
theorem Fv{N C b T}(h:∀a,I.unds N (b a)=true)(l:List C):I.und N (aD b T l)=true:=A2 h l
def Ku:List (Tr I×I)->List (Ad×I)->Prop
 |[],[]=>True
 |(a,v)::l,(b,u)::m=>Has a b/\v=u/\Ku l m
 |_,_=>False
theorem Ku.append:∀{l a:List (Tr I×I)} {m b:List (Ad×I)},Ku l m->Ku a b->Ku (l++a) (m++b)
 |[],a,[],b,_,h=>h
 |(c,v)::l,a,(d,u)::m,b,h,k=>⟨h.1,h.2.1,Ku.append h.2.2 k⟩
 |[],_,_::_,_,h,_=>h.elim
 |_::_,_,[],_,h,_=>h.elim
theorem Ku.reverse:∀{l:List (Tr I×I)} {m:List (Ad×I)},Ku l m->Ku l.reverse m.reverse
 |[],[],h=>h
 |(a,v)::l,(b,u)::m,h=>by
  rw[d_,d_];exact Ku.append (Ku.reverse h.2.2) ⟨h.1,h.2.1,trivial⟩
 |[],_::_,h=>h.elim
 |_::_,[],h=>h.elim
theorem Ku.get:∀{l:List (Tr I×I)} {m:List (Ad×I)},Ku l m->∀(j:Nat) (t:Tr I) (v:I),l[j]? =some (t,v)->∃a,m[j]? =some (a,v)/\Has t a
 |[],[],_,j,t,v,h=>by simp at h
 |(f,v)::l,(a,u)::m,h,0,t,x,b=>by simp at b;obtain⟨rfl,rfl⟩:=b;obtain⟨c,rfl,_⟩:=h;exact⟨a,rfl,c⟩
 |(f,v)::l,(a,u)::m,h,j+1,t,x,b=>by
  obtain⟨d,c,e⟩:=Ku.get h.2.2 j t x (by simpa using b)
  exact⟨d,by simpa using c,e⟩
 |[],_::_,h,_,_,_,_=>h.elim
 |_::_,[],h,_,_,_,_=>h.elim
abbrev KD:=Ad->F->List F->List (Ad×I)->Prop
def TD(E:aZ)(i:Nat)(a:bP)(G r:List Oper)(K:KD)(f:Ad)(J:F)(e:List F)(n:List (Ad×I)):Prop:=
 ∀(j:Tr I) (g:List (Nat×List I)) (h:List (Tr I×I)),Has j f->Ku h n->∃c,T9 E G a r ⟨⟨j,i,g,J⟩,e,h⟩=some c/\c.s.nt=i/\c.s.df=g/\∃d b,Has c.s.tm d/\Ku c.log b/\K d c.s.sto c.eps b
section
variable {E:aZ}{nt B:Nat}{df:List (Nat×List I)}{Q:Cc}{Rr:bP}{ops r:List Oper}{K:KD}{ρ:Ad}{J:F}{eps:List F}{log:List (Ad×I)}
theorem C1(h:K ρ J eps log):TD E nt Rr ops [] K ρ J eps log:=λe c d b a=>⟨_,rfl,rfl,rfl,ρ,log,b,a,h⟩
theorem BB{o v c b}(H:∀a,Has a ρ->Bn ops o a=some true)(p:B5 (Bc E o.op)=b)(g:B0 nt o.dst=true)(h:As E Rr o.op ρ J v c)
  (k:TD E nt Rr ops r K (Dt o.dst v ρ) (cond b c J) (cond b (c::eps) eps) ((ρ,v)::log)):TD E nt Rr ops (o::r) K ρ J eps log:=by
 intro a f i e n;obtain⟨d,l,m⟩:=C6 (dst:=o.dst) g e v
 have:Rc E ops o Rr ⟨⟨a,nt,f,J⟩,eps,i⟩=some ⟨⟨d,nt,f,cond b c J⟩,cond b (c::eps) eps,(a,v)::i⟩:=by
  unfold Rc;simp only[H a e,h a e,l,p];cases b<;>rfl
 obtain⟨j,q,s⟩:=k d f ((a,v)::i) m ⟨e,rfl,n⟩
 exact⟨j,by simp only[T9,this];exact q,s⟩
theorem yD{op dst}{l:Nat}{pos after v c b}(p:B5 (Bc E op)=b)(g:B0 nt dst=true)(h:As E Rr op ρ J v c)
  (k:TD E nt Rr ops r K (Dt dst v ρ) (cond b c J) (cond b (c::eps) eps) ((ρ,v)::log)):TD E nt Rr ops ({ dst:=dst,op:=op,type:=l,pos:=pos,after:=after,guard:=none }::r) K ρ J eps log:=
 BB (o:={ dst:=dst,op:=op,type:=l,pos:=pos,after:=after,guard:=none }) zN p g h k
theorem Qi{o a v c}{j d:Nat}{b n e}(H:o.guard=some (j,n))(f:ops[j]? =some a)(t:a.dst=some d)(Q:Ad.at ρ d=some (.bool b))(i:cond b n (!n)=true)
  (p:B5 (Bc E o.op)=e)(g:B0 nt o.dst=true)(h:As E Rr o.op ρ J v c)
  (k:TD E nt Rr ops r K (Dt o.dst v ρ) (cond e c J) (cond e (c::eps) eps) ((ρ,v)::log)):TD E nt Rr ops (o::r) K ρ J eps log:=
 BB (λm l=>by rw[Hf l H f t Q,i]) p g h k
def Obl(E:aZ)(b:List F):List iL->List Oper->List (Ad×I)->Prop
 |a::d,o::e,(f,v)::l=>(match a.cls with
  |.read=>∀J∈(b.drop a.lo).take (a.hi+1-a.lo),∃c,As E (λ_ _ _=>none) o.op f J v c
  |_=>True)/\Obl E b d e l
 |_,_,_=>True
theorem Obl.get{E b}:∀{d:List iL} {i:List Oper} {l:List (Ad×I)},Obl E b d i l->∀(j:Nat) (a:iL) (o:Oper) (k:Ad) (v:I),d[j]? =some a->i[j]? =some o->l[j]? =some (k,v)->a.cls=.read->
  ∀J∈(b.drop a.lo).take (a.hi+1-a.lo),∃r,As E (λ_ _ _=>none) o.op k J v r
 |a::d,o::i,(k,v)::l,h,0,n,p,c,q,e,g,f,m=>by
  simp at e g f;obtain⟨rfl,rfl⟩:=f;subst e g
  have:=h.1;rw[m]at this;exact this
 |a::d,o::i,(k,v)::l,h,j+1,n,p,c,q,e,g,f,m=>Obl.get h.2 j n p c q (by simpa using e) (by simpa using g) (by simpa using f) m
 |[],_,_,_,_,_,_,_,_,h,_,_,_=>by simp at h
 |_::_,[],_,_,_,_,_,_,_,_,h,_,_=>by simp at h
 |_::_,_::_,[],_,_,_,_,_,_,_,_,h,_=>by simp at h
theorem Jm{G l}(h:Lo E G=some l):Eu G (Region.before G).toList=true/\Fo G=true/\Mg (Region.before G).toList (A8 E G.toList 0)=true/\
  l=Kb E (Region.before G).toList (A8 E G.toList 0) G.toList 0:=by
 unfold Lo at h;simp only at h
 split at h
 ·rename_i a
  cases h;simp only[bg]at a;obtain⟨⟨⟨b,c⟩,d⟩,_⟩:=a;exact⟨b,c,d,rfl⟩
 ·cases h
theorem L4{id G anns}(hm:E.P.follows .mixedOrders=true)(hR:Bk E Rr)(ha:Lo E G=some anns)
  (h:TD E nt Rr G.toList G.toList (λc f i p=>Obl E i.reverse anns G.toList p.reverse/\Q .normal c f) ρ J [J] []):T E nt df B (.region id G true) Q ρ J:=by
 intro ro n hn C w tm a ht st K;obtain⟨W,X,c3,c4⟩:=Jm ha;obtain⟨d,k1,P,R,c,S,k4,k5,k6,k7⟩:=h tm df [] ht trivial;refine wpIn_mono (xT hm hR st W X c3 k1 λj o t v L hl k H s m=>?_) λe a' w' he=>?_
 ·obtain⟨r,q1,q2⟩:=k5.reverse.get j t v hl
  have g:=Ix (E:=E) (b:=(Region.before G).toList) (effs:=A8 E G.toList 0) G.toList 0 j o (by simpa using L)
  rw[<-c4]at g;simp only[dE]at g
  obtain⟨f,l⟩:=k6.get j _ o r v g (by simpa using L) q1 k s (by simp only[Gc];exact m)
  have:=l t q2;refine⟨f,?_⟩
  have a9:B5 (Bc E o.op)=false:=by rw[k];rfl
  rw[<-Iy (Rr:=λ_ _ _=>none) k];exact this
 ·obtain⟨y,N,U,h1,h2,x⟩:=he;rw[cI]at N;subst N;obtain⟨⟨q,aa,a7,f⟩,u,a8⟩:=d;simp only at P R;subst P R;exact⟨.normal,q,c,f,U,h1,k4,k7,h2,bD K x.next,x.base K⟩
def OY(E:aZ)(G:List Oper):Bool:=G.all λo=> !B5 (Bc E o.op)
def NR(Q:Cc)(J:F):KD:=λb c a _=>c=J/\a=[J]/\Q .normal b J
theorem ω{id G l}(hm:E.P.follows .mixedOrders=true)(ha:Lo E G=some l)(hc:OY E G.toList=true)
  (h:TD E nt (λ_ _ _=>none) G.toList G.toList (NR Q J) ρ J [J] []):T E nt df B (.region id G true) Q ρ J:=by
 intro ro n hn C w tm a ht st P;obtain⟨c1,c2,c3,c4⟩:=Jm ha;obtain⟨d,U,W,X,x,a7,k4,k5,k6,k7,k8⟩:=h tm df [] ht trivial;refine wpIn_mono (xT hm sQ st c1 c2 c3 U λj o t v ho R f H m g=>?_) λe a' w' he=>?_
 ·rw[k7]at g
  have i:m=J:=by
   have:=HB (kJ g)
   simpa using this
  subst i;obtain⟨ae,q,s,L,r,g4,g5⟩:=Lz U;simp only[rK,fK,d_]at L r;obtain⟨x1,x2,x3,x4,x5⟩:=Wq s
  obtain⟨t',v',a8,b,c,y1,y2,p,y4,y5,y6⟩:=x5 j o (by simpa using ho)
  rw[L]at R;rw[R]at y1;cases y1
  have px:q=[]:=by
   rw[k7]at r
   simpa using r.symm
  rw[px]at p
  have k:b=m:=by
   have:=(bQ.1 p).1;simp only[rR]at this
   have h0:cnt E G.toList j=0:=by omega
   rw[h0]at p;simpa using p.symm
  subst k
  have ac:B5 (Bc E o.op)=false:=by rw[f];rfl
  rcases y5 with⟨z1,z2⟩|⟨z1,z2⟩
  ·exact⟨c,by rw[<-Iy (Rr:=λ_ _ _=>none) f];exact z2⟩
  ·rw[z1]at H;cases H
 ·obtain⟨y,S,C',h1,h2,N⟩:=he;rw[cI]at S;subst S;obtain⟨⟨u,af,a9,J'⟩,K,aa⟩:=d;simp only at W X k6;subst W X k6;exact⟨.normal,u,x,J',C',h1,k4,k8,h2,bD P N.next,N.base P⟩
def Rm(E:aZ):List iL->List Oper->Nat->Bool
 |a::b,o::d,c=>(match a.cls with
  |.read=>Nat.beq a.lo c&&Nat.beq a.hi c
  |_=>true)&&Rm E b d (cond (B5 (Bc E o.op)) (c+1) c)
 |_,_,_=>true
theorem X6{E}:∀{d:List iL} {b:List Oper} {c:Nat},Rm E d b c=true->∀(j:Nat) (a:iL) (o:Oper),d[j]? =some a->b[j]? =some o->a.cls=.read->a.lo=c+cnt E b j/\a.hi=c+cnt E b j
 |a::d,o::b,c,h,0,i,l,e,f,g=>by
  simp at e f;subst e f
  simp only[Rm,g,bg]at h
  exact⟨by simp only[cnt];exact bK h.1.1,by simp only[cnt];exact bK h.1.2⟩
 |a::d,o::b,c,h,j+1,i,l,e,f,g=>by
  simp only[Rm,bg]at h
  have:=X6 h.2 j i l (by simpa using e) (by simpa using f) g
  simp only[cnt];cases k:B5 (Bc E o.op)with
  |true=>rw[k]at this;simp only[cond_true]at this;rw[if_pos rfl];omega
  |false=>rw[k]at this;simp only[cond_false]at this;rw[if_neg zS];omega
 |[],_,_,_,_,_,_,h,_,_=>by simp at h
 |_::_,[],_,_,_,_,_,_,h,_=>by simp at h
def NX(Q:Cc):KD:=λa b _ _=>Q .normal a b
theorem SF{id G l}(hm:E.P.follows .mixedOrders=true)(hR:Bk E Rr)(ha:Lo E G=some l)(hp:Rm E l G.toList 0=true)
  (h:TD E nt Rr G.toList G.toList (NX Q) ρ J [J] []):T E nt df B (.region id G true) Q ρ J:=by
 intro ro n hn C w tm a ht st U;obtain⟨c1,c2,c3,c4⟩:=Jm ha;obtain⟨d,k1,k2,k3,K,a7,k4,k5,k6⟩:=h tm df [] ht trivial;refine wpIn_mono (xT hm hR st c1 c2 c3 k1 λj o t v r W f H L g=>?_) λe a' w' he=>?_
 ·have p:=Ix (E:=E) (b:=(Region.before G).toList) (effs:=A8 E G.toList 0) G.toList 0 j o (by simpa using r)
  rw[<-c4]at p;simp only[dE]at p
  obtain⟨q1,q2⟩:=X6 hp j _ o p (by simpa using r) f
  simp only[dE,Gc]at q1 q2
  rw[q1,q2,show cnt E G.toList j+1-cnt E G.toList j=1 by omega]at g
  obtain⟨af,q,s,P,R,g4,g5⟩:=Lz k1;simp only[rK,fK,d_]at P R;obtain⟨x1,x2,x3,x4,x5⟩:=Wq s
  obtain⟨t',v',a8,c,m,y1,y2,y3,y4,y5,y6⟩:=x5 j o (by simpa using r)
  rw[P]at W;rw[W]at y1;cases y1
  have fg:L=c:=by
   rw[R]at g;obtain⟨i,k⟩:=fA.1 g;rw[tJ]at k
   split at k
   ·rename_i ac
    have h0:i=0:=by omega
    subst h0;rw[g_,oE]at k;have e1:([J]++q)[cnt E G.toList j]? =some c:=y3;rw[e1]at k;cases k;rfl
   ·cases k
  subst fg
  have ae:B5 (Bc E o.op)=false:=by rw[f];rfl
  rcases y5 with⟨z1,x⟩|⟨z1,x⟩
  ·rw[Iy f]at x;exact⟨m,x⟩
  ·rw[z1]at H;cases H
 ·obtain⟨y,X,C',h1,h2,S⟩:=he;rw[cI]at X;subst X;obtain⟨⟨u,ag,a9,J'⟩,N,aa⟩:=d;simp only at k2 k3;subst k2 k3;exact⟨.normal,u,K,J',C',h1,k4,k6,h2,bD U S.next,S.base U⟩
theorem Bq{l f a}{b:Array Nat}{k:Nat}{first y d v q}(N:Ah E ρ f=some (.fn (.func k) first y))(c:Kc E ρ a.toList=some d)
  (w:Dk l (.fn k) (first++d++y) J=some (v,q)):As E (Dk l) (.call ⟨.value f,a,b⟩) ρ J v q:=QW N c rfl w
theorem Bv{f a s v b r}:Dk ((f,a,s,v,b)::r) (.fn f) a s=some (v,b):=by
 simp only[Dk,and_self,if_true]
end
section
variable {E:aZ}{nt B:Nat}{df:List (Nat×List I)}{ρ ρ':Ad}{J J':F}{K:Ad->F->Prop}
theorem TG{v:I}{T b}(P:v.cellsN T=some b):b.length=T:=by
 unfold I.cellsN at P
 split at P<;>try (cases P;done)
 ·cases a:Nat.beq ‹List I›.length T with
  |true=>rw[a]at P;cases P;exact bK a
  |false=>rw[a]at P;cases P
 ·cases a:Nat.beq T 1 with
  |true=>rw[a]at P;cases P;exact(bK a).symm
  |false=>rw[a]at P;cases P
theorem YZ{v T N c}(P:v.cellsN T=some c)(b:I.und N v=true):I.unds N c=true:=by
 unfold I.cellsN at P
 split at P<;>try (cases P;done)
 ·cases a:Nat.beq ‹List I›.length T with
  |true=>rw[a]at P;cases P;exact b
  |false=>rw[a]at P;cases P
 ·cases a:Nat.beq T 1 with
  |true=>rw[a]at P;cases P;simp only[I.unds,b,dR]
  |false=>rw[a]at P;cases P
theorem Rn{G r t d e sz S x y}{ty Q l:Nat}{pos j h after f c U cs v u}(hz:zI E.P t=some U)(hi:gN E.P t=some (sz,S))(hl:Nat.beq U.length sz=true)
  (hy:Ah E ρ y=some u)(aa:∀p,Ah E ((d,p)::ρ) y=some u)(hv:Ah E ρ x=some v)(hx:∀p,Ah E ((e,u)::(d,p)::ρ) x=some v)(a7:Nat.beq e d=false)(P:v.cellsN sz=some cs)(hd:Nat.blt d nt=true)(he:Nat.blt e nt=true)[Se E](a8:df=[])
  (k:TO E nt df B G r K ((e,u)::(d,.pv cs)::ρ) J):
  TO E nt df B G ({ dst:=some d,op:=.alloc t,type:=ty,pos:=pos,after:=after,guard:=none }::{ dst:=some e,op:=.assign y,type:=l,pos:=h,after:=c,guard:=none }::
   { dst:=none,op:=.store t (.tmp d) x,type:=Q,pos:=j,after:=f,guard:=none }::r) K ρ J:=by
 subst a8;intro ro n hn C w tm a ht N hB;have L:=N.sim.wfs;have em:∀i u,Ad.at ρ i=some u->I.und (O J) u=true:=λi u g=>R.und _ _ (N.tmps i u (ht i u g))
 have q:∀(o:Operand) v,Ah E ρ o=some v->I.und (O J) v=true:=λo v ho=>by
  have s:=Be N.glob N.tmps o;rw[ht.opd ho]at s;exact R.und _ _ s
 have X:=YZ P (q x v hv)
 have W:cs.length=U.length:=by rw[TG P];exact(bK hl).symm
 have ac:TO E nt [] B G ({ dst:=some d,op:=.alloc t,type:=ty,pos:=pos,after:=after,guard:=none }::{ dst:=some e,op:=.assign y,type:=l,pos:=h,after:=c,guard:=none }::
   { dst:=none,op:=.store t (.tmp d) x,type:=Q,pos:=j,after:=f,guard:=none }::r) K ρ J:=by
  refine Qg bT (J₁:=J.new (.cells U)) (ρ₁:=(d,.pr (O J) 0)::ρ) (λae a9=>⟨_,S9 hz hd,a9.put d _⟩) ?_
  refine X4 bT rfl he (Gd (aa _)) ?_
  refine X4 bT rfl rfl (By (vs:=U) (vs':=cs) (ad:=O J) (off:=0) (v:=v) (cs:=cs) hi (by simp[Ah,Dt,Ad.at,cb,a7]) (hx _) P Eg (Hh W)) ?_
  simp only[Dt];refine JK J ((e,u)::(d,.pv cs)::ρ) ?_ hB ?_ k
  ·refine a_ L (by rw[Aq,Ao];exact kG _) λb T=>?_
   rw[aU,if_neg z,a5,if_neg z]
  ·intro i u' g;simp only[Ad.at]at g⊢;cases T:Nat.beq e i with
   |true=>
    rw[T]at g;simp only[cond_true,bH]at g⊢;subst g;exact⟨_,rfl,.same (q y _ hy)⟩
   |false=>
    rw[T]at g;simp only[cond_false]at g⊢;cases m:Nat.beq d i with
    |true=>
     rw[m]at g;simp only[cond_true,bH]at g⊢;subst g
     refine⟨_,rfl,.pr (vs:=cs) (by rw[aU,if_pos rfl]) ?_ (jg X)⟩
     cases H:J.get (O J)with
     |none=>rfl
     |some af=>exact absurd (L _ _ H).1 (Nat.lt_irrefl _)
    |false=>rw[m]at g;exact⟨u',g,.same (em i u' g)⟩
 exact ac ro n hn C w tm a ht N hB
def RJ(Q:Cc)(J:F):KD:=λb c a _=>c=J/\(∀e∈a,e=J)/\Q .normal b J
theorem V1{Q u id G l}(hm:E.P.follows .mixedOrders=true)(hR:Bk E u)(ha:Lo E G=some l)
  (h:TD E nt u G.toList G.toList (RJ Q J) ρ J [J] []):T E nt df B (.region id G true) Q ρ J:=by
 intro ro n hn C w tm a ht st P;obtain⟨c1,c2,c3,c4⟩:=Jm ha;obtain⟨d,U,W,X,s,a7,k4,k5,k6,k7,k8⟩:=h tm df [] ht trivial;refine wpIn_mono (xT hm hR st c1 c2 c3 U λj o t v ho R g H c m=>?_) λe a' w' he=>?_
 ·have i:c=J:=k7 c (by simpa using HB (kJ m))
  subst i;obtain⟨af,ac,p,K,L,g4,g5⟩:=Lz U;simp only[rK,fK,d_]at K L;obtain⟨x1,x2,x3,x4,x5⟩:=Wq p
  obtain⟨t',v',a8,b,f,y1,y2,y3,y4,y5,y6⟩:=x5 j o (by simpa using ho)
  rw[K]at R;rw[R]at y1;cases y1
  have k:b=c:=by
   refine k7 b ?_
   have:b∈d.eps.reverse:=by rw[L];exact bA y3
   simpa using this
  subst k
  have ae:B5 (Bc E o.op)=false:=by rw[g];rfl
  rcases y5 with⟨z1,r⟩|⟨z1,r⟩
  ·rw[Iy g]at r;exact⟨f,r⟩
  ·rw[z1]at H;cases H
 ·obtain⟨y,S,C',h1,h2,N⟩:=he;rw[cI]at S;subst S;obtain⟨⟨q,ag,a9,J'⟩,x,aa⟩:=d;simp only at W X k6;subst W X k6;exact⟨.normal,q,s,J',C',h1,k4,k8,h2,bD P N.next,N.base P⟩
theorem Dw{f d a x s c t v r}{o:Option (I×F)}(h:d≠f)(k:Dk r (.fn d) x t=o):Dk ((f,a,s,v,c)::r) (.fn d) x t=o:=by
 simp only[Dk];rw[if_neg (λb=>h b.1)];exact k
theorem Am{a t b d T e vs v r l}(L:gN E.P t=some (T,e))(c:Ad.at ρ a=some (.pr b d))(P:J.cells b=some vs)(i:Cz T e (vs.drop d)=some v)(w:Us E ρ J r=some l):
  Us E ρ J (.cell a t::r)=some (v::l):=by
 obtain⟨j,f,g,h⟩:=Rj L;subst g h;simp only[Us,f,c,P,i,w]
theorem Ba{t v r l}(b:Ad.at ρ t=some v)(w:Us E ρ J r=some l):Us E ρ J (.tmp t::r)=some (v::l):=by
 simp only[Us,b,w]
theorem Ex{J U T}:Fz J U (.nil (.slice none 0 0)) (.sv [] T 0 none):=.nils (λq a=>by cases a)
end
end Go.AM

