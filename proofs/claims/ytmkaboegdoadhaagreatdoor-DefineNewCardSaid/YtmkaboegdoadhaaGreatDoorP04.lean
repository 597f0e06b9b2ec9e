/- A part of the proof; shortened by program. -/
import Derived.Test.YtmkaboegdoadhaaGreatDoorP03
set_option maxRecDepth 100000
set_option maxHeartbeats 4000000
set_option linter.unusedSimpArgs false
set_option linter.unusedVariables false
namespace Go.AM
open Go
section
variable {P:Program}{C C':Ctx}{N N':Nat}{w w':World}{σ σ':Sto}
theorem Aaw{kv x}:∀{es:List (Key×AV)},D5 kv es=some x->
  ∃a k' b,es=a++(k',x)::b/\Key.eq kv k'=true/\(∀v,Ph kv v es=a++(k',v)::b)/\Adh kv es=a++b
 |[],h=>by simp[D5]at h
 |(k',y)::r,h=>by
  simp only[D5]at h;cases hb:Key.eq kv k'
  ·simp only[hb,cond_false]at h;obtain⟨a,k2,b,h1,h2,h3,h4⟩:=Aaw h
   exact⟨(k',y)::a,k2,b,by simp[h1],h2,fun v=>by simp[Ph,hb,h3],by simp[Adh,hb,h4]⟩
  ·simp only[hb,cond_true,af_]at h;subst h
   exact⟨[],k',r,rfl,hb,fun v=>by simp[Ph,hb],by simp[Adh,hb]⟩
theorem S4{kv}:∀{es:List (Key×AV)},D5 kv es=none->(∀x∈es,Key.eq kv x.1=false)/\Adh kv es=es
 |[],_=>⟨fun x hx=>by simp at hx,rfl⟩
 |(k',y)::r,h=>by
  simp only[D5]at h;cases hb:Key.eq kv k'
  ·simp only[hb,cond_false]at h;obtain⟨h1,h2⟩:=S4 h
   refine⟨fun x hx=>?_,by simp[Adh,hb,h2]⟩
   rcases an_.1 hx with rfl|hx
   ·exact hb
   ·exact h1 x hx
  ·simp[hb]at h
theorem Aax(kv v):∀(es:List (Key×AV)),∃a b,es=a++b/\Nx kv v es=a++(kv,v)::b
 |[]=>⟨[],[],rfl,rfl⟩
 |(k',y)::r=>by
  simp only[Nx];cases hb:Key.lt kv k'
  ·obtain⟨a,b,h1,h2⟩:=Aax kv v r
   exact⟨(k',y)::a,b,by simp[h1],by simp[h2]⟩
  ·exact⟨[],(k',y)::r,rfl,rfl⟩
theorem ER.split:∀{a b:List (Key×AV)} {L:List MapEntry},ER C N w (a++b) L->∃A B,L=A++B/\ER C N w a A/\ER C N w b B
 |[],b,L,h=>⟨[],L,rfl,by unfold ER;trivial,h⟩
 |x::a,b,[],h=>by rw[ay_]at h;unfold ER at h;exact h.elim
 |x::a,b,e::L,h=>by
  rw[ay_]at h;unfold ER at h;obtain⟨A,B,h1,h2,h3⟩:=ER.split h.2
  exact⟨e::A,B,by simp[h1],by unfold ER;exact⟨h.1,h2⟩,h3⟩
theorem ER.append:∀{a b:List (Key×AV)} {A B:List MapEntry},ER C N w a A->ER C N w b B->ER C N w (a++b) (A++B)
 |[],b,[],B,_,h=>h
 |x::a,b,e::A,B,h,k=>by unfold ER at h;rw[ay_,ay_];unfold ER;exact⟨h.1,ER.append h.2 k⟩
 |[],_,_::_,_,h,_=>by unfold ER at h;exact h.elim
 |_::_,_,[],_,h,_=>by unfold ER at h;exact h.elim
theorem ER.length:∀{a:List (Key×AV)} {A:List MapEntry},ER C N w a A->a.length=A.length
 |[],[],_=>rfl
 |x::a,e::A,h=>by unfold ER at h;simp[ER.length h.2]
 |[],_::_,h=>by unfold ER at h;exact h.elim
 |_::_,[],h=>by unfold ER at h;exact h.elim
theorem ER.mem:∀{a:List (Key×AV)} {A:List MapEntry},ER C N w a A->∀e∈A,∃x∈a,KV x.1 e.key/\R C N w x.2 e.val
 |[],[],_,e,he=>by simp at he
 |x::a,f::A,h,e,he=>by
  unfold ER at h
  rcases an_.1 he with rfl|he
  ·exact⟨x,by simp,h.1⟩
  ·obtain⟨y,h1,h2⟩:=ER.mem h.2 e he;exact⟨y,by simp[h1],h2⟩
 |[],_::_,h,_,_=>by unfold ER at h;exact h.elim
 |_::_,[],h,_,_=>by unfold ER at h;exact h.elim
theorem Aay{α β:Type}{f:α->β}{A B e g}(h:((A++e::B).map f).Nodup){j}(hj:(A++e::B)[j]? =some g)(hg:f g=f e):j=A.length/\g=e:=by
 have h1:((A++e::B).map f)[j]? =some (f e):=by rw[br_,hj];simp[hg]
 have h2:((A++e::B).map f)[A.length]? =some (f e):=by rw[br_];simp
 obtain⟨l1,l1'⟩:=ae_.1 h1;obtain⟨l2,l2'⟩:=ae_.1 h2;have:j=A.length:=(List.getElem?_inj l1 h).1 (h1.trans h2.symm);subst this
 simp at hj
 exact⟨rfl,hj.symm⟩
structure At (C:Ctx)(N:Nat)(w:World)(es:List (Key×AV))(E:Array MapEntry)(V:Value)(x:AV)(kv:Key) where
 A:List MapEntry
 e:MapEntry
 B:List MapEntry
 a:List (Key×AV)
 k':Key
 b:List (Key×AV)
 A':List MapEntry
 B':List MapEntry
 hE:E.toList=A++e::B
 key:e.key=V
 val:R C N w x e.val
 kk:KV k' e.key
 hes:es=a++(k',x)::b
 ea:ER C N w a A'
 eb:ER C N w b B'
 perm:(A'++B').Perm (A++B)
 set:∀v,Ph kv v es=a++(k',v)::b
 del:Adh kv es=a++b
theorem D8.locate{kt:TypeId}{es E clock}(h:D8 P C N w kt es E clock){kv V}(hk:KV kv V)(ht:KT P kt V):
  (∃x,D5 kv es=some x/\∃q:At C N w es E V x kv,∀w',(Instr.findKey kt V E.toList).run P w'=.ok (some (q.A.length,q.e.val)) w')∨
  (D5 kv es=none/\(∀e∈E.toList,e.key≠V)/\∀w',(Instr.findKey kt V E.toList).run P w'=.ok none w'):=by
 obtain⟨L,hp,hL⟩:=h.perm;cases hm:D5 kv es with
 |none=>
  obtain⟨h1,_⟩:=S4 hm
  have hno:∀e∈E.toList,e.key≠V:=fun e he hh=>by
   obtain⟨x,hx,hxk,_⟩:=ER.mem hL e (hp.symm.subset he);have:=(Al9 (w:=w) hk hxk ht (h.typed e he)).1.2 hh.symm;rw[h1 x hx]at this;cases this
  refine .inr ⟨rfl,hno,fun w'=>?_⟩
  obtain⟨r,k1,k2⟩:=Ob (w:=w') ht h.typed;cases r with
  |none=>exact k1
  |some p=>
   obtain⟨f,_,f2,f3,_⟩:=k2;exact absurd f3 (hno f (ab_ f2))
 |some x=>
  obtain⟨a,k',b,h1,h2,h3,h4⟩:=Aaw hm;have hL':=hL;rw[h1]at hL';obtain⟨A',L2,q1,q2,q3⟩:=hL'.split;cases L2 with
  |nil=>unfold ER at q3;exact q3.elim
  |cons e B'=>
   unfold ER at q3;obtain⟨⟨q4,q5⟩,q6⟩:=q3
   have he:e∈E.toList:=hp.subset (by rw[q1];simp)
   obtain⟨A,B,hE⟩:=eb_ he;have jg:e.key=V:=((Al9 (w:=w) hk q4 ht (h.typed e he)).1.1 h2).symm
   have kl:(A'++B').Perm (A++B):=by
    have:=hp;rw[q1,hE]at this;exact(List.perm_middle.symm.trans (this.trans List.perm_middle)).cons_inv
   refine .inl ⟨x,rfl,⟨A,e,B,a,k',b,A',B',hE,jg,q5,q4,h1,q2,q6,kl,h3,h4⟩,fun w'=>?_⟩
   obtain⟨r,k1,k2⟩:=Ob (w:=w') ht h.typed;cases r with
   |none=>exact absurd jg (k2 e he)
   |some p=>
    obtain⟨f,_,f2,f3,f4⟩:=k2;obtain⟨j,y⟩:=p;simp only[es_]at f2 f4;have hnd:=h.keys;rw[hE]at hnd f2;obtain⟨g1,g2⟩:=Aay hnd f2 (f3.trans jg.symm);subst g1 g2;rw[k1,←f4]
theorem Oc{α:Type}(f e B):∀A:List α,(A++e::B).modify A.length f=A++f e::B
 |[]=>rfl
 |x::A=>by simp only[ay_,as_,List.modify_succ_cons,Oc f e B A]
theorem D8.set{kt:TypeId}{es E clock}(h:D8 P C N w kt es E clock){kv V x v}(q:At C N w es E V x kv){y}(hy:R C N w v y):
  D8 P C N w kt (Ph kv v es) (E.modify q.A.length fun e=>{ e with key:=V,val:=y }) clock/\(E.modify q.A.length fun e=>{ e with key:=V,val:=y }).toList=q.A++{ q.e with val:=y }::q.B:=by
 have hl:(E.modify q.A.length fun e=>{ e with key:=V,val:=y }).toList=q.A++{ q.e with val:=y }::q.B:=by
  rw[fs_,q.hE];have hk:=q.key
  simp[Oc,←hk]
 have kn:(q.A++{ q.e with val:=y }::q.B).map (·.key)=(q.A++q.e::q.B).map (·.key):=by simp
 have ku:(q.A++{ q.e with val:=y }::q.B).map (·.born)=(q.A++q.e::q.B).map (·.born):=by simp
 refine⟨⟨fun e he=>?_,⟨q.A'++{ q.e with val:=y }::q.B',?_,?_⟩,?_,fun e he=>?_,?_⟩,hl⟩
 ·rw[hl]at he
  rcases bb_.1 he with he|he
  ·exact h.typed e (by rw[q.hE];simp[he])
  ·rcases an_.1 he with rfl|he
   ·exact h.typed q.e (by rw[q.hE];simp)
   ·exact h.typed e (by rw[q.hE];simp[he])
 ·rw[hl];exact List.perm_middle.trans ((q.perm.cons _).trans List.perm_middle.symm)
 ·rw[q.set v];exact q.ea.append (by unfold ER;exact⟨⟨q.kk,hy⟩,q.eb⟩)
 ·rw[hl,kn,←q.hE];exact h.keys
 ·rw[hl]at he
  rcases bb_.1 he with he|he
  ·exact h.born e (by rw[q.hE];simp[he])
  ·rcases an_.1 he with rfl|he
   ·exact h.born q.e (by rw[q.hE];simp)
   ·exact h.born e (by rw[q.hE];simp[he])
 ·rw[hl,ku,←q.hE];exact h.apart
theorem D8.ins{kt:TypeId}{es E clock}(h:D8 P C N w kt es E clock){kv V}(hk:KV kv V)(ht:KT P kt V)(hno:∀e∈E.toList,e.key≠V){v y}(hy:R C N w v y):
  D8 P C N w kt (Nx kv v es) (E.push ⟨V,y,clock⟩) (clock+1):=by
 obtain⟨L,hp,hL⟩:=h.perm;obtain⟨a,b,h1,h2⟩:=Aax kv v es;rw[h1]at hL;obtain⟨A',B',q1,q2,q3⟩:=hL.split
 have hl:(E.push ⟨V,y,clock⟩).toList=E.toList++[⟨V,y,clock⟩]:=by simp
 refine⟨fun e he=>?_,⟨A'++⟨V,y,clock⟩::B',?_,?_⟩,?_,fun e he=>?_,?_⟩
 ·rw[hl]at he
  rcases bb_.1 he with he|he
  ·exact h.typed e he
  ·simp at he;subst he;exact ht
 ·rw[hl];refine List.perm_middle.trans ?_;rw[←q1];exact(hp.cons _).trans (List.perm_append_singleton _ _).symm
 ·rw[h2];exact q2.append (by unfold ER;exact⟨⟨hk,hy⟩,q3⟩)
 ·rw[hl,co_,dt_]
  refine⟨h.keys,by simp,fun x hx z hz=>?_⟩
  simp at hz;subst hz
  obtain⟨e,he,rfl⟩:=bt_.1 hx;exact hno e he
 ·rw[hl]at he
  rcases bb_.1 he with he|he
  ·have:=h.born e he;omega
  ·simp at he;subst he;exact bl_ _
 ·rw[hl,co_,dt_]
  refine⟨h.apart,by simp,fun x hx z hz=>?_⟩
  simp at hz;subst hz
  obtain⟨e,he,rfl⟩:=bt_.1 hx;have:=h.born e he;omega
theorem D8.del{kt:TypeId}{es E clock}(h:D8 P C N w kt es E clock){kv V x}(q:At C N w es E V x kv):
  D8 P C N w kt (Adh kv es) (E.eraseIdxIfInBounds q.A.length) clock:=by
 have hl:(E.eraseIdxIfInBounds q.A.length).toList=q.A++q.B:=by
  have hlt:q.A.length<E.size:=by rw[←cd_,q.hE];simp
  unfold Array.eraseIdxIfInBounds;rw[dif_pos hlt,Array.toList_eraseIdx,q.hE]
  simp[List.eraseIdx_append_of_length_le]
 have cc:(q.A++q.B).Sublist E.toList:=by rw[q.hE];exact List.Sublist.append (List.Sublist.refl _) (List.sublist_cons_self _ _)
 refine⟨fun e he=>h.typed e (cc.subset (by rwa[hl]at he)),⟨q.A'++q.B',by rw[hl];exact q.perm,by rw[q.del];exact q.ea.append q.eb⟩,?_,fun e he=>h.born e (cc.subset (by rwa[hl]at he)),?_⟩
 ·rw[hl];exact(cc.map _).nodup h.keys
 ·rw[hl];exact(cc.map _).nodup h.apart
theorem D8.empty{kt:TypeId}{clock}:D8 P C N w kt [] #[] clock:=
 ⟨fun e he=>by simp at he,⟨[],by simp,by unfold ER;trivial⟩,by simp,fun e he=>by simp at he,by simp⟩
abbrev fx_:=@D8.empty
theorem D8.count{kt:TypeId}{es E clock}(h:D8 P C N w kt es E clock):es.length=E.size:=by
 obtain⟨L,hp,hL⟩:=h.perm;rw[hL.length,hp.length_eq];simp
end
section
variable {P:Program}{C C':Ctx}{N N':Nat}{w w':World}{σ σ':Sto}
theorem Cw{c E clock}(h:w.heap[c]? =some (.map E clock)):(getObj c).run P w=.ok (.map E clock) w:=by
 simp only[getObj,Sem.run,h]
theorem Gv{c E clock}(h:w.heap[c]? =some (.map E clock))(O):
  (setObj c O).run P w=.ok () { w with heap:=w.heap.setIfInBounds c O }:=by
 simp only[setObj,Sem.run,h]
theorem P6{c O₀}(h:w.heap[c]? =some O₀)(O):Wr w { w with heap:=w.heap.setIfInBounds c O } c O:=by
 have hlt:=(bc_.1 h).1
 refine⟨by simp,by simp[hlt],fun b hb=>?_,rfl,rfl⟩
 simp only[];rw[cr_ (fun h=>hb h.symm)]
theorem Aeh{c E clock}(h:w.heap[c]? =some (.map E clock)):csize w c=0:=by unfold csize;simp[h]
theorem setMap(hs:Sim P C w σ){r kt ver es}(hg:σ.get r=some (.map kt es ver)){c E clock}(hl:C.loc r=some (c,0))(hh:w.heap[c]? =some (.map E clock))
  {es' ver'}(hv:ver<ver'){E' clock'}(hm:D8 P C (nx σ) w kt es' E' clock'):
  Sim P C { w with heap:=w.heap.setIfInBounds c (.map E' clock') } (σ.set r (.map kt es' ver'))/\Ext C (nx σ) w C (nx σ) { w with heap:=w.heap.setIfInBounds c (.map E' clock') }:=by
 have p:=P6 hh (.map E' clock')
 refine hs.upd hl p (by rw[Aeh p.here,Aeh hh]) hg _ rfl (fun kt₁ es₁ v₁ h=>?_) fun e=>?_
 ·cases h;exact⟨kt,es,ver,rfl,hv⟩
 ·refine⟨c,E',clock',hl,p.here,?_⟩;rw[Aq];exact hm.ext e
theorem P7{d v}(h:KS d v)(n):Instr.sameBits n v v=true:=by
 unfold KS at h
 split at h
 ·obtain⟨m,rfl⟩:=h;cases n<;>simp[Instr.sameBits]
 ·obtain⟨m,rfl⟩:=h;cases n<;>simp[Instr.sameBits,Go.MapKept.bytes_beq]
 ·obtain⟨m,rfl⟩:=h;cases n<;>simp[Instr.sameBits]
 ·exact h.elim
theorem Ui(n):∀{fs:List Field} {vs:List Value},KFs P fs vs->((vs.zip vs).all fun(x,y)=>Instr.sameBits n x y)=true
 |[],[],_=>rfl
 |f::fs,v::vs,h=>by
  unfold KFs at h;obtain⟨⟨i,d,_,_,_,_,hk,_⟩,h2⟩:=h;simp only[List.zip_cons_cons,cs_,ad_];exact⟨P7 hk n,Ui n h2⟩
 |[],_::_,h=>by unfold KFs at h;exact h.elim
 |_::_,[],h=>by unfold KFs at h;exact h.elim
theorem Ah4{kt:TypeId}{v}(h:KT P kt v):(Instr.keyThatStays v v).run P w=.ok v w:=by
 have:Instr.sameBits 10000 v v=true:=by
  rcases h with⟨d,_,h⟩|⟨fs,a,_,rfl,h,_⟩|⟨_,_,a,d,_,_,rfl,_,_,_,_,_,_,h⟩
  ·exact P7 h _
  case inr.inr=>
   simp only[Instr.sameBits,ad_,beq_self_eq_true,true_and]
   have key:∀l:List Value,(∀x∈l,KS d x)->((l.zip l).all fun(x,y)=>Instr.sameBits 9999 x y)=true:=by
    intro l
    induction l with
    |nil=>intro _;rfl
    |cons x l ih=>intro hl;simp only[List.zip_cons_cons,cs_,ad_];exact⟨P7 (hl x (by simp)) _,ih fun y hy=>hl y (by simp[hy])⟩
   exact key a.toList h
  ·have:=Ui 9999 h;simp only[Instr.sameBits,ad_,beq_self_eq_true,true_and];exact this
 unfold Instr.keyThatStays;rw[this];rfl
theorem Aaz{et:TypeId}{te}(hte:Ay P et=some te){z}(hz:Lh te=some z):∃Z,(∀w,(zeroValue et).run P w=.ok Z w)/\∀(C:Ctx) (N:Nat) (w:World),R C N w z Z:=by
 obtain⟨Z,h1,h2⟩:=Ub (P:=P) (C:=⟨fun _=>none,fun _=>0,fun _=>False,fun _=>none⟩) (N:=0) (w:=default) hte hz
 have bq:∀w,(zeroValue et).run P w=.ok Z w:=fun w=>by
  unfold zeroValue typeInfo at h1⊢;simp only[Sem.run_bind,run_program,Result.andThen_ok]at h1⊢;cases hi:P.info? et with
  |none=>simp[hi]at h1
  |some i=>
   simp only[hi,Sem.run_pure,Result.andThen_ok]at h1⊢;cases hz:i.zero with
   |none=>simp[hz]at h1
   |some v=>simp only[hz,Sem.run_pure,Result.ok.injEq]at h1⊢;exact⟨h1.1,trivial⟩
 refine⟨Z,bq,fun C N w=>?_⟩
 obtain⟨Z',h3,h4⟩:=Ub (P:=P) (C:=C) (N:=N) (w:=w) hte hz;rw[bq w]at h3;cases h3;exact h4
theorem Agg{ok v V}(h:R C N w v V)(b):R C N w (Aae ok v b) (if ok then .tuple #[V,.bool b]else V):=by
 cases ok
 ·exact h
 ·simp only[Aae];unfold R;exact⟨_,rfl,by unfold RL;exact⟨h,by unfold RL;exact⟨by unfold R;rfl,by unfold RL;trivial⟩⟩⟩
theorem Adp(hs:Sim P C w σ){t kt et:TypeId}{ti te}(hti:Ay P t=some ti)(hd:ti.desc=.map kt et)(hte:Ay P et=some te){z}(hz:Lh te=some z){k m K M}(hk:R C (nx σ) w k K)(hm:R C (nx σ) w m M)
  {ok v}(h:Ky kt (D4 P kt k) z ok m σ=some (v,σ')):σ'=σ/\Dz P C (nx σ) w (Instr.lookup t M K ok) v:=by
 obtain⟨_,d,_,g2,g3,_⟩:=Ap hti
 have hu:=g2.trans (by rw[←g3,hd])
 obtain⟨Z,z1,z2⟩:=Aaz hte hz;unfold Ky at h
 split at h
 ·rename_i kv hkv
  obtain⟨hK,hT⟩:=H3 hkv hk
  split at h
  ·rename_i r
   split at h
   ·rename_i kt' es ver hg
    split at h
    ·rename_i hkt
     have hkt:=ac_ hkt;subst hkt;unfold R at hm;obtain⟨c,rfl,_,bk⟩:=hm;obtain⟨c',E,clock,l1,l2,l3⟩:=hs.obj r _ hg;have:=bk c' 0 l1;subst this
     rcases l3.locate hK hT with⟨x,hx,q,hq⟩|⟨hx,_,hq⟩
     ·rw[hx]at h;cases h;refine⟨rfl,_,?_,Agg q.val true⟩;simp only[Instr.lookup,Sem.run_bind,Aa hu,Result.andThen_ok,Cw l2,Sem.run_pure,C3 hT _ 9998,hq w]
     ·rw[hx]at h;cases h;refine⟨rfl,_,?_,Agg (z2 _ _ _) false⟩;simp only[Instr.lookup,Sem.run_bind,Aa hu,Result.andThen_ok,Cw l2,Sem.run_pure,C3 hT _ 9998,hq w,z1]
    ·cases h
   ·cases h
  ·cases h;unfold R at hm;obtain⟨rfl,_⟩:=hm;refine⟨rfl,_,?_,Agg (z2 _ _ _) false⟩
   obtain⟨r,k1,k2⟩:=Ob (P:=P) (w:=w) hT (es:=[]) (fun e he=>by simp at he)
   have:r=none:=by
    cases r with
    |none=>rfl
    |some p=>obtain⟨f,_,f2,_⟩:=k2;simp at f2
   subst this;simp only[Instr.lookup,Sem.run_bind,Aa hu,Result.andThen_ok,Sem.run_pure,C3 hT _ 9998,k1,z1]
  ·cases h
 ·cases h
theorem Amd{E:Array MapEntry}{A B e}(h:E.toList=A++e::B):E[A.length]? =some e:=by
 rw[←bw_,h];simp
theorem Wo(hs:Sim P C w σ){t kt et:TypeId}{ti te}(hti:Ay P t=some ti)(hd:ti.desc=.map kt et){k m v K M V}(hk:R C (nx σ) w k K)(hm:R C (nx σ) w m M)(hv:R C (nx σ) w v V)
  {u}(h:N1 kt (D4 P kt k) te m v σ=some (u,σ')):u=An/\∃w',(Instr.mapUpdate t M K V).run P w=.ok () w'/\Sim P C w' σ'/\Ext C (nx σ) w C (nx σ') w':=by
 obtain⟨_,d,_,g2,g3,_⟩:=Ap hti
 have hu:=g2.trans (by rw[←g3,hd])
 unfold N1 at h
 split at h
 ·rename_i kv r hkv
  obtain⟨hK,hT⟩:=H3 hkv hk
  split at h
  ·rename_i kt' es ver hg
   split at h
   ·rename_i hb
    rw[ad_]at hb;have hkt:=ac_ hb.1;subst hkt;unfold R at hm;obtain⟨c,rfl,_,bk⟩:=hm;obtain⟨c',E,clock,l1,l2,l3⟩:=hs.obj r _ hg;have:=bk c' 0 l1;subst this
    rcases l3.locate hK hT with⟨x,hx,q,hq⟩|⟨hx,hno,hq⟩
    ·simp only[hx,Ak,af_,ba_]at h;obtain⟨rfl,rfl⟩:=h;obtain⟨m1,_⟩:=l3.set q hv;obtain⟨s1,s2⟩:=setMap hs hg l1 l2 (bl_ ver) m1
     refine⟨rfl,_,?_,s1,by rw[Aq];exact s2⟩
     have hold:=Amd q.hE;simp only[Instr.mapUpdate,Sem.run_bind,Aa hu,Result.andThen_ok,Cw l2,C3 hT _ 9998,hq w,hold,ds_,gp_,q.key,Ah4 hT,Gv l2]
    ·simp only[hx,Ak,af_,ba_]at h;obtain⟨rfl,rfl⟩:=h;obtain⟨s1,s2⟩:=setMap hs hg l1 l2 (bl_ ver) (l3.ins hK hT hno hv)
     refine⟨rfl,_,?_,s1,by rw[Aq];exact s2⟩
     simp only[Instr.mapUpdate,Sem.run_bind,Aa hu,Result.andThen_ok,Cw l2,C3 hT _ 9998,hq w,Gv l2]
   ·cases h
  ·cases h
 ·cases h
theorem Adq(hs:Sim P C w σ){t kt et ty t2:TypeId}{ti}(hti:Ay P t=some ti)(hd:ti.desc=.map kt et){k m K M}(hk:R C (nx σ) w k K)(hm:R C (nx σ) w m M)
  {u}(h:Af7 kt (D4 P kt k) m σ=some (u,σ')):u=An/\∃w',(Builtin.delete_ #[t,t2] ty #[M,K]).run P w=.ok (.tuple #[]) w'/\Sim P C w' σ'/\Ext C (nx σ) w C (nx σ') w':=by
 obtain⟨_,d,_,g2,g3,_⟩:=Ap hti
 have hu:=g2.trans (by rw[←g3,hd])
 unfold Af7 at h
 split at h
 ·rename_i kv r hkv
  obtain⟨hK,hT⟩:=H3 hkv hk
  split at h
  ·rename_i kt' es ver hg
   split at h
   ·rename_i hb
    have hkt:=ac_ hb;subst hkt;unfold R at hm;obtain⟨c,rfl,_,bk⟩:=hm;obtain⟨c',E,clock,l1,l2,l3⟩:=hs.obj r _ hg;have:=bk c' 0 l1;subst this;simp only[Ak,af_,ba_]at h;obtain⟨rfl,rfl⟩:=h
    rcases l3.locate hK hT with⟨x,hx,q,hq⟩|⟨hx,hno,hq⟩
    ·obtain⟨s1,s2⟩:=setMap hs hg l1 l2 (bl_ ver) (l3.del q)
     refine⟨rfl,_,?_,s1,by rw[Aq];exact s2⟩
     simp[Builtin.delete_,Aa hu,Cw l2,C3 hT _ 9998,hq w,Gv l2]
    ·obtain⟨s1,s2⟩:=setMap hs hg l1 l2 (bl_ ver) (E':=E) (clock':=clock) (es':=Adh kv es) (by rw[(S4 hx).2];exact l3)
     refine⟨rfl,_,?_,s1,by rw[Aq];exact s2⟩
     simp[Builtin.delete_,Aa hu,Cw l2,C3 hT _ 9998,hq w,Gv l2]
   ·cases h
  ·cases h
 ·rename_i kv hkv
  obtain⟨hK,hT⟩:=H3 hkv hk;cases h;unfold R at hm;obtain⟨rfl,_⟩:=hm;refine⟨rfl,w,?_,hs,cf_ _ _ _⟩
  simp[Builtin.delete_,Aa hu,C3 hT _ 9998]
 ·cases h
theorem Yq(hs:Sim P C w σ){t kt et ty:TypeId}{ti}(hti:Ay P t=some ti)(hd:ti.desc=.map kt et){m M}(hm:R C (nx σ) w m M)
  {u}(h:Q9 m σ=some (u,σ')):u=An/\∃w',(Builtin.clear_ #[t] ty #[M]).run P w=.ok (.tuple #[]) w'/\Sim P C w' σ'/\Ext C (nx σ) w C (nx σ') w':=by
 obtain⟨_,d,_,g2,g3,_⟩:=Ap hti
 have hu:=g2.trans (by rw[←g3,hd])
 unfold Q9 at h
 split at h
 ·rename_i r
  split at h
  ·rename_i kt' es ver hg
   unfold R at hm;obtain⟨c,rfl,_,bk⟩:=hm;obtain⟨c',E,clock,l1,l2,l3⟩:=hs.obj r _ hg;have:=bk c' 0 l1;subst this;simp only[Ak,af_,ba_]at h;obtain⟨rfl,rfl⟩:=h;obtain⟨s1,s2⟩:=setMap hs hg l1 l2 (bl_ ver) (fx_ (clock:=clock))
   refine⟨rfl,_,?_,s1,by rw[Aq];exact s2⟩
   simp[Builtin.clear_,Aa hu,Cw l2,Gv l2]
  ·cases h
 ·cases h;unfold R at hm;obtain⟨rfl,_⟩:=hm;refine⟨rfl,w,?_,hs,cf_ _ _ _⟩
  simp[Builtin.clear_,Aa hu]
 ·cases h
theorem Adr(hs:Sim P C w σ){t kt et ty:TypeId}{ti}(hti:Ay P t=some ti)(hd:ti.desc=.map kt et){m M}(hm:R C (nx σ) w m M)
  {u}(h:T6 m σ=some (u,σ')):σ'=σ/\Dz P C (nx σ) w (Builtin.len_ #[t] ty #[M]) u:=by
 obtain⟨_,d,_,g2,g3,_⟩:=Ap hti
 have hu:=g2.trans (by rw[←g3,hd])
 unfold T6 at h
 split at h
 ·rename_i r
  split at h
  ·rename_i kt' es ver hg
   unfold R at hm;obtain⟨c,rfl,_,bk⟩:=hm;obtain⟨c',E,clock,l1,l2,l3⟩:=hs.obj r _ hg;have:=bk c' 0 l1;subst this;simp only[Ak,af_,ba_]at h;obtain⟨rfl,rfl⟩:=h
   refine⟨rfl,_,by simp[Builtin.len_,Aa hu,Cw l2];rfl,?_⟩
   unfold goInt R;rw[l3.count];rfl
  ·cases h
 ·cases h;unfold R at hm;obtain⟨rfl,_⟩:=hm
  exact⟨rfl,_,by simp[Builtin.len_,Aa hu];rfl,by unfold goInt R;rfl⟩
 ·cases h
end
section
variable {P:Program}{C C':Ctx}{N N':Nat}{w w':World}{σ σ':Sto}
theorem Wp{α:Type}{a b:Array α}(h:a.toList=b.toList):a=b:=Array.ext' h
theorem Ads{E:Array MapEntry}{A B e}(h:E.toList=A++e::B){V}(hV:e.key=V):(E.modify A.length fun e=>{ e with key:=V })=E:=by
 apply Wp;rw[fs_,h,Oc,←hV]
theorem Yr(hs:Sim P C w σ){t kt et:TypeId}{ti te}(hti:Ay P t=some ti)(hd:ti.desc=.map kt et)(hte:Ay P et=some te){z}(hz:Lh te=some z){k m K M}(hk:R C (nx σ) w k K)(hm:R C (nx σ) w m M)
  {u}(h:Q8 kt (D4 P kt k) z m σ=some (u,σ')):Iv P C w σ (Instr.mapEntry t M K) u σ':=by
 obtain⟨_,d,_,g2,g3,_⟩:=Ap hti
 have hu:=g2.trans (by rw[←g3,hd])
 obtain⟨Z,z1,z2⟩:=Aaz hte hz;unfold Q8 at h
 split at h
 ·rename_i kv r hkv
  obtain⟨hK,hT⟩:=H3 hkv hk
  split at h
  ·rename_i kt' es ver hg
   split at h
   ·rename_i hb
    have hkt:=ac_ hb;subst hkt;unfold R at hm;obtain⟨c,rfl,hr,bk⟩:=hm;obtain⟨c',E,clock,l1,l2,l3⟩:=hs.obj r _ hg;have:=bk c' 0 l1;subst this;rw[Ak]at h

    have step:∀{es':List (Key×AV)} {E':Array MapEntry} {clock':Nat} (m1:D8 P C (nx σ) w kt' es' E' clock') (e:MapEntry) (he:e∈E'.toList) (hek:e.key=K) {x:AV} {X:Value} (hx:R C (nx σ) w x X)
      (bq:(Instr.mapEntry t (.map (some c)) K).run P w=.ok (.tuple #[X,goInt e.born]) { w with heap:=w.heap.setIfInBounds c (.map E' clock') }),
      Iv P C w σ (Instr.mapEntry t (.map (some c)) K) (.tup [x,.stp (nx σ)]) ((σ.set r (.map kt' es' (ver+1))).new (.stamp r (ver+1) kv)):=by
     intro es' E' clock' m1 e he hek x X hx bq;obtain⟨s1,s2⟩:=setMap hs hg l1 l2 (bl_ ver) m1;have hn:nx (σ.set r (.map kt' es' (ver+1)))=nx σ:=Aq _ _ _;have kh:=(P6 l2 (.map E' clock')).here
     obtain⟨s3,s4⟩:=s1.newStamp e.born r (ver+1) kv (by rw[hn];exact hr) (fun kt₁ es₁ v₁ hg₁=>by
      rw[aa_,if_pos rfl]at hg₁;cases hg₁
      exact⟨nl,fun _=>⟨c,E',clock',l1,kh,e,he,by rw[hek];exact hK,rfl⟩⟩)
     refine⟨_,_,_,_,bq,rfl,s3,?_,?_⟩
     ·rw[Ao];rw[hn]at s4⊢;exact s2.trans s4
     ·rw[Ao];rw[hn]at s4⊢;unfold R;refine⟨_,rfl,?_⟩;unfold RL;refine⟨R.ext (s2.trans s4) _ _ hx,?_⟩;unfold RL
      refine⟨?_,by unfold RL;trivial⟩
      unfold R
      exact⟨by simp[goInt,Ctx.addStm],bl_ _⟩
    rcases l3.locate hK hT with⟨x,hx,q,hq⟩|⟨hx,hno,hq⟩
    ·simp only[hx,af_,ba_]at h;obtain⟨rfl,rfl⟩:=h
     refine step l3 q.e (by rw[q.hE];simp) q.key q.val ?_
     have hold:=Amd q.hE;simp only[Instr.mapEntry,Sem.run_bind,Aa hu,Result.andThen_ok,Cw l2,C3 hT _ 9998,hq w,hold,ds_,gp_,q.key,Ah4 hT,Gv l2,Ads q.hE q.key,Sem.run_pure]
    ·simp only[hx,af_,ba_]at h;obtain⟨rfl,rfl⟩:=h
     refine step (l3.ins hK hT hno (z2 _ _ _)) ⟨K,Z,clock⟩ (by simp) rfl (z2 _ _ _) ?_
     simp only[Instr.mapEntry,Sem.run_bind,Aa hu,Result.andThen_ok,Cw l2,C3 hT _ 9998,hq w,Gv l2,z1,Sem.run_pure]
   ·cases h
  ·cases h
 ·cases h
theorem At2{kt:TypeId}{es E clock}(h:D8 P C N w kt es E clock){e f}(he:e∈E.toList)(hf:f∈E.toList)(hb:f.born=e.born):f=e:=by
 obtain⟨A,B,hE⟩:=eb_ he;obtain⟨j,hj⟩:=au_.1 hf;have hnd:=h.apart;rw[hE]at hnd hj;exact(Aay hnd hj hb).2
theorem Awu{kt:TypeId}{es E clock}(h:D8 P C N w kt es E clock){e f}(he:e∈E.toList)(hf:f∈E.toList)(hb:f.key=e.key):f=e:=by
 obtain⟨A,B,hE⟩:=eb_ he;obtain⟨j,hj⟩:=au_.1 hf;have hnd:=h.keys;rw[hE]at hnd hj;exact(Aay hnd hj hb).2
theorem Agh{α:Type}(E:Array α)(p):E.findIdx? p=E.toList.findIdx? p:=by
 cases E;simp
theorem Uj(hs:Sim P C w σ){t te m st v M S V}(hm:R C (nx σ) w m M)(hst:R C (nx σ) w st S)(hv:R C (nx σ) w v V)
  {u}(h:Mf te m st v σ=some (u,σ')):u=An/\∃w',(Instr.entryStore t M S V).run P w=.ok () w'/\Sim P C w' σ'/\Ext C (nx σ) w C (nx σ') w':=by
 unfold Mf at h
 split at h
 ·rename_i r a
  split at h
  ·rename_i r' ver kv kt es ver' hga hg
   split at h
   ·rename_i hb
    simp only[ad_]at hb;have h1:=ac_ hb.1.1;subst h1;have h2:=ac_ hb.1.2;subst h2
    split at h
    ·rename_i x hx
     simp only[Ak,af_,ba_]at h;obtain⟨rfl,rfl⟩:=h;refine⟨rfl,?_⟩;obtain⟨_,o2⟩:=hs.obj a _ hga;obtain⟨cm,E,clock,l1,l2,e,he,hek,ke⟩:=(o2 kt es ver hg).2 rfl;obtain⟨c',E',clock',l1',l2',l3⟩:=hs.obj r _ hg;rw[l1]at l1';cases l1';rw[l2]at l2';cases l2';unfold R at hm hst;obtain⟨c,rfl,_,bk⟩:=hm;have:=bk _ _ l1;subst this;obtain⟨rfl,_⟩:=hst
     rcases l3.locate hek (l3.typed e he)with⟨x',hx',q,_⟩|⟨hx',_⟩
     ·have hqe:q.e=e:=Awu l3 he (by rw[q.hE];simp) q.key
      obtain⟨m1,m2⟩:=l3.set q hv;obtain⟨s1,s2⟩:=setMap hs hg l1 l2 (bl_ ver) m1
      refine⟨_,?_,s1,by rw[Aq];exact s2⟩
      have pb:E.findIdx? (fun f=>(f.born:Int)==C.stm a)=some q.A.length:=by
       rw[Agh,q.hE,List.findIdx?_append]
       have hA:List.findIdx? (fun f:MapEntry=>(f.born:Int)==C.stm a) q.A=none:=by
        rw[List.findIdx?_eq_none_iff];intro f hf;rw[ke,←hqe];have hnd:=l3.apart;rw[q.hE,co_,dt_]at hnd
        have:=hnd.2.2 f.born (eq_ hf) q.e.born (by simp)
        exact beq_eq_false_iff_ne.2 fun hh=>this (Int.ofNat_inj.1 hh)
       rw[hA]
       simp[List.findIdx?_cons,ke,hqe]
      have br:(E.modify q.A.length fun f=>{ f with val:=V })=E.modify q.A.length fun f=>{ f with key:=e.key,val:=V }:=by
       apply Wp;rw[m2,fs_,q.hE,Oc]
      simp only[Instr.entryStore,Sem.run_bind,Cw l2,Result.andThen_ok,asInt,asIntOf,Sem.run_pure,pb,Gv l2,br]
     ·rw[hx]at hx';cases hx'
    ·cases h
   ·cases h
  ·cases h
 ·cases h
theorem Aa0(hs:Sim P C w σ){t kt:TypeId}{u}(h:T5 kt σ=some (u,σ')):Iv P C w σ (Instr.makeMap t none) u σ':=by
 unfold T5 at h;cases h;have p:=K3 w (.map #[] 0)
 obtain⟨s1,s2⟩:=hs.new p (.map kt [] 0) rfl (fun e=>⟨w.heap.size,#[],0,by simp[Ctx.add],p.here,fx_⟩)
 refine⟨_,_,_,_,by simp[Instr.makeMap];rfl,rfl,s1,by rw[Ao];exact s2,?_⟩
 rw[Ao];unfold R
 exact⟨_,rfl,bl_ _,fun c' o hc=>by simp[Ctx.add]at hc;exact hc.1⟩
theorem Yt(hs:Sim P C w σ){t kt et:TypeId}{ti}(hti:Ay P t=some ti)(hd:ti.desc=.map kt et){x X}(hx:R C (nx σ) w x X){u}(h:We kt x σ=some (u,σ')):Iv P C w σ (Instr.makeMap t (some X)) u σ':=by
 obtain⟨_,d,_,g2,g3,_⟩:=Ap hti
 have hu:=g2.trans (by rw[←g3,hd])
 unfold We at h
 split at h
 ·cases h;unfold R at hx;subst hx;have p:=K3 w (.map #[] 0)
  obtain⟨s1,s2⟩:=hs.new p (.map kt [] 0) rfl (fun e=>⟨w.heap.size,#[],0,by simp[Ctx.add],p.here,fx_⟩)
  refine⟨_,_,_,_,by simp[Instr.makeMap,Aa hu,asInt,asIntOf];rfl,rfl,s1,by rw[Ao];exact s2,?_⟩
  rw[Ao];unfold R
  exact⟨_,rfl,bl_ _,fun c' o hc=>by simp[Ctx.add]at hc;exact hc.1⟩
 ·cases h
theorem R.newIt{a c N}(ha:a<N)(hl:C.loc a=some (c,0)):R C N w (.it a) (.pointer (some ⟨c,0,none⟩)):=by
 unfold R
 exact⟨c,rfl,ha,fun c' o hc=>by rw[hl]at hc;cases hc;rfl⟩
theorem Agi(hs:Sim P C w σ){t kt et:TypeId}{ti}(hti:Ay P t=some ti)(hd:ti.desc=.map kt et){m M}(hm:R C (nx σ) w m M){u}(h:Af5 m σ=some (u,σ')):Iv P C w σ (Instr.range t M) u σ':=by
 obtain⟨_,d,_,g2,g3,_⟩:=Ap hti
 have hu:=g2.trans (by rw[←g3,hd])
 unfold Af5 at h
 split at h
 ·cases h;unfold R at hm;obtain⟨rfl,_⟩:=hm;have p:=K3 w (.mapIter none 0 #[] 0)
  obtain⟨s1,s2⟩:=hs.new p (.iter none 0 [] none) rfl (fun e=>⟨w.heap.size,0,#[],0,by simp[Ctx.add],p.here,rfl⟩)
  refine⟨_,_,_,_,by simp[Instr.range,Aa hu];rfl,rfl,s1,by rw[Ao];exact s2,?_⟩
  rw[Ao];exact R.newIt (bl_ _) (ec_ ..)
 ·rename_i r
  split at h
  ·rename_i kt' es ver hg
   cases h;unfold R at hm;obtain⟨c,rfl,hr,bk⟩:=hm;obtain⟨c',E,clock,l1,l2,l3⟩:=hs.obj r _ hg;have:=bk c' 0 l1;subst this;have p:=K3 w (.mapIter (some c) clock #[] clock);have hlt:=hs.lt r c 0 l1
   obtain⟨s1,s2⟩:=hs.new p (.iter (some r) ver es none) rfl (fun e=>by
    refine⟨by rw[Ao];omega,w.heap.size,c,clock,#[],clock,by simp[Ctx.add],p.here,fun kt₁ es₁ v₁ hg₁=>?_⟩
    rw[ag_,if_neg Om]at hg₁;rw[hg]at hg₁;cases hg₁
    refine⟨nl,fun _=>⟨E,by simp only[Ctx.add];rw[if_neg Om];exact l1,(p.other c hlt).trans l2,rfl,?_,fun k v hk=>by cases hk⟩⟩
    obtain⟨L,q1,q2⟩:=l3.perm;rw[Ao]
    exact⟨L,by rw[er_.2 (by simp)];exact q1,q2.ext e⟩)
   refine⟨_,_,_,_,by simp[Instr.range,Aa hu,Cw l2];rfl,rfl,s1,by rw[Ao];exact s2,?_⟩
   rw[Ao];exact R.newIt (bl_ _) (ec_ ..)
  ·cases h
 ·cases h
theorem Agj(hs:Sim P C w σ){x X}(hx:R C (nx σ) w x X){u}(h:Aaf x σ=some (u,σ')):σ'=σ/\Dz P C (nx σ) w (Instr.entry X) u:=by
 unfold Aaf at h
 split at h
 ·rename_i a
  split at h
  ·rename_i r ver left k v hga
   split at h
   ·rename_i kt es ver' hg
    cases hb:Nat.beq ver ver'
    ·simp[hb]at h
    ·simp only[hb,cond_true,af_,ba_]at h;obtain⟨rfl,rfl⟩:=h;have hv:=ac_ hb;subst hv;refine⟨rfl,?_⟩;obtain⟨_,c,cm,since,seen,last,o1,o2,o3⟩:=hs.obj a _ hga;obtain⟨E,l1,l2,cw,_,pc⟩:=(o3 kt es ver hg).2 rfl;obtain⟨e,he,ko,hk,hv⟩:=pc k v rfl;obtain⟨c',E',clock',l1',l2',l3⟩:=hs.obj r _ hg;rw[l1]at l1';cases l1';rw[l2]at l2';cases l2';unfold R at hx;obtain⟨c2,rfl,_,bk⟩:=hx;have:=bk c 0 o1;subst this;refine⟨.tuple #[e.key,e.val],?_,?_⟩
     ·have mb:E.find? (fun f=>f.born==e.born)=some e:=by
       cases hf:E.find? (fun f=>f.born==e.born)with
       |none=>
        rw[Array.find?_eq_none]at hf
        exact absurd (by simp) (hf e (by simpa using he))
       |some f=>
        have h1:=Array.find?_some hf;have h2:=Array.mem_of_find?_eq_some hf
        have hfe:f=e:=At2 l3 he (by simpa using h2) (by simpa using h1)
        rw[hfe]
      have hit:(getObj c2).run P w=.ok (.mapIter (some cm) since seen last) w:=by simp only[getObj,Sem.run,o2]
      subst cw
      simp[Instr.entry,hit,ko,Cw l2,mb]
     ·unfold R;refine⟨_,rfl,?_⟩;unfold RL;refine⟨KV_R hk (l3.typed e he),?_⟩;unfold RL
      exact⟨hv,by unfold RL;trivial⟩
   ·cases h
  ·cases h
 ·cases h
end
section
variable {P:Program}{C C':Ctx}{N N':Nat}{w w':World}{σ σ':Sto}
theorem Aei{α}(x b):∀a:List α,(x,a++b)∈Ht (a++x::b)
 |[]=>by simp[Ht]
 |y::a=>by
  have:=Aei x b a;simp only[ay_,Ht,an_,bt_];exact .inr ⟨(x,a++b),this,rfl⟩
theorem ER.mid:∀{l:List (Key×AV)} {A B:List MapEntry} {e:MapEntry},ER C N w l (A++e::B)->∃a x b,l=a++x::b/\ER C N w a A/\KV x.1 e.key/\R C N w x.2 e.val/\ER C N w b B
 |[],[],B,e,h=>by unfold ER at h;exact h.elim
 |[],_::_,B,e,h=>by rw[ay_]at h;unfold ER at h;exact h.elim
 |x::l,[],B,e,h=>by
  rw[bd_]at h;unfold ER at h
  exact⟨[],x,l,rfl,by unfold ER;trivial,h.1.1,h.1.2,h.2⟩
 |x::l,f::A,B,e,h=>by
  rw[ay_]at h;unfold ER at h;obtain⟨a,y,b,h1,h2,h3,h4,h5⟩:=ER.mid h.2
  exact⟨x::a,y,b,by simp[h1],by unfold ER;exact⟨h.1,h2⟩,h3,h4,h5⟩
theorem Agk(hs:Sim P C w σ){a O₀}(hg:σ.get a=some O₀){c m₀ s₀ l₀ seen₀}(hl:C.loc a=some (c,0))(hh:w.heap[c]? =some (.mapIter m₀ s₀ seen₀ l₀))
  {m₁ s₁ l₁ seen₁ m ver left cur}
  (hO:Ext C (nx σ) w C (nx σ) { w with heap:=w.heap.setIfInBounds c (.mapIter m₁ s₁ seen₁ l₁) }->OR P C { w with heap:=w.heap.setIfInBounds c (.mapIter m₁ s₁ seen₁ l₁) } (σ.set a (.iter m ver left cur)) a (.iter m ver left cur)):
  Sim P C { w with heap:=w.heap.setIfInBounds c (.mapIter m₁ s₁ seen₁ l₁) } (σ.set a (.iter m ver left cur))/\Ext C (nx σ) w C (nx σ) { w with heap:=w.heap.setIfInBounds c (.mapIter m₁ s₁ seen₁ l₁) }:=by
 have p:=P6 hh (.mapIter m₁ s₁ seen₁ l₁)
 exact hs.upd hl p (by unfold csize;rw[p.here,hh]) hg _ rfl (fun _ _ _ h=>by cases h) hO
theorem Ly{α:Type}{a:Array α}{i x}(h:a[i]? =some x):a.setIfInBounds i x=a:=by
 apply Array.ext_getElem?;intro j
 by_cases hj:i=j
 ·subst hj;have:=(bc_.1 h).1;rw[Array.getElem?_setIfInBounds_self_of_lt this,h]
 ·rw[cr_ hj]
theorem Akw{α:Type}(f:α->Nat){A B e}(h:((A++e::B).map f).Nodup):(A++e::B).filter (fun x=> !(f x==f e))=A++B:=by
 rw[co_,dt_,cn_,ed_]at h;obtain⟨_,⟨h2,_⟩,h3⟩:=h;rw[fy_,List.filter_cons];simp only[beq_self_eq_true,Bool.not_true,bp_,if_false];rw[er_.2,er_.2]
 ·intro x hx;have:f x≠f e:=fun hh=>h2 (hh▸eq_ hx)
  simpa using this
 ·intro x hx
  have:f x≠f e:=h3 (f x) (eq_ hx) (f e) (by simp)
  simpa using this
theorem Ah5(w){n}(h:0<n):∃i dr,i<n/\(choose (.mapNext n)).run P w=.ok i { w with drawn:=dr }:=by
 by_cases h1:n<=1
 ·exact⟨0,w.drawn,h,by simp[choose,Sem.run,Question.forced,h1]⟩
 ·exact⟨w.tape w.drawn (.mapNext n)%n,w.drawn+1,Nat.mod_lt _ h,by simp[choose,Sem.run,Question.forced,Question.cut,h1]⟩
theorem Akx(hs:Sim P C w σ){ty a X}(hx:R C (nx σ) w (.it a) X){m ver left cur}(hga:σ.get a=some (.iter m ver left cur))(hv:Aga σ m ver=true):
    ∃y w',(Instr.next X false ty).run P w=.ok y w'/\Ext C (nx σ) w C (nx σ) w'/\
      ((left=[]/\Sim P C w' (σ.set a (.iter m ver [] none))/\R C (nx σ) w' (.tup [.bool false]) y)∨
       (∃p∈Ht left,Sim P C w' (σ.set a (.iter m ver p.2 (some p.1)))/\R C (nx σ) w' (.tup [.bool true,T2 p.1.1,p.1.2]) y)):=by
  have i5:∀w,R C (nx σ) w (.tup [.bool false]) (.tuple #[.bool false]):=fun w=>by
    unfold R;exact⟨_,rfl,by unfold RL;exact⟨by unfold R;rfl,by unfold RL;trivial⟩⟩
  unfold R at hx;obtain⟨c,rfl,_,bk⟩:=hx;cases m with
  |none=>
    obtain⟨c',since,seen,last,o1,o2,rfl⟩:=hs.obj a _ hga;have:=bk c' 0 o1;subst this
    have hit:(getObj c).run P w=.ok (.mapIter none since seen last) w:=by simp only[getObj,Sem.run,o2]
    obtain⟨s1,s2⟩:=Agk (m₁:=none) (s₁:=since) (l₁:=last) (seen₁:=seen) (m:=none) (ver:=ver) (left:=[]) (cur:=none) hs hga o1 o2 (fun _=>⟨c,since,seen,last,o1,(P6 o2 _).here,rfl⟩)
    have hw:({ w with heap:=w.heap.setIfInBounds c (.mapIter none since seen last) }:World)=w:=by rw[Ly o2]
    rw[hw]at s1 s2
    exact⟨_,w,by simp[Instr.next,hit],s2,.inl ⟨rfl,s1,i5 w⟩⟩
  |some r=>
    obtain⟨hr,c',cm,since0,seen,since,o1,o2,o3⟩:=hs.obj a _ hga;have:=bk c' 0 o1;subst this;unfold Aga at hv;simp only at hv
    split at hv
    · rename_i kt es v hg
      have hvv:=ac_ hv;subst hvv;obtain⟨E,l1,l2,cw,⟨L,hp,hL⟩,_⟩:=(o3 kt es v hg).2 rfl;subst cw;obtain⟨cm',E',clock',l1',l2',l3⟩:=hs.obj r _ hg;rw[l1]at l1';cases l1';rw[l2]at l2';cases l2'
      have hit:(getObj c).run P w=.ok (.mapIter (some cm) since seen since) w:=by simp only[getObj,Sem.run,o2]
      have ek:∀e∈E,e.born<since:=fun e he=>l3.born e (by simpa using he)

      have bs:(!seen.isEmpty&& !E.isEmpty&&E.all fun x=>decide (x.born≥since))=false:=by
        rw[bz_];intro h;simp only[ad_]at h;obtain⟨⟨_,h2⟩,h3⟩:=h;cases hE:E[0]? with
        |none=>
          have:E.size=0:=by
            rw[Array.getElem?_eq_none_iff]at hE;omega
          simp at h2
          exact h2 (fe_ this)
        |some e=>
          have hm:e∈E:=Array.mem_of_getElem? hE;rw[Array.all_eq_true_iff_forall_mem]at h3;have h4:=h3 e hm;simp only[decide_eq_true_eq]at h4;have:=ek e hm;omega
      obtain⟨F,hFd⟩:∃F,E.filter (fun e=> !seen.contains e.born)=F:=⟨_,rfl⟩
      have hF:F.toList=E.toList.filter fun e=> !seen.contains e.born:=by rw[←hFd];simp
      have hFE:∀e∈F,e∈E:=fun e he=>by rw[←hFd]at he;exact(Array.mem_filter.1 he).1
      have hold:(F.filter fun e=>decide (e.born<since))=F:=by
        rw[Array.filter_eq_self];intro e he;simpa using ek e (hFE e he)
      have fu:(F.filter fun e=>decide (e.born≥since))=#[]:=by
        rw[Array.filter_eq_empty_iff];intro e he;have:=ek e (hFE e he);simp;omega
      have hgo:∃y w',(Instr.next (.pointer (some ⟨c,0,none⟩)) false ty).run P w=.ok y w'/\
          ((F=#[]/\y=.tuple #[.bool false]/\w'=w)∨∃e dr,e∈F.toList/\y=.tuple #[.bool true,e.key,e.val]/\w'={ w with drawn:=dr,heap:=w.heap.setIfInBounds c (.mapIter (some cm) since (seen.push e.born) since) }):=by
        have cd:∀(dr:Nat) (O:Obj),(setObj c O).run P { w with drawn:=dr }=.ok () { w with drawn:=dr,heap:=w.heap.setIfInBounds c O }:=fun dr O=>by
          simp only[setObj,Sem.run,o2]
        by_cases h0:F=#[]
        · refine⟨.tuple #[.bool false],w,?_,.inl ⟨h0,rfl,rfl⟩⟩
          subst h0;simp only[Instr.next,Sem.run_bind,hit,Result.andThen_ok,Cw l2,bs,bp_,if_false,hFd]
          simp[Question.forced]
        · simp only[Instr.next,Sem.run_bind,hit,Result.andThen_ok,Cw l2,bs,bp_,if_false,hFd,hold,fu]
          have pd:F.isEmpty=false:=by rw[bz_];intro h;exact h0 (by simpa using h)
          have hK:((if F.isEmpty=true then #[none]else #[])++Array.map some (F++#[]))=F.map some:=by rw[pd];simp
          rw[hK]
          have ec:0<(F.map some).size:=by
            simp only[Array.size_map]
            rcases de_ F.size with h1|h1
            · exact absurd (fe_ h1) h0
            · exact h1
          obtain⟨i,dr,hi,hch⟩:=Ah5 (P:=P) w ec;rw[hch];simp only[Array.size_map]at hi
          have cr:(F.map some)[i]? =some (some F[i]):=by simp[hi]
          simp only[Result.andThen_ok,cr,Sem.run_bind,cd,Sem.run_pure]
          exact⟨_,_,rfl,.inr ⟨F[i],dr,by simp,rfl,rfl⟩⟩
      obtain⟨y,w',bq,fh⟩:=hgo;refine⟨y,w',bq,?_⟩
      rcases fh with⟨h0,rfl,rfl⟩|⟨e,dr,he,rfl,rfl⟩
      · rw[←hF,h0]at hp
        have hL0:L=[]:=by simpa using hp
        subst hL0
        have hl0:left=[]:=ce_ (by rw[hL.length];rfl)
        subst hl0
        have hra:r≠a:=fun hh=>by rw[hh,hga]at hg;cases hg
        obtain⟨s1,s2⟩:=Agk (m₁:=some cm) (s₁:=since) (l₁:=since) (seen₁:=seen) (m:=some r) (ver:=v) (left:=[]) (cur:=none) hs hga o1 o2 (fun ex=>by
          refine⟨by rw[Aq];exact hr,c,cm,since,seen,since,o1,(P6 o2 _).here,fun kt₁ es₁ v₁ hg₁=>?_⟩
          rw[aa_,if_neg hra,hg]at hg₁;cases hg₁
          refine⟨nl,fun _=>⟨E,l1,?_,rfl,⟨[],by rw[←hF,h0],by unfold ER;trivial⟩,fun k v hk=>by cases hk⟩⟩
          rw[(P6 o2 _).other cm (fun hh=>by rw[hh,o2]at l2;cases l2)];exact l2)
        have hw:({ w' with heap:=w'.heap.setIfInBounds c (.mapIter (some cm) since seen since) }:World)=w':=by rw[Ly o2]
        rw[hw]at s1 s2;exact⟨s2,.inl ⟨rfl,s1,i5 w'⟩⟩
      · have heL:e∈L:=hp.symm.subset (by rw[←hF];exact he)
        obtain⟨A,B,hLs⟩:=eb_ heL;have hL':=hL;rw[hLs]at hL';obtain⟨la,x,lb,mc,ea,hk,hv',eb⟩:=hL'.mid;obtain⟨F1,F2,hFs⟩:=eb_ he
        have heE:e∈E.toList:=by have:=hFE e (by simpa using he);simpa using this
        have hra:r≠a:=fun hh=>by rw[hh,hga]at hg;cases hg
        obtain⟨t1,t2⟩:=hs.same (w':={ w with drawn:=dr }) nl (fun _ _=>rfl) ⟨rfl,rfl⟩
        obtain⟨s1,s2⟩:=Agk (m₁:=some cm) (s₁:=since) (l₁:=since) (seen₁:=seen.push e.born) (m:=some r) (ver:=v) (left:=la++lb) (cur:=some x) t1 hga o1 o2 (fun ex=>by
          have ex2:=t2.trans ex
          refine⟨by rw[Aq];exact hr,c,cm,since,seen.push e.born,since,o1,(P6 (w:={ w with drawn:=dr }) o2 _).here,fun kt₁ es₁ v₁ hg₁=>?_⟩
          rw[aa_,if_neg hra,hg]at hg₁;cases hg₁;refine⟨nl,fun _=>⟨E,l1,?_,rfl,⟨A++B,?_,?_⟩,fun k y hky=>?_⟩⟩
          · rw[(P6 (w:={ w with drawn:=dr }) o2 _).other cm (fun hh=>by rw[hh,o2]at l2;cases l2)];exact l2
          · have pf:(E.toList.filter fun f=> !(seen.push e.born).contains f.born)=F1++F2:=by
              have h1:(E.toList.filter fun f=> !(seen.push e.born).contains f.born)=F.toList.filter fun f=> !(f.born==e.born):=by
                rw[hF,List.filter_filter]
                congr 1
                funext f
                by_cases hh:f.born=e.born<;>simp[Array.contains_push,hh]
              rw[h1,hFs];refine Akw _ ?_;rw[←hFs,hF];exact(List.filter_sublist.map _).nodup l3.apart
            rw[pf];have hp2:=hp;rw[←hF,hLs,hFs]at hp2;exact(List.perm_middle.symm.trans (hp2.trans List.perm_middle)).cons_inv
          · rw[Aq];exact(ea.append eb).ext ex2
          · cases hky
            exact⟨e,heE,by simp,hk,by rw[Aq];exact R.ext ex2 _ _ hv'⟩)
        refine⟨t2.trans s2,.inr ⟨(x,la++lb),by rw[mc];exact Aei x lb la,s1,?_⟩⟩
        have ex2:=t2.trans s2;unfold R;refine⟨_,rfl,?_⟩;unfold RL
        refine⟨by unfold R;rfl,?_⟩
        unfold RL;refine⟨KV_R hk (l3.typed e heE),?_⟩;unfold RL
        exact⟨R.ext ex2 _ _ hv',by unfold RL;trivial⟩
    · cases hv
end
end Go.AM
