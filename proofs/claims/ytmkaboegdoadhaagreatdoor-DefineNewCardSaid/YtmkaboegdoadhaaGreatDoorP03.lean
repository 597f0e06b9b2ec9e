/- A part of the proof; shortened by program. -/
import Derived.Laws.Tables
import Derived.Laws.Append
import Derived.MapKept
import Derived.Test.YtmkaboegdoadhaaGreatDoorP02
set_option maxRecDepth 100000
set_option maxHeartbeats 4000000
set_option linter.unusedSimpArgs false
set_option linter.unusedVariables false
namespace Go.AM
open Go
section
variable {P:Program}{C C':Ctx}{N N':Nat}{w w':World}{σ σ':Sto}
theorem Jh{c o cs T fz}(h:w.heap[c]? =some (.cells cs T fz)):w.cell? ⟨c,o,none⟩=cs[o]? :=by
 unfold World.cell?;simp[h]
theorem Fl{c cs T fz}(h:w.heap[c]? =some (.cells cs T fz)):csize w c=cs.size:=by
 unfold csize;simp[h]
theorem RC.of_cells{c o cs T fz l vs}(hh:w.heap[c]? =some (.cells cs T fz))(h:RL C N w l vs)(h1:∀x∈vs,x.oneCell=true)
  (hv:∀(i:Nat) (v:Value),vs[i]? =some v->cs[o+i]? =some v):RC C N w c l o:=by
 refine gv_ fun i x hi=>?_
 obtain⟨v,k1,k2⟩:=h.get i x hi;exact⟨v,(Jh hh).trans (hv i v k1),h1 v (ab_ k1),k2⟩
abbrev fb_:=@RC.of_cells
theorem P2(hs:Sim P C w σ){cs T l vs}(p:Pu w w' (.cells cs T (0,0)))(h:RL C (nx σ) w l vs)(h1:∀x∈vs,x.oneCell=true)
  (hv:∀(i:Nat) (v:Value),vs[i]? =some v->cs[i]? =some v):
  Sim P (C.add (nx σ) w.heap.size 0) w' (σ.new (.cells l))/\Ext C (nx σ) w (C.add (nx σ) w.heap.size 0) (nx σ+1) w':=by
 refine hs.new p (.cells l) rfl fun e=>?_
 refine⟨w.heap.size,0,cs,T,by simp[Ctx.add],p.here,?_⟩
 rw[Ao]
 exact fb_ p.here (h.ext e) h1 fun i v hi=>by rw[bn_];exact hv i v hi
theorem R.newPtr{c o N a}(ha:a<N)(hl:C.loc a=some (c,o)):R C N w (.pr a 0) (.pointer (some ⟨c,o,none⟩)):=by
 unfold R;refine⟨_,rfl,ha,fun c' o' hc=>?_⟩
 rw[hl]at hc;cases hc;simp
theorem R.newSlice{c o N len k sz a cap}(ha:a<N)(hl:C.loc a=some (c,o))(h1:len<=k)(h2:∀q,cap=some q->k=q)(h3:o+k*sz<=csize w c):
  R C N w (.sr a 0 sz len cap) (.slice (some ⟨c,o,none⟩) len k):=by
 unfold R;refine⟨_,k,rfl,ha,h1,h2,fun c' o' hc=>?_⟩
 rw[hl]at hc;cases hc
 exact⟨fun _=>by simp,by omega⟩
theorem Ctx.add_loc(C:Ctx)(a c o):(C.add a c o).loc a=some (c,o):=by simp[Ctx.add]
abbrev ec_:=@Ctx.add_loc
theorem K3(w O):Pu w { w with heap:=w.heap.push O } O:=fa_ rfl ⟨rfl,rfl⟩
theorem At1(w O):Pu w { w with heap:=w.heap.push O,drawn:=w.drawn+1 } O:=fa_ rfl ⟨rfl,rfl⟩
theorem C5{t i z}(h:P.info? t=some i)(hz:i.zero=some z)(w):(zeroValue t).run P w=.ok z w:=by
 unfold zeroValue;simp[Cq h,hz]
theorem Agc(hs:Sim P C w σ){t:TypeId}{ti}(hti:Ay P t=some ti){z}(hz:ti.zero=some z){v}(h:Aab z σ=some (v,σ')):Iv P C w σ (Instr.alloc t true (.tuple #[])) v σ':=by
 obtain⟨i,d,g1,g2,g3,g4,_,g6,g7⟩:=Ap hti;rw[g6]at hz;obtain⟨Z,q1,q2,q3,_,_⟩:=Fq (C:=C) (w:=w) (N:=nx σ) hz;unfold Aab at h;cases h;have p:=K3 w (.cells Z.cells t (0,0))
 obtain⟨k1,k2⟩:=P2 hs p q2 q3 (fun i v hi=>by rwa[bw_]at hi)
 refine⟨_,_,_,_,?_,rfl,k1,by rw[Ao];exact k2,by rw[Ao];exact R.newPtr (bl_ _) (ec_ ..)⟩
 unfold Instr.alloc
 simp[C5 g1 q1,newVar,newRow]
theorem Aku(hs:Sim P C w σ){t n x X}(hx:R C (nx σ) w x X){v}(h:sBox n x σ=some (v,σ')):Iv P C w σ (Instr.box t X) v σ':=by
 unfold sBox at h
 split at h
 ·rename_i cs hcs
  cases h;obtain⟨q1,q2,q3,q4⟩:=Hc hcs hx;have p:=K3 w (.cells X.cells t (0,0))
  obtain⟨k1,k2⟩:=P2 hs p q1 q4 (fun i v hi=>by rwa[bw_]at hi)
  refine⟨_,_,_,_,?_,rfl,k1,by rw[Ao];exact k2,by rw[Ao];exact R.newPtr (bl_ _) (ec_ ..)⟩
  unfold Instr.box
  simp[newVar,newRow]
 ·cases h
theorem N7(z):∀n,(rep z n).length=n*z.length
 |0=>by simp[rep]
 |n+1=>by simp[rep,N7 z n,fw_];omega
theorem Ama(z)(hz:0<z.length):∀(n i:Nat) (x:AV),(rep z n)[i]? =some x->z[i%z.length]? =some x
 |0,i,x,h=>by simp[rep]at h
 |n+1,i,x,h=>by
  simp only[rep]at h
  by_cases hi:i<z.length
  ·rw[cg_ hi]at h;rw[go_ hi];exact h
  ·rw[do_ Om]at h;have:=Ama z hz n _ x h;rw[Nat.mod_eq_sub_mod Om];exact this
theorem RL.rep{z}{zc:Array Value}(h:RL C N w z zc.toList)(n):RL C N w (rep z n) ((Array.range (n*zc.size)).map (zc[·%zc.size]!)).toList:=by
 have hl:=h.length
 have hl':z.length=zc.size:=by simpa using hl
 refine gu_ (by rw[N7];simp[hl']) fun i x hi=>?_
 have hb:=(ae_.1 hi).1;rw[N7]at hb
 have hz:0<z.length:=by
  rcases de_ z.length with h0|h0
  ·rw[h0]at hb;omega
  ·exact h0
 obtain⟨v,k1,k2⟩:=h.get _ _ (Ama z hz n i x hi);refine⟨v,?_,k2⟩;rw[hl']at k1 hb
 have k1':zc[i%zc.size]? =some v:=by simpa using k1
 simp only[c_,br_,bw_,Array.getElem?_range]
 simp[hb,getElem!_def,k1']
theorem Mj{zc:Array Value}(h:∀x∈zc.toList,x.oneCell=true)(n):∀x∈((Array.range (n*zc.size)).map (zc[·%zc.size]!)).toList,x.oneCell=true:=by
 intro x hx;simp only[c_,bt_]at hx;obtain⟨i,h1,rfl⟩:=hx
 have hi:i<n*zc.size:=by simpa using h1
 have hz:0<zc.size:=by
  rcases de_ zc.size with h0|h0
  ·rw[h0]at hi;omega
  ·exact h0
 have hm:i%zc.size<zc.size:=Nat.mod_lt _ hz;rw[getElem!_pos zc _ hm]
 exact h _ (by simp)
end
section
variable {P:Program}{C C':Ctx}{N N':Nat}{w w':World}{σ σ':Sto}
theorem N8:∀{fs:List Field},Q7 P fs=true->∃places,fs.mapM (fun f=>(P.info? f.type).map fun i=>(f.offset,i.size))=some places/\
  ∀(i:Nat) (f:Field),fs[i]? =some f->∃fi,P.info? f.type=some fi/\places[i]? =some (f.offset,fi.size)
 |[],_=>⟨[],by simp,fun i f h=>by simp at h⟩
 |f::r,h=>by
  simp only[Q7]at h
  split at h
  ·rename_i fi hfi
   obtain⟨pl,h1,h2⟩:=N8 h
   refine⟨(f.offset,fi.size)::pl,by simp[h_,hfi,h1],fun i g hg=>?_⟩
   cases i with
   |zero=>simp at hg;subst hg;exact⟨fi,hfi,rfl⟩
   |succ i=>obtain⟨gi,k1,k2⟩:=h2 i g (by simpa using hg);exact⟨gi,k1,by simpa using k2⟩
  ·cases h
theorem Sk{E tm}{a:Act}(hE:E.P=P)(hg:Iw C N w E)(ht:TR C N w tm a.tmps){fs place}
  (hp:∀(i:Nat) (f:Field),fs[i]? =some f->∃fi,P.info? f.type=some fi/\place i=some (f.offset,fi.size)):
  ∀{parts:List (Nat×Operand)} {ps:List (Nat×Nat×AV)},Js P E tm fs parts=some ps->Mi C N w place ps (parts.map fun(i,x)=>(i,a.eval x))
 |[],ps,h=>by simp only[Js,af_]at h;subst h;simp only[gs_];unfold Mi;trivial
 |(i,x)::r,ps,h=>by
  simp only[Js]at h
  split at h
  ·rename_i f l hf hl
   split at h
   ·rename_i ti hti
    cases h;obtain⟨fi,d,g1,_,_,g4,_⟩:=Ap hti;obtain⟨fi',k1,k2⟩:=hp i f hf;rw[g1]at k1;cases k1;simp only[cn_];unfold Mi
    exact⟨⟨by rw[k2,g4],Be hg ht x⟩,Sk hE hg ht hp hl⟩
   ·cases h
  ·cases h
theorem M3{E tm}{a:Act}(hg:Iw C N w E)(ht:TR C N w tm a.tmps)(size):
  ∀(parts:List (Nat×Operand)),Mi C N w (fun i=>some (i*size,size)) (Is E tm size parts) (parts.map fun(i,x)=>(i,a.eval x))
 |[]=>by simp only[Is,gs_];unfold Mi;trivial
 |(i,x)::r=>by
  simp only[Is,cn_];unfold Mi;exact⟨⟨rfl,Be hg ht x⟩,M3 hg ht size r⟩
theorem Uf{t:TypeId}{ti}(hti:Ay P t=some ti){fs}(hd:ti.desc=.struct fs){z}(hz:ti.zero=some z)(hi:Q7 P fs.toList=true)
  {ps parts place}
  (jf:∀places,fs.toList.mapM (fun f=>(P.info? f.type).map fun i=>(f.offset,i.size))=some places->place=(places.toArray[·]?))
  (hp:Mi C N w place ps parts.toList){v}(h:M2 z ps σ=some (v,σ')):σ'=σ/\Dz P C N w (Instr.build t parts) v:=by
 obtain⟨i,d,g1,g2,g3,g4,_,g6,g7⟩:=Ap hti;rw[g6]at hz;obtain⟨Z,q1,q2,q3,_,_⟩:=Fq (C:=C) (w:=w) (N:=N) hz;obtain⟨pl,h1,_⟩:=N8 hi
 have hu:=g2.trans (by rw[←g3,hd])
 unfold M2 at h
 split at h
 ·rename_i cs hcs
  cases h;obtain⟨cs',k1,k2,k3,_⟩:=N6 hp q2 q3 hcs
  refine⟨rfl,.agg cs',?_,by unfold R;exact⟨_,rfl,k2,k3⟩⟩
  rw[jf pl h1]at k1;refine run_build w t parts cs' ?_;unfold Program.built;simp only[g1,hu,q1,h1];exact k1
 ·cases h
theorem Aaq{t e:TypeId}{n ti te}(hti:Ay P t=some ti)(hd:ti.desc=.array n e)(hte:Ay P e=some te){z}(hz:ti.zero=some z)
  {ps parts}
  (hp:Mi C N w (fun i=>some (i*te.size,te.size)) ps parts.toList){v}(h:M2 z ps σ=some (v,σ')):σ'=σ/\Dz P C N w (Instr.build t parts) v:=by
 obtain⟨i,d,g1,g2,g3,g4,_,g6,g7⟩:=Ap hti;obtain⟨ei,_,e1,_,_,e4,_⟩:=Ap hte;rw[g6]at hz;obtain⟨Z,q1,q2,q3,_,_⟩:=Fq (C:=C) (w:=w) (N:=N) hz
 have hu:=g2.trans (by rw[←g3,hd])
 unfold M2 at h
 split at h
 ·rename_i cs hcs
  cases h;obtain⟨cs',k1,k2,k3,_⟩:=N6 hp q2 q3 hcs
  refine⟨rfl,.agg cs',?_,by unfold R;exact⟨_,rfl,k2,k3⟩⟩
  unfold Instr.build;simp only[Sem.run_bind,C5 g1 q1,Result.andThen_ok,Aa hu,A9 e1];rw[e4]at k1;simp only[k1,Sem.run_pure]
 ·cases h
theorem Aee{e ei Z}(h:P.info? e=some ei)(hz:ei.zero=some Z)(hsz:Z.cells.size=ei.size)(n):
  ∃zc,(∀{α:Type} (K:Array Value->Sem α),(if n*ei.size=0 then do let zero←pure #[];K zero else do let l←zeroValue e;let zero←pure l.cells;K zero).run P w=(K zc).run P w)/\
   (Array.range (n*ei.size)).map (zc[·%zc.size]!)=(Array.range (n*Z.cells.size)).map (Z.cells[·%Z.cells.size]!):=by
 by_cases h0:n*ei.size=0
 ·refine⟨#[],fun K=>by rw[if_pos h0];simp,?_⟩
  rw[hsz,h0];simp
 ·refine⟨Z.cells,fun K=>by rw[if_neg h0];simp[C5 h hz],by rw[hsz]⟩
theorem Ug(hs:Sim P C w σ){t e:TypeId}{len ti te}(hti:Ay P t=some ti)(hd:ti.desc=.slice e)(hte:Ay P e=some te){z}(hz:te.zero=some z)(hzl:z.length=te.size)
  (bn:len*te.size<=16777216){byref ps parts}
  (hp:Mi C (nx σ) w (fun i=>some (i*te.size,te.size)) ps parts.toList){v}(h:Id z te.size len byref ps σ=some (v,σ')):
  Iv P C w σ (Instr.buildSlice t len parts) v σ'/\(byref=false->σ'=σ):=by
 obtain⟨i,d,g1,g2,g3,g4,_,_,_⟩:=Ap hti;obtain⟨ei,ed,e1,e2,e3,e4,_,e6,e7⟩:=Ap hte;rw[e6]at hz;obtain⟨Z,q1,q2,q3,_,_⟩:=Fq (C:=C) (w:=w) (N:=nx σ) hz
 have hu:=g2.trans (by rw[←g3,hd])
 have hZ:Z.cells.size=ei.size:=by have:=q2.length;simp at this;omega
 obtain⟨zc,r1,r2⟩:=Aee (P:=P) (w:=w) e1 q1 hZ len;unfold Id at h
 split at h
 ·rename_i cs hcs
  obtain⟨cs',k1,k2,k3,k4⟩:=N6 hp (q2.rep len) (Mj q3 len) hcs
  have bq:(Instr.buildSlice t len parts).run P w=.ok (.slice (some ⟨w.heap.size,0,none⟩) len len) { w with heap:=w.heap.push (.cells cs' e) }:=by
   unfold Instr.buildSlice;simp only[Sem.run_bind,Result.andThen_ok,Aa hu,A9 e1]
   rw[Sem.run_ite,if_neg (by rw[←e4];omega)]
   rw[r1];simp only[r2];rw[e4]at k1;simp only[k1]
   simp[newRow]
  have p:=K3 w (.cells cs' e (0,0))
  have iz:cs'.size=len*te.size:=by rw[k4];simp[hZ,e4]
  cases byref with
  |true=>
   simp only[af_,ba_]at h;obtain⟨rfl,rfl⟩:=h
   obtain⟨s1,s2⟩:=P2 hs p k2 k3 (fun i v hi=>by rwa[bw_]at hi)
   refine⟨⟨_,_,_,_,bq,rfl,s1,by rw[Ao];exact s2,?_⟩,fun hh=>by cases hh⟩
   rw[Ao]
   refine R.newSlice (bl_ _) (ec_ ..) nl (fun q hq=>by cases hq;rfl) ?_
   rw[Fl p.here,iz];omega
  |false=>
   simp only[af_,ba_]at h;obtain⟨rfl,rfl⟩:=h;obtain⟨s1,s2⟩:=hs.push p;refine⟨⟨_,_,_,_,bq,rfl,s1,s2,?_⟩,fun _=>rfl⟩
   have hl:=k2.length;unfold R
   refine⟨some ⟨w.heap.size,0,none⟩,len,rfl,nl,fun q hq=>by cases hq;rfl,by simp at hl;omega,fun hh=>(by cases hh),fun ad ha=>?_⟩
   cases ha;refine⟨fun _=>rfl,fun _ ho=>?_,?_⟩
   ·have:=hs.own_lt ho;simp at this
   ·exact fb_ p.here (k2.ext s2) k3 fun i v hi=>by simpa using hi
 ·cases h
end
section
variable {P:Program}{C C':Ctx}{N N':Nat}{w w':World}{σ σ':Sto}
theorem Sto.cells_get{a vs}(h:σ.cells a=some vs):σ.get a=some (.cells vs):=by
 unfold Sto.cells at h
 split at h
 ·rename_i vs' hg;cases h;exact hg
 ·cases h
abbrev eu_:=@Sto.cells_get
theorem S1(hs:Sim P C w σ){a off vs vs' l xs}(hg:σ.get a=some (.cells vs))(cd:Et vs off l=some vs')(hl:RL C (nx σ) w l xs)(h1:∀x∈xs,x.oneCell=true):
  ∃c o w',C.loc a=some (c,o)/\(storeCells ⟨c,o+off,none⟩ xs).run P w=.ok () w'/\Sim P C w' (σ.set a (.cells vs'))/\Ext C (nx σ) w C (nx σ) w':=by
 obtain⟨c,o,cs,T,k1,k2,k3⟩:=hs.obj a _ hg;obtain⟨s1,s2,s3⟩:=N5 cd;have bl:=hl.length
 have e9:xs≠[]->o+off+xs.length<=cs.size:=fun hne=>by
  have hv:vs≠[]:=fun h0=>by
   apply hne
   have:l.length=0:=by rw[h0]at s2;simp only[cu_]at s2;omega
   exact ce_ Om
  have:=k3.room hv;rw[Fl k2]at this;omega
 have hw:∃w',(storeCells ⟨c,o+off,none⟩ xs).run P w=.ok () w'/\Wr w w' c (.cells (Wg cs (o+off) xs) T (0,0)):=by
  by_cases hx:xs=[]
  ·subst hx;exact⟨w,by simp[storeCells],rfl,k2,fun _ _=>rfl,rfl,rfl⟩
  ·exact Lq xs w c (o+off) 0 cs T k2 h1 (e9 hx)
 obtain⟨w',r1,r2⟩:=hw;refine⟨c,o,w',k1,r1,?_⟩
 refine hs.upd k1 r2 (by rw[Fl r2.here,Fl k2,Nf]) hg (.cells vs') rfl (fun _ _ _ h=>by cases h) fun e=>?_
 refine⟨c,o,_,T,k1,r2.here,?_⟩;rw[Aq];refine gv_ fun i x hi=>?_
 rw[s3 i]at hi;rw[Jh r2.here]
 by_cases hx:xs=[]
 ·subst hx
  simp at bl
  rw[if_neg (by simp[bl])]at hi
  obtain⟨v,q1,q2,q3⟩:=k3.get i x hi;rw[Jh k2]at q1;exact⟨v,q1,q2,R.ext e _ _ q3⟩
 ·have hr:=e9 hx;rw[Pw xs cs (o+off) hr]
  by_cases hc:off<=i/\i<off+l.length
  ·rw[if_pos hc]at hi;rw[if_pos Om];obtain⟨v,q1,q2⟩:=hl.get _ x hi
   exact⟨v,by rw[←q1];congr 1;omega,h1 v (ab_ q1),R.ext e _ _ q2⟩
  ·rw[if_neg hc]at hi;rw[if_neg Om];obtain⟨v,q1,q2,q3⟩:=k3.get i x hi;rw[Jh k2]at q1;exact⟨v,q1,q2,R.ext e _ _ q3⟩
theorem Agd(hs:Sim P C w σ){t:TypeId}{ti}(hti:Ay P t=some ti){x v X V}(hx:R C (nx σ) w x X)(hv:R C (nx σ) w v V){u}(h:Wc ti.size x v σ=some (u,σ')):
  u=An/\∃w',(Instr.storeAt t X V).run P w=.ok () w'/\Sim P C w' σ'/\Ext C (nx σ) w C (nx σ') w':=by
 obtain⟨i,d,g1,g2,g3,g4,_⟩:=Ap hti;unfold Wc at h
 split at h
 ·rename_i a off l hl
  split at h
  ·rename_i vs hvs
   split at h
   ·rename_i vs' cd
    cases h;obtain⟨q1,q2,q3,q4⟩:=Hc hl hv;obtain⟨c,o,w',r1,r2,r3,r4⟩:=S1 hs (eu_ hvs) cd q1 q4
    refine⟨rfl,w',?_,r3,by rw[Aq];exact r4⟩
    unfold R at hx;obtain⟨ad,rfl,_,hl⟩:=hx;rw[hl c o r1];unfold Instr.storeAt storeVar;simp only[Instr.sureAddr,Sem.run_bind,Sem.run_pure,Result.andThen_ok,A9 g1,Sem.run_ite]
    rw[if_neg (by rw[q2,g4];simp)]
    first|exact r2|(simp only[Sem.run_bind,Sem.run_pure,Result.andThen_ok];exact r2)
   ·cases h
  ·cases h
 ·cases h
theorem Hd(z n):Builtin.zeroCells z n=(Array.range (n*z.size)).map (z[·%z.size]!):=rfl
theorem Age(hs:Sim P C w σ){t e ty:TypeId}{ti te}(hti:Ay P t=some ti)(hd:ti.desc=.slice e)(hte:Ay P e=some te){z}(hz:te.zero=some z)(hzl:z.length=te.size)
  {x X}(hx:R C (nx σ) w x X){u}(h:Af6 z te.size x σ=some (u,σ')):
  u=An/\∃w',(Builtin.clear_ #[t] ty #[X]).run P w=.ok (.tuple #[]) w'/\Sim P C w' σ'/\Ext C (nx σ) w C (nx σ') w':=by
 obtain⟨i,d,g1,g2,g3,g4,_,_,_⟩:=Ap hti;obtain⟨ei,ed,e1,e2,e3,e4,_,e6,e7⟩:=Ap hte;rw[e6]at hz;obtain⟨Z,q1,q2,q3,_,_⟩:=Fq (C:=C) (w:=w) (N:=nx σ) hz
 have hu:=g2.trans (by rw[←g3,hd])
 have hZ:z.length=Z.cells.size:=by have:=q2.length;simpa using this
 unfold Af6 at h
 split at h
 ·rename_i a off sz len cap
  split at h
  ·rename_i vs hsz hvs
   split at h
   ·rename_i vs' cd
    cases h;refine⟨rfl,?_⟩;obtain⟨c,o,w',r1,r2,r3,r4⟩:=S1 (P:=P) hs (eu_ hvs) cd (q2.rep len) (Mj q3 len)
    refine⟨w',?_,r3,by rw[Aq];exact r4⟩
    unfold R at hx;obtain⟨ad,k,rfl,_,hk,_,hl⟩:=hx;unfold Builtin.clear_;cases len with
    |zero=>
     have:w'=w:=by
      have:((Array.range (0*Z.cells.size)).map (Z.cells[·%Z.cells.size]!)).toList=[]:=by simp
      rw[this]at r2;simp[storeCells]at r2;exact r2.symm
     subst this
     simp[Aa hu]
    |succ n=>
     rw[(hl c o r1).1 Om];simp only[c_,Array.toList_range]at r2
     simp[Aa hu,C5 e1 q1,Hd,r2]
   ·cases h
  ·cases h
 ·cases h;unfold R at hx;obtain⟨rfl,_⟩:=hx;refine⟨rfl,w,?_,hs,cf_ _ _ _⟩;unfold Builtin.clear_;simp[Aa hu]
 ·cases h;unfold R at hx;obtain⟨ad,k,rfl,_⟩:=hx;refine⟨rfl,w,?_,hs,cf_ _ _ _⟩;cases ad<;>(unfold Builtin.clear_;simp[Aa hu])
 ·cases h
theorem Rf{c b}(h:c*(b+1)<=sizeLim):c<=sizeLim/\c*b<=sizeLim:=by
 have h1:c*1<=c*(b+1):=Nat.mul_le_mul_left _ Om;have h2:c*b<=c*(b+1):=Nat.mul_le_mul_left _ Om
 constructor<;>omega
theorem N9{n}(h:n<=sizeLim):IntKind.i64.wrap (Int.ofNat n)=Int.ofNat n:=
 Pz .i64 _ (by simp only[M0];rw[hb_];unfold sizeLim at h;omega)
theorem Wm(hs:Sim P C w σ){t e:TypeId}{ti te}(hti:Ay P t=some ti)(hd:ti.desc=.slice e)(hte:Ay P e=some te){z}(hz:te.zero=some z)(hzl:z.length=te.size)
  {l c L K}(hl:R C (nx σ) w l L)(hc:R C (nx σ) w c K){v}(h:Nz z te.size te.bytes l c σ=some (v,σ')):Iv P C w σ (Instr.makeSlice t L K) v σ':=by
 obtain⟨i,d,g1,g2,g3,g4,_,_,_⟩:=Ap hti;obtain⟨ei,ed,e1,e2,e3,e4,e5,e6,e7⟩:=Ap hte;rw[e6]at hz;obtain⟨Z,q1,q2,q3,_,_⟩:=Fq (C:=C) (w:=w) (N:=nx σ) hz
 have hu:=g2.trans (by rw[←g3,hd])
 have hZ:Z.cells.size=ei.size:=by have:=q2.length;simp at this;omega
 unfold Nz at h
 split at h
 ·rename_i n m
  cases hb:(Nat.ble n m&&Nat.ble (m*(te.bytes+1)) sizeLim)
  ·simp[hb]at h
  ·simp only[hb,cond_true,af_,ba_]at h;obtain⟨rfl,rfl⟩:=h;simp only[ad_,hb_]at hb;obtain⟨hb1,hb2⟩:=hb;obtain⟨hb3,hb4⟩:=Rf hb2;unfold R at hl hc;subst hl hc;obtain⟨zc,r1,r2⟩:=Aee (P:=P) (w:=w) e1 q1 hZ m;have p:=K3 w (.cells ((Array.range (m*Z.cells.size)).map (Z.cells[·%Z.cells.size]!)) e (0,0))
   obtain⟨s1,s2⟩:=P2 hs p (q2.rep m) (Mj q3 m) (fun i v hi=>by rwa[bw_]at hi)
   refine⟨.slice (some ⟨w.heap.size,0,none⟩) n m,_,_,_,?_,rfl,s1,by rw[Ao];exact s2,?_⟩
   ·unfold Instr.makeSlice;simp only[Sem.run_bind,Result.andThen_ok,Aa hu,asInt,asIntOf,Sem.run_pure,Cq e1,N9 hb3,N9 (ai_ hb1 hb3)]
    have hm:¬((ei.bytes:Int)*(m:Int)>2 ^ 48):=by
     rw[e5]at hb4
     have h1:ei.bytes*m<=sizeLim:=by rw[Nat.mul_comm];exact hb4
     have h2:=bm_.2 h1;rw[gw_]at h2
     have h3:((sizeLim:Nat):Int)<2 ^ 48:=by decide
     generalize (ei.bytes:Int)*(m:Int)=q at *
     generalize (2:Int) ^ 48=r at *
     omega
    rw[Sem.run_ite,if_neg]
    ·simp only[Sem.run_bind,run_askRoom,Result.andThen_ok,A9 e1,ei_,bu_,r1];rw[r2]
     simp[newRow]
    ·simp only[bu_,bk_,decide_eq_true_eq,not_or]
     refine⟨⟨⟨by omega,hm⟩,by omega⟩,by omega⟩
   ·rw[Ao]
    refine R.newSlice (bl_ _) (ec_ ..) hb1 (fun q hq=>by cases hq;rfl) ?_
    rw[Fl p.here]
    simp[hZ,e4]
 ·cases h
end
section
variable {P:Program}{C C':Ctx}{N N':Nat}{w w':World}{σ σ':Sto}
theorem RL.take:∀(n:Nat) {l:List AV} {vs:List Value},RL C N w l vs->RL C N w (l.take n) (vs.take n)
 |0,_,_,_=>by simp only[List.take_zero];unfold RL;trivial
 |n+1,[],[],_=>by simp only[List.take_nil];unfold RL;trivial
 |n+1,x::r,v::s,h=>by
  unfold RL at h;simp only[List.take_succ_cons];unfold RL;exact⟨h.1,RL.take n h.2⟩
 |_+1,[],_::_,h=>by unfold RL at h;exact h.elim
 |_+1,_::_,[],h=>by unfold RL at h;exact h.elim
theorem Akv{t:TypeId}{tf}(htf:Ay P t=some tf){cs a}(q1:RL C N w cs a.toList)(q2:∀x∈a.toList,x.oneCell=true){off v}(h:Ff tf (cs.drop off)=some v):
  Dz P C N w (part t a off) v:=by
 obtain⟨fi,fd,g1,g2,g3,g4,_,_,g5⟩:=Ap htf;unfold Ff at h;unfold part Dz;simp only[Sem.run_bind,Fp g2,Result.andThen_ok];rw[←g5];have hd:=q1.drop off;cases ha:tf.isAgg
 ·simp only[ha]at h;simp only[bp_,if_false]
  split at h
  ·rename_i u r he
   cases h
   have:(cs.drop off)[0]? =some v:=by rw[he];rfl
   obtain⟨x,k1,k2⟩:=hd.get 0 v this
   have:a[off]? =some x:=by simpa using k1
   exact⟨x,by simp[this],k2⟩
  ·cases h
 ·simp only[ha]at h
  split at h
  ·rename_i l hl
   cases h
   refine⟨.agg (a.extract off (off+fi.size)),by simp[A9 g1],?_⟩
   obtain⟨t1,t2⟩:=Hu hl;unfold R;refine⟨_,rfl,?_,?_⟩
   ·have e:(a.extract off (off+fi.size)).toList=(a.toList.drop off).take tf.size:=by
     rw[g4];simp[gd_]
    rw[e,t1];exact hd.take _
   ·intro y hy;refine q2 y ?_
    simp at hy
    have hm:y∈(a.toList.drop off).take fi.size:=by simpa[gd_]using hy
    exact fl_ (cm_ hm)
  ·cases h
theorem Yo{t e:TypeId}{len ti te}(hti:Ay P t=some ti)(hd:ti.desc=.array len e)(hte:Ay P e=some te){x i X I}(hx:R C N w x X)(hi:R C N w i I){v}
  (h:Le te len x i σ=some (v,σ')):σ'=σ/\Dz P C N w (Instr.index t X I) v:=by
 obtain⟨_,d,_,h2,h3,_⟩:=Ap hti;obtain⟨ei,_,g1,_,_,g4,_⟩:=Ap hte
 have hu:=h2.trans (by rw[←h3,hd])
 unfold Le at h
 split at h
 ·rename_i cs k n
  cases hb:Nat.blt n len
  ·simp[hb]at h
  ·simp only[hb,cond_true]at h
   split at h
   ·rename_i u hu'
    cases h;have hlt:n<len:=al_ hb;unfold R at hx hi;subst hi;obtain⟨a,rfl,q1,q2⟩:=hx;obtain⟨z,k1,k2⟩:=Akv (P:=P) hte q1 q2 hu';refine⟨rfl,z,?_,k2⟩;unfold Instr.index;simp only[asIntOf,Sem.run_bind,Sem.run_pure,Result.andThen_ok,Aa hu]
    rw[if_pos ⟨by simp,by simpa using hlt⟩]
    rw[g4]at k1
    simp[A9 g1,k1]
   ·cases h
 ·cases h
theorem Xp:∀(l:List Nat) (i:Nat),(Iq l)[i]? =(l[i]?).map fun b=>.int .u8 (.ofNat b)
 |[],i=>by simp[Iq]
 |b::r,0=>by simp[Iq]
 |b::r,i+1=>by simp[Iq,Xp r i]
theorem P3(l):(Iq l).length=l.length:=by induction l with|nil=>rfl|cons b r ih=>simp[Iq,ih]
theorem RL.bytes(s):RL C N w (Iq (B2 s)) ((s.data.map fun b=>Value.int .u8 b.toNat).toList):=by
 refine gu_ (by rw[P3];simp[B2]) fun i x hi=>?_
 rw[Xp]at hi;unfold B2 at hi;simp only[br_,Option.map_map,cy_]at hi;obtain⟨b,h1,h2⟩:=hi
 refine⟨.int .u8 b.toNat,by simp only[c_,br_,h1];rfl,?_⟩
 rw[←h2];unfold R;rfl
theorem Sm(s:ByteArray):∀x∈(s.data.map fun b=>Value.int .u8 b.toNat).toList,x.oneCell=true:=by
 intro x hx;simp only[c_,bt_]at hx;obtain⟨b,_,rfl⟩:=hx;rfl
theorem Lw:∀(cs:List AV) (c o i:Nat) (acc:Array Value),RC C N w c cs (o+i)->
  ∃l,(∀k,(loadCellsFrom ⟨c,o,none⟩ i cs.length acc).run P { w with drawn:=k }=.ok (acc++l.toArray) { w with drawn:=k })/\RL C N w cs l/\∀x∈l,x.oneCell=true
 |[],c,o,i,acc,_=>⟨[],by simp[loadCellsFrom],by unfold RL;trivial,by simp⟩
 |x::r,c,o,i,acc,h=>by
  unfold RC at h;obtain⟨⟨v,h1,h2,h3⟩,h4⟩:=h;obtain⟨l,k1,k2,k3⟩:=Lw r c o (i+1) (acc.push v) h4
  refine⟨v::l,fun k=>?_,by unfold RL;exact⟨h3,k2⟩,by simpa[h2]using k3⟩
  have h1':World.cell? { w with drawn:=k } ⟨c,o+i,none⟩=some v:=h1;simp only[as_,loadCellsFrom,Sem.run_bind,run_load,Hb,h1',Result.andThen_ok,k1]
  simp
theorem P4{cs c o}(h:RC C N w c cs o):
  ∃a,(∀k,(loadCells ⟨c,o,none⟩ cs.length).run P { w with drawn:=k }=.ok a { w with drawn:=k })/\RL C N w cs a.toList/\∀x∈a.toList,x.oneCell=true:=by
 obtain⟨l,h1,h2,h3⟩:=Lw (P:=P) cs c o 0 #[] h
 exact⟨l.toArray,by simpa[loadCells]using h1,by simpa using h2,by simpa using h3⟩
theorem Ji(hs:Sim P C w σ){x X}(hx:R C (nx σ) w x X){sz n m}(hl:lenA x=some m)(hn:n<=m){cs}(h:F9 σ sz x n=some cs):
  (∀w',(Builtin.lenOf X).run P w'=.ok m w')/\∃a,(∀k,(Builtin.firstCells sz n X).run P { w with drawn:=k }=.ok a { w with drawn:=k })/\RL C (nx σ) w cs a.toList/\(∀y∈a.toList,y.oneCell=true)/\cs.length=n*sz:=by
 unfold F9 at h
 split at h
 ·rename_i b off sz' len cap
  simp only[lenA,af_]at hl;subst hl
  split at h
  ·rename_i vs hvs
   unfold R at hx;obtain⟨ad,k,rfl,_,hk,_,bk⟩:=hx;refine⟨fun _=>rfl,?_⟩
   have bl:=(Hu h).2
   rcases de_ n with h0|h0
   ·subst h0;rw[dw_]at h bl⊢
    simp[Dr]at h;subst h
    refine⟨#[],fun _=>by unfold Builtin.firstCells;rw[dw_];rfl,by unfold RL;trivial,by simp,rfl⟩
   ·obtain⟨c,o,cs',T,k1,k2,k3⟩:=hs.obj b _ (eu_ hvs);have e:=(bk c o k1).1 Om;obtain⟨a,r1,r2,r3⟩:=P4 (P:=P) ((k3.drop off).take _ h);refine⟨a,?_,r2,r3,bl⟩;unfold Builtin.firstCells;rw[e,←bl];exact r1
  ·cases h
 ·rename_i cs' sz' len cap
  simp only[lenA,af_]at hl;subst hl;unfold R at hx;obtain⟨ado,k,rfl,hk,_,hcl,kx,bs⟩:=hx;refine⟨fun _=>rfl,?_⟩
  have bl:=(Hu h).2
  rcases de_ n with h0|h0
  ·subst h0;rw[dw_]at h bl⊢
   simp[Dr]at h;subst h
   refine⟨#[],fun _=>by cases ado<;>(unfold Builtin.firstCells;rw[dw_];rfl),by unfold RL;trivial,by simp,rfl⟩
  ·obtain _|ad:=ado
   ·have:=kx rfl;omega
   obtain⟨hsp,bf,hrc⟩:=bs ad rfl;have e:=hsp Om;obtain⟨b,o,sp⟩:=ad;simp only at e;subst e;obtain⟨a,r1,r2,r3⟩:=P4 (P:=P) (hrc.take _ h);refine⟨a,?_,r2,r3,bl⟩;unfold Builtin.firstCells;rw[←bl];exact r1
 ·simp only[lenA,af_]at hl;subst hl
  split at h
  ·cases h;unfold R at hx;obtain⟨rfl,_⟩:=hx
   exact⟨fun _=>rfl,#[],fun _=>rfl,by unfold RL;trivial,by simp,by simp⟩
  ·cases h
 ·rename_i l
  simp only[lenA,af_]at hl;subst hl;unfold R at hx;obtain⟨s,rfl,rfl⟩:=hx
  split at h
  ·refine⟨fun _=>by unfold Builtin.lenOf;rw[Fg];rfl,?_⟩
   obtain⟨t1,t2⟩:=Hu h
   have e:((s.extract 0 n).data.map fun b=>Value.int .u8 b.toNat).toList=((s.data.map fun b=>Value.int .u8 b.toNat).toList).take n:=by
    simp[ByteArray.data_extract,List.map_take]
   refine⟨_,fun _=>rfl,by rw[e,t1];exact(RL.bytes s).take n,Sm _,by omega⟩
  ·cases h
 ·cases h
end
section
variable {P:Program}{C C':Ctx}{N N':Nat}{w w':World}{σ σ':Sto}
theorem Aar{s d ts k}(hs:P.underlying s=some ts)(hd:P.underlying d=some (.int k)){x X}(hx:R C N w x X){v}(h:Pp k x σ=some (v,σ')):
  σ'=σ/\Dz P C N w (convert s d X) v:=by
 unfold Pp at h
 split at h
 ·cases h;unfold R at hx;subst hx
  refine⟨rfl,_,?_,by rw[Nh];unfold R;rfl⟩
  unfold convert;simp only[Sem.run_bind,Aa hs,Aa hd,Result.andThen_ok,Conv.intToInt,Sem.run_pure]
 ·cases h
theorem Aas{s d ts k}(hs:P.underlying s=some ts)(hd:P.underlying d=some (.float k)){x X}(hx:R C N w x X){v}(h:Aac k x σ=some (v,σ')):
  σ'=σ/\Dz P C N w (convert s d X) v:=by
 unfold Aac at h;cases h
theorem Aat{s d ts}(hs:P.underlying s=some ts)(hd:P.underlying d=some .string){x X}(hx:R C N w x X){v}(h:T4 x σ=some (v,σ')):
  σ'=σ/\Dz P C N w (convert s d X) v:=by
 unfold T4 at h
 split at h
 ·cases h;refine⟨rfl,X,?_,hx⟩;unfold R at hx;obtain⟨b,rfl,_⟩:=hx;unfold convert;simp only[Sem.run_bind,Aa hs,Aa hd,Result.andThen_ok,Sem.run_pure]
 ·cases h
theorem S2(hs:Sim P C w σ){s d e}(hsu:P.underlying s=some (.slice e))(hd:P.underlying d=some .string)(he:P.underlying e=some (.int .u8)){x X}(hx:R C (nx σ) w x X){v}
  (h:Ny x σ=some (v,σ')):σ'=σ/\Dz P C (nx σ) w (convert s d X) v:=by
 unfold Ny at h;cases h
theorem P5(w need old e):need<=grownCap w need old e:=by
 unfold grownCap Question.cut;simp
theorem S3(hs:Sim P C w σ){s d e}(hsu:P.underlying s=some .string)(hd:P.underlying d=some (.slice e))(he:P.underlying e=some (.int .u8)){x X}(hx:R C (nx σ) w x X){v}
  (h:Kx x σ=some (v,σ')):σ'=σ/\Iv P C w σ (convert s d X) v σ':=by
 unfold Kx at h
 split at h
 ·rename_i l
  unfold R at hx;obtain⟨b,rfl,hb⟩:=hx
  have key:v=.sv (Iq l) 1 l.length none/\σ'=σ:=by
   split at h
   ·cases h;exact⟨rfl,rfl⟩
   ·cases h;exact⟨rfl,rfl⟩
  obtain⟨rfl,rfl⟩:=key;refine⟨rfl,?_⟩
  have hsz:l.length=b.size:=by rw[←hb,Fg]
  let cs:Array Value:=(b.data.map fun b=>Value.int .u8 b.toNat)++Array.replicate (grownCap w b.size 0 e-b.size) (.int .u8 0)
  let w':World:=({ w with heap:=w.heap.push (.cells cs e (0,0)),drawn:=w.drawn+1 }:World).freeze ⟨w.heap.size,cs.size,none⟩ 1
  have bq:(convert s d (.string b)).run P w=.ok (.slice (some ⟨w.heap.size,0,none⟩) b.size (grownCap w b.size 0 e)) w':=by
   unfold convert;simp only[Sem.run_bind,Aa hsu,Aa hd,Result.andThen_ok,Aa he];unfold Conv.stringToBytes
   simp[-World.alloc_eq,-World.drew_eq,Question.forced,newRow,markStringish,World.shape?,grownCap,w',cs]
  have hp:∃fz,Pu w w' (.cells cs e fz):=by
   refine⟨(cs.size,cs.size+1),by simp[w',World.freeze],?_,fun x hx=>?_,by simp[w',World.freeze]⟩
   ·simp[w',World.freeze,Array.getElem_modify]
   ·simp only[w',World.freeze]
    rw[if_neg (by decide)]
    simp only[dq_];rw[if_neg Om];rw[Array.getElem?_push_lt hx];exact(em_ hx).symm
  obtain⟨fz,p⟩:=hp;obtain⟨s1,s2⟩:=hs.push p;refine⟨_,_,w',C,bq,rfl,s1,s2,?_⟩;unfold R
  refine⟨_,_,by rw[hsz],by rw[hsz];exact P5 _ _ _ _,fun q hq=>(by cases hq),by rw[P3,fr_],fun hh=>(by cases hh),fun ad ha=>?_⟩
  cases ha;refine⟨fun _=>rfl,fun _ ho=>?_,?_⟩
  ·have:=hs.own_lt ho;simp at this
  ·refine fb_ p.here (vs:=(b.data.map fun b=>Value.int .u8 b.toNat).toList) (by rw[←hb];exact RL.bytes b) (Sm b) fun i v hi=>?_
   have hlt:=(ae_.1 hi).1;rw[bn_]
   rw[ek_ (by simpa using hlt)]
   rwa[bw_]at hi
 ·cases h
end
section
variable {P:Program}{C C':Ctx}{N N':Nat}{w w':World}{σ σ':Sto}
def Amb(P:Program)(w:World)(e:TypeId)(ei:TypeInfo)(Z:Value)(t2:TypeId)(x:Value)(n:Nat)(new:Array Value):Prop:=
 (∃d2,P.underlying t2=some d2/\(∀k,d2≠.int k)/\(∀k,(Builtin.lenOf x).run P { w with drawn:=k }=.ok n { w with drawn:=k })/\∀k,(Builtin.firstCells ei.size n x).run P { w with drawn:=k }=.ok new { w with drawn:=k })∨
 (∃k,P.underlying t2=some (.int k)/\x=.int .i64 (.ofNat n)/\n*(ei.bytes+1)<=sizeLim/\new=Builtin.zeroCells Z.cells n)
theorem Xq{d:TypeDesc}(h:∀k,d≠.int k):(match d with|.int _=>true|_=>false)=false:=by
 cases d<;>first|rfl|exact absurd rfl (h _)
theorem Lx{t t2 ty e ei Z}(ht:P.underlying t=some (.slice e))(he:P.info? e=some ei)(hz:ei.zero=some Z)(hZ:Z.cells.size=ei.size){base sLen Kj n x new}
  (hg:Amb P w e ei Z t2 x n new)(cj:sLen+n<=Kj){w'}
  (hst:∀a,base=some a->(storeCells (a.add (sLen*ei.size)) new.toList).run P w=.ok () w')(hno:base=none->w'=w):
  (Builtin.append_ #[t,t2] ty #[.slice base sLen Kj,x]).run P w=.ok (.slice base (sLen+n) Kj) w':=by
 rcases hg with⟨d2,h1,h2,h3,h4⟩|⟨k,h1,rfl,h3,rfl⟩
 ·have hl:=h3 w.drawn;have hf:=h4 w.drawn;have hm:=Xq h2;cases base with
  |none=>
   rw[hno rfl]
   simp[Builtin.append_,Aa ht,Aa h1,hm,A9 he,hl,cj,hf]
  |some a=>
   have:=hst a rfl
   simp[Builtin.append_,Aa ht,Aa h1,hm,A9 he,hl,cj,hf,this]
 ·obtain⟨h5,h6⟩:=Rf h3;have hw:=N9 h5
  have hb:¬(281474976710656<(n:Int)*(ei.bytes:Int)):=by
   have h2:=bm_.2 h6;rw[gw_]at h2
   have h7:((sizeLim:Nat):Int)<=281474976710656:=by decide
   generalize (n:Int)*(ei.bytes:Int)=q at *
   omega
  have hn0:¬((n:Int)<0):=by omega
  simp only[bu_]at hw
  by_cases h0:n*ei.size=0
  ·have hz0:Builtin.zeroCells Z.cells n=#[]:=by rw[Hd,hZ,h0];simp
   rw[hz0]at hst;cases base with
   |none=>
    rw[hno rfl]
    simp[Builtin.append_,Aa ht,Aa h1,A9 he,Cq he,asInt,asIntOf,hw,hn0,hb,cj,h0]
   |some a=>
    have:=hst a rfl
    simp[Builtin.append_,Aa ht,Aa h1,A9 he,Cq he,asInt,asIntOf,hw,hn0,hb,cj,h0,this]
  ·cases base with
   |none=>
    rw[hno rfl]
    simp[Builtin.append_,Aa ht,Aa h1,A9 he,Cq he,asInt,asIntOf,hw,hn0,hb,cj,h0,C5 he hz]
   |some a=>
    have:=hst a rfl
    simp[Builtin.append_,Aa ht,Aa h1,A9 he,Cq he,asInt,asIntOf,hw,hn0,hb,cj,h0,C5 he hz,this]
theorem Yp{t t2 ty e ei Z}(ht:P.underlying t=some (.slice e))(he:P.info? e=some ei)(hz:ei.zero=some Z)(hZ:Z.cells.size=ei.size){base sLen Kj n x old new}
  (hg:Amb P w e ei Z t2 x n new)(fc:Kj<sLen+n)(bn:(sLen+n)*(ei.bytes+1)<=sizeLim)
  (hold:∀k,(Builtin.firstCells ei.size sLen (.slice base sLen Kj)).run P { w with drawn:=k }=.ok old { w with drawn:=k }):
  ∃rest,(Builtin.append_ #[t,t2] ty #[.slice base sLen Kj,x]).run P w=.ok (.slice (some ⟨w.heap.size,0,none⟩) (sLen+n) (grownCap w (sLen+n) Kj e))
   { w with heap:=w.heap.push (.cells (old++new++rest) e),drawn:=w.drawn+1 }/\rest.size=(grownCap w (sLen+n) Kj e-(sLen+n))*ei.size:=by
 refine⟨Builtin.zeroCells Z.cells (grownCap w (sLen+n) Kj e-(sLen+n)),?_,by rw[Hd,hZ];simp⟩
 obtain⟨l1,l2⟩:=Rf bn
 have hn:¬(sLen+n<=Kj):=by omega
 have h63':¬(9223372036854775807<((sLen:Int)+(n:Int))):=by unfold sizeLim at l1;omega
 have cj:Builtin.nextslicecap (sLen+n) Kj*ei.bytes<=281474976710656:=growslice_fits fc (by unfold sizeLim at l2;omega)
 have h48':¬(281474976710656<Builtin.nextslicecap (sLen+n) Kj*ei.bytes):=by omega
 have ho:∀k,(Builtin.firstCells ei.size sLen (.slice base sLen Kj)).run P { w with drawn:=k }=.ok old { w with drawn:=k }:=hold
 rcases hg with⟨d2,h1,h2,h3,h4⟩|⟨k,h1,rfl,h3,rfl⟩
 ·have hl:=h3 w.drawn;have hf:=h4 (w.drawn+1);have ho':=ho (w.drawn+1);have hm:=Xq h2
  simp[-World.drew_eq,Builtin.append_,Aa ht,Aa h1,hm,A9 he,Cq he,hl,hn,h63',h48',Question.forced,hf,ho',newRow,grownCap,C5 he hz]
  rfl
 ·obtain⟨h5,h6⟩:=Rf h3;have hw:=N9 h5
  have hb:¬(281474976710656<(n:Int)*(ei.bytes:Int)):=by
   have h2:=bm_.2 h6;rw[gw_]at h2
   have h7:((sizeLim:Nat):Int)<=281474976710656:=by decide
   generalize (n:Int)*(ei.bytes:Int)=q at *
   omega
  have hn0:¬((n:Int)<0):=by omega
  have ho':=ho (w.drawn+1);simp only[bu_]at hw
  by_cases h0:n*ei.size=0
  ·have hz0:Builtin.zeroCells Z.cells n=#[]:=by rw[Hd,hZ,h0];simp
   rw[hz0]
   simp[-World.drew_eq,Builtin.append_,Aa ht,Aa h1,A9 he,Cq he,asInt,asIntOf,hw,hn0,hb,hn,h63',h48',Question.forced,ho',newRow,grownCap,C5 he hz,h0]
   rfl
  ·simp[-World.drew_eq,Builtin.append_,Aa ht,Aa h1,A9 he,Cq he,asInt,asIntOf,hw,hn0,hb,hn,h63',h48',Question.forced,ho',newRow,grownCap,C5 he hz,h0]
   rfl
end
section
variable {P:Program}{C C':Ctx}{N N':Nat}{w w':World}{σ σ':Sto}
theorem Oa(hs:Sim P C w σ){t t2 ty e ei Z sz bytes}(ht:P.underlying t=some (.slice e))(he:P.info? e=some ei)(hsz:sz=ei.size)(hby:bytes=ei.bytes)(hz:ei.zero=some Z)(hZ:Z.cells.size=ei.size)
  {base sLen Kj n y old new oldA newA}(hg:Amb P w e ei Z t2 y n new)
  (hold:∀k,(Builtin.firstCells ei.size sLen (.slice base sLen Kj)).run P { w with drawn:=k }=.ok old { w with drawn:=k })
  (ho:RL C (nx σ) w oldA old.toList)(ho1:∀x∈old.toList,x.oneCell=true)(hol:oldA.length=sLen*sz)
  (hn:RL C (nx σ) w newA new.toList)(hn1:∀x∈new.toList,x.oneCell=true)(hnl:newA.length=n*sz)
  (fc:Kj<sLen+n){v}(h:Ja sz bytes n newA oldA sLen σ=some (v,σ')):
  Iv P C w σ (Builtin.append_ #[t,t2] ty #[.slice base sLen Kj,y]) v σ':=by
 unfold Ja at h;cases hb:Nat.ble ((sLen+n)*(bytes+1)) sizeLim
 ·grind
 ·simp only[hb,cond_true,Ak,af_,ba_]at h;obtain⟨rfl,rfl⟩:=h
  have bn:(sLen+n)*(ei.bytes+1)<=sizeLim:=by rw[←hby];exact al_ hb
  obtain⟨rest,r1,r2⟩:=Yp (ty:=ty) ht he hz hZ hg fc bn hold;have p:=At1 w (.cells (old++new++rest) e (0,0));obtain⟨s1,s2⟩:=P2 hs p (ho.append hn) (fun x hx=>(bb_.1 hx).elim (ho1 x) (hn1 x)) gr
  refine⟨_,_,_,_,r1,rfl,s1,gr,?_⟩;rw[Ao];refine R.newSlice (bl_ _) (ec_ ..) (P5 _ _ _ _) gr ?_;rw[Fl p.here];have h1:=ho.length;have h2:=hn.length;have h3:=P5 w (sLen+n) Kj e;simp only[cd_]at h1 h2;simp only[Array.size_append,r2];rw[←h1,←h2,hol,hnl,←hsz,bn_,←ha_,←ha_]
  grind
theorem RL.nil_iff{vs}:RL C N w [] vs->vs=[]:=by
 cases vs with
 |nil=>intro;rfl
 |cons v r=>intro h;unfold RL at h;exact h.elim
abbrev gi_:=@RL.nil_iff
theorem Ado{vs old:List AV}{a b}(h:Dr b (vs.drop a)=some old):∀(i:Nat) (x:AV),old[i]? =some x->vs[a+i]? =some x:=by
 intro i x hi;rw[(Hu h).1,ea_]at hi
 grind
theorem Sn(hs:Sim P C w σ){t t2 ty e ei Z sz bytes}(ht:P.underlying t=some (.slice e))(he:P.info? e=some ei)(hsz:sz=ei.size)(hby:bytes=ei.bytes)(hz:ei.zero=some Z)(hZ:Z.cells.size=ei.size)
  {d D y n new newA}(hd:R C (nx σ) w d D)(hg:Amb P w e ei Z t2 y n new)
  (hn:RL C (nx σ) w newA new.toList)(hn1:∀x∈new.toList,x.oneCell=true)(hnl:newA.length=n*sz){v}(h:B6 σ sz bytes d n newA=some (v,σ')):
  Iv P C w σ (Builtin.append_ #[t,t2] ty #[D,y]) v σ':=by
 cases n with
 |zero=>
  have fu:new.toList=[]:=gi_ (C:=C) (N:=nx σ) (w:=w) gr
  have same:∀base len k,D=.slice base len k->len<=k->Iv P C w σ (Builtin.append_ #[t,t2] ty #[D,y]) d σ:=by
   rintro base len k rfl hk
   refine⟨_,_,w,C,Lx (ty:=ty) (w':=w) ht he hz hZ hg Om (fun a _=>by rw[fu];simp[storeCells]) (fun _=>rfl),rfl,hs,cf_ _ _ _,hd⟩
  simp only[B6]at h
  split at h
  ·cases h;unfold R at hd;grind
  ·cases h;have hd':=hd;unfold R at hd';grind
  ·cases h;have hd':=hd;unfold R at hd';grind
  ·cases h
 |succ n'=>
  simp only[B6]at h
  split at h
  ·unfold R at hd;obtain⟨rfl,_⟩:=hd
   exact Oa (old:=#[]) hs ht he hsz hby hz hZ hg (fun k=>rfl) (by unfold RL;trivial) (by simp) (by simp) hn hn1 hnl Om h
  ·rename_i cs sz' len q
   cases hb:(Nat.beq sz' sz&& !Nat.ble (len+(n'+1)) q)
   ·grind
   ·simp only[hb,cond_true]at h;simp only[ad_,bi_]at hb;have iz:=ac_ hb.1
    have hq:¬(len+(n'+1)<=q):=fun hle=>by have:=ar_ hle;grind
    have hd':=hd;unfold R at hd';obtain⟨ad,k,rfl,hk,fw,hcl,_⟩:=hd';have hkq:=fw q rfl
    have ef:F9 σ ei.size (.sv cs sz' len (some q)) len=some cs:=by
     have:Dr (len*ei.size) cs=some cs:=by
      have key:∀(l:List AV),Dr l.length l=some l:=by
       intro l;induction l with
       |nil=>rfl
       |cons x r ih=>simp[Dr,ih]
      grind
     exact this
    obtain⟨_,old,o1,o2,o3,o4⟩:=Ji (P:=P) hs hd (m:=len) rfl nl ef;exact Oa hs ht he hsz hby hz hZ hg o1 o2 o3 gr hn hn1 hnl Om h
  ·rename_i a off sz' len cap
   cases hb:Nat.beq sz' sz
   ·grind
   ·simp only[hb,cond_true]at h;have iz:=ac_ hb
    split at h
    ·cases h
    ·rename_i vs hvs
     split at h
     ·cases h
     ·rename_i oldA hold
      have hgo:=eu_ hvs;have hd':=hd;unfold R at hd';obtain⟨ad,k,rfl,han,hk,fw,bk⟩:=hd'
      have ef:F9 σ ei.size (.sr a off sz' len cap) len=some oldA:=by
       simp only[F9,hvs,←hsz];grind
      obtain⟨_,old,o1,o2,o3,o4⟩:=Ji (P:=P) hs hd (m:=len) rfl nl ef;rw[←hsz]at o4;obtain⟨c,o,cs,T,l1,l2,l3⟩:=hs.obj a _ hgo;obtain⟨had,e9⟩:=bk c o l1
      split at h
      ·rename_i q
       have hkq:=fw q rfl;subst hkq
       split at h
       ·rename_i cj
        have cj:=al_ cj
        split at h
        ·rename_i vs' cd
         simp only[Ak,af_,ba_]at h;obtain⟨rfl,rfl⟩:=h;obtain⟨c',o',w',r1,r2,r3,r4⟩:=S1 hs hgo cd hn hn1;rw[l1]at r1;cases r1;have e:=had Om;refine⟨_,_,w',C,Lx (ty:=ty) ht he hz hZ hg cj (fun b hb'=>?_) gr,rfl,r3,gr,?_⟩
         ·cases hb';rw[e,Hb,←hsz];grind
         ·rw[Aq];unfold R;refine⟨ad,k,rfl,han,cj,gr,fun c' o' hc'=>?_⟩
          rw[l1]at hc';cases hc'
          exact⟨fun _=>e,by rw[←iz,r4.bsz a han c o l1];grind⟩
        grind
       ·rename_i cj
        have hq:¬(len+(n'+1)<=k):=fun hle=>by have:=ar_ hle;grind
        exact Oa hs ht he hsz hby hz hZ hg o1 o2 o3 o4 hn hn1 hnl Om h
      ·by_cases cj:len+(n'+1)<=k
       ·
        unfold Ja at h;cases hb2:Nat.ble ((len+(n'+1))*(bytes+1)) sizeLim
        ·grind
        ·simp only[hb2,cond_true,Ak,af_,ba_]at h;obtain⟨rfl,rfl⟩:=h;have e:=had Om;have kz:=hn.length;simp only[cd_]at kz;have hcs:csize w c=cs.size:=Fl l2;rw[hcs]at e9;have hm1:(len+(n'+1))*sz<=k*sz:=el_ _ cj;rw[ha_]at hm1;have eg:o+(off+len*sz)+0+new.toList.length<=cs.size:=gr;obtain⟨w',r1,r2⟩:=Lq (P:=P) new.toList w c (o+(off+len*sz)) 0 cs T l2 hn1 eg;rw[fd_]at r2 eg
         have hcs':csize w' c=cs.size:=by rw[Fl r2.here,Nf]
         obtain⟨s1,s2⟩:=hs.replace l1 r2 hgo (.cells (oldA++newA)) rfl (o':=o+off) (fun ex=>by
          refine⟨c,o+off,_,T,by simp[Ctx.add],r2.here,?_⟩
          rw[Ao,B3];refine gv_ fun i x hi=>?_
          rw[Jh r2.here,Pw _ _ _ eg]
          by_cases hlt:i<oldA.length
          ·rw[cg_ hlt]at hi;rw[if_neg Om];obtain⟨u,q1,q2,q3⟩:=l3.get _ x (Ado hold i x hi);rw[Jh l2]at q1;exact⟨u,gr,q2,R.ext ex _ _ q3⟩
          ·rw[do_ Om]at hi;have bv:=(ae_.1 hi).1;rw[if_pos gr];obtain⟨u,q1,q2⟩:=hn.get _ x hi;exact⟨u,gr,hn1 u (ab_ q1),R.ext ex _ _ q2⟩)
         have o9:nx ((σ.kill a).new (.cells (oldA++newA)))=nx σ+1:=gr;refine⟨_,_,w',_,Lx (ty:=ty) ht he hz hZ hg cj (fun b hb'=>?_) gr,rfl,s1,gr,?_⟩
         ·cases hb';rw[e,Hb,←hsz,Nat.add_assoc];exact r1
         ·rw[o9,B3];unfold R
          refine⟨ad,k,rfl,bl_ _,cj,fun q hq=>(by cases hq),fun c' o' hc'=>?_⟩
          simp only[Ctx.add,if_true]at hc'
          grind
       ·obtain⟨k1,k2⟩:=hs.kill a;have hnk:nx (σ.kill a)=nx σ:=B3 σ a
        obtain⟨yy,xx,w',C2,g1,g2,g3,g4,g5⟩:=Oa (σ:=σ.kill a) (σ':=σ') k1 ht he hsz hby hz hZ hg o1 (by rw[hnk];exact o2.ext k2) o3 o4 (by rw[hnk];exact hn.ext k2) hn1 hnl Om h
        exact⟨yy,xx,w',C2,g1,g2,g3,k2.trans gr,g5⟩
  ·cases h
theorem Aef{e:TypeId}{te}(hte:Ay P e=some te){z}(hz:te.zero=some z)(hzl:z.length=te.size):
  ∃ei Z,P.info? e=some ei/\te.size=ei.size/\te.bytes=ei.bytes/\ei.zero=some Z/\Z.cells.size=ei.size/\(∀x∈Z.cells.toList,x.oneCell=true)/\∀(C:Ctx) (N:Nat) (w:World),RL C N w z Z.cells.toList:=by
 obtain⟨ei,ed,e1,e2,e3,e4,e5,e6,e7⟩:=Ap hte;rw[e6]at hz;obtain⟨Z,q1,q2,q3,_,_⟩:=Fq (C:=⟨fun _=>none,fun _=>0,fun _=>False,fun _=>none⟩) (w:=default) (N:=0) hz
 refine⟨ei,Z,e1,e4,e5,q1,?_,q3,fun C N w=>?_⟩
 ·have:=q2.length;grind
 ·obtain⟨Z',q1',q2',_⟩:=Fq (C:=C) (w:=w) (N:=N) hz
  grind
theorem So(hs:Sim P C w σ){t t2 ty e d2 te}(ht:P.underlying t=some (.slice e))(hte:Ay P e=some te){z}(hz:te.zero=some z)(hzl:z.length=te.size)
  (h2:P.underlying t2=some d2)(hd2:∀k,d2≠.int k){d s D S}(hd:R C (nx σ) w d D)(hS:R C (nx σ) w s S){v}(h:T7 te.size te.bytes d s σ=some (v,σ')):
  Iv P C w σ (Builtin.append_ #[t,t2] ty #[D,S]) v σ':=by
 obtain⟨ei,Z,e1,e2,e3,e4,e5,e6,e7⟩:=Aef hte hz hzl;unfold T7 at h
 split at h
 ·rename_i n hn
  split at h
  ·rename_i new fu
   obtain⟨f1,a,f2,f3,f4,f5⟩:=Ji (P:=P) hs hS hn nl fu;exact Sn hs ht e1 e2 e3 e4 e5 hd (.inl ⟨d2,h2,hd2,fun k=>f1 _,gr⟩) f3 f4 f5 h
  grind
 grind
theorem Aau(hs:Sim P C w σ){t t2 ty e k te}(ht:P.underlying t=some (.slice e))(hte:Ay P e=some te){z}(hz:te.zero=some z)(hzl:z.length=te.size)
  (h2:P.underlying t2=some (.int k)){d s D S}(hd:R C (nx σ) w d D)(hS:R C (nx σ) w s S){v}(h:T8 z te.size te.bytes d s σ=some (v,σ')):
  Iv P C w σ (Builtin.append_ #[t,t2] ty #[D,S]) v σ':=by
 obtain⟨ei,Z,e1,e2,e3,e4,e5,e6,e7⟩:=Aef hte hz hzl;unfold T8 at h
 split at h
 ·rename_i n
  cases hb:Nat.ble (n*(te.bytes+1)) sizeLim
  ·grind
  ·simp only[hb,cond_true]at h;unfold R at hS;subst hS
   refine Sn hs ht e1 e2 e3 e4 e5 hd (.inr ⟨k,h2,rfl,by rw[←e3];exact al_ hb,rfl⟩) ?_ ?_ ?_ h
   ·rw[Hd];exact(e7 C _ w).rep n
   ·rw[Hd];exact Mj e6 n
   ·rw[N7,hzl]
 grind
theorem Ah3(hs:Sim P C w σ){t t2 ty e te}(ht:P.underlying t=some (.slice e))(hte:Ay P e=some te){d s D S}(hd:R C (nx σ) w d D)(hS:R C (nx σ) w s S){v}
  (h:Aqk te.size d s σ=some (v,σ')):Iv P C w σ (Builtin.copy_ #[t,t2] ty #[D,S]) v σ':=by
 unfold Aqk at h;cases h
end
section
variable {P:Program}{C C':Ctx}{N N':Nat}{w w':World}{σ σ':Sto}
theorem Aqp{d v}(h:KS d v):∃k,KV k v:=by
 unfold KS at h
 split at h
 ·obtain⟨n,rfl⟩:=h;exact⟨.int _ n,by unfold KV;rfl⟩
 ·obtain⟨s,rfl⟩:=h;exact⟨.str (B2 s),by unfold KV;exact⟨s,rfl,rfl⟩⟩
 ·obtain⟨b,rfl⟩:=h;exact⟨.bool b,by unfold KV;rfl⟩
 ·exact h.elim
theorem Amc:∀{fs:List Field} {vs:List Value},KFs P fs vs->∃ks,KVs ks vs
 |[],[],_=>⟨[],by unfold KVs;trivial⟩
 |f::fs,v::vs,h=>by
  unfold KFs at h;obtain⟨⟨i,d,_,_,_,_,hk,_⟩,h2⟩:=h;obtain⟨k,hk⟩:=Aqp hk;obtain⟨ks,hks⟩:=Amc h2
  exact⟨k::ks,by unfold KVs;exact⟨hk,hks⟩⟩
 |[],_::_,h=>by unfold KFs at h;exact h.elim
 |_::_,[],h=>by unfold KFs at h;exact h.elim
theorem Av1{kt:TypeId}{v}(h:KT P kt v):∃k,KV k v:=by
 rcases h with⟨d,_,h⟩|⟨fs,a,_,rfl,h,_⟩|⟨_,_,a,d,_,_,rfl,_,_,_,_,_,_,h⟩
 ·exact Aqp h
 ·obtain⟨ks,hk⟩:=Amc h
  exact⟨.agg ks,by unfold KV;exact⟨a,rfl,hk⟩⟩
 ·have key:∀l:List Value,(∀x∈l,KS d x)->∃ks,KVs ks l:=by
   intro l
   induction l with
   |nil=>intro _;exact⟨[],by unfold KVs;trivial⟩
   |cons x l ih=>
    intro hl
    obtain⟨k,hk⟩:=Aqp (hl x (by simp))
    obtain⟨ks,hks⟩:=ih fun y hy=>hl y (by simp[hy])
    exact⟨k::ks,by unfold KVs;exact⟨hk,hks⟩⟩
  obtain⟨ks,hk⟩:=key a.toList h
  exact⟨.agg ks,by unfold KV;exact⟨a,rfl,hk⟩⟩
theorem Aav{d v}(h:KS d v):v.oneCell=true:=by
 unfold KS at h
 split at h
 ·obtain⟨n,rfl⟩:=h;rfl
 ·obtain⟨s,rfl⟩:=h;rfl
 ·obtain⟨b,rfl⟩:=h;rfl
 ·exact h.elim
theorem Xr:∀{fs:List Field} {vs:List Value},KFs P fs vs->∀x∈vs,x.oneCell=true
 |[],[],_,x,hx=>by simp at hx
 |f::fs,v::vs,h,x,hx=>by
  unfold KFs at h
  rcases an_.1 hx with rfl|hx
  ·obtain⟨⟨i,d,_,_,_,_,hk,_⟩,_⟩:=h;exact Aav hk
  ·exact Xr h.2 x hx
 |[],_::_,h,_,_=>by unfold KFs at h;exact h.elim
 |_::_,[],h,_,_=>by unfold KFs at h;exact h.elim
theorem Aqq:∀{ks:List Key} {vs:List Value},KVs ks vs->
  RL C N w (ks.map fun|.bool b=>.bool b|.int k n=>.int k n|.str l=>.str l|.agg _=>.any) vs
 |[],[],_=>by simp only[gs_];unfold RL;trivial
 |k::ks,v::vs,h=>by
  unfold KVs at h;simp only[cn_];unfold RL;refine⟨?_,Aqq h.2⟩;have h1:=h.1;cases k<;>unfold KV at h1<;>unfold R
  ·exact h1
  ·exact h1
  ·exact h1
  ·trivial
 |[],_::_,h=>by unfold KVs at h;exact h.elim
 |_::_,[],h=>by unfold KVs at h;exact h.elim
theorem KV_R{kt:TypeId}{k v}(h:KV k v)(t:KT P kt v):R C N w (T2 k) v:=by
 cases k with
 |bool b=>unfold KV at h;unfold T2 R;exact h
 |int j n=>unfold KV at h;unfold T2 R;exact h
 |str l=>unfold KV at h;unfold T2 R;exact h
 |agg cs=>
  unfold KV at h;obtain⟨a,rfl,h⟩:=h;unfold T2 R;refine⟨a,rfl,Aqq h,?_⟩
  rcases t with⟨d,_,t⟩|⟨fs,b,_,e,t,_⟩|⟨_,_,b,_,_,_,e,_,_,_,_,_,_,t⟩
  ·unfold KS at t
   split at t
   ·obtain⟨_,t⟩:=t;cases t
   ·obtain⟨_,t⟩:=t;cases t
   ·obtain⟨_,t⟩:=t;cases t
   ·exact t.elim
  ·cases e;exact Xr t
  ·cases e;exact fun x hx=>Aav (t x hx)
theorem Agf{d v v'}(h:KS d v)(h':KS d v'):∃b,Instr.sameNow d v v'=some b/\(b=true↔v=v'):=by
 unfold KS at h h'
 split at h
 ·obtain⟨n,rfl⟩:=h;obtain⟨n',rfl⟩:=h'
  exact⟨n==n',by simp[Instr.sameNow],by simp⟩
 ·obtain⟨n,rfl⟩:=h;obtain⟨n',rfl⟩:=h'
  exact⟨n==n',by simp[Instr.sameNow],by rw[Go.MapKept.bytes_beq];simp⟩
 ·obtain⟨n,rfl⟩:=h;obtain⟨n',rfl⟩:=h'
  exact⟨n==n',by simp[Instr.sameNow],by simp⟩
 ·exact h.elim
def Aeg(v:Value)(es:List MapEntry)(i:Nat):Option (Nat×Value)->Prop
 |some (j,x)=>∃e,i<=j/\es[j-i]? =some e/\e.key=v/\e.val=x
 |none=>∀e∈es,e.key≠v
theorem Aeg.cons{v e es i r}(h:Aeg v es (i+1) r)(hne:e.key≠v):Aeg v (e::es) i r:=by
 cases r with
 |none=>
  intro f hf
  rcases an_.1 hf with rfl|hf
  ·exact hne
  ·exact h f hf
 |some p=>
  obtain⟨f,h1,h2,h3,h4⟩:=h
  refine⟨f,by omega,?_,h3,h4⟩
  rw[show p.1-i=(p.1-(i+1))+1 by omega];exact h2
theorem Uh{d v}(h:KS d v):∀{es:List MapEntry},(∀e∈es,KS d e.key)->∀i,∃r,Instr.findNow d v es i=some r/\Aeg v es i r
 |[],_,i=>⟨none,rfl,fun e he=>by simp at he⟩
 |e::es,he,i=>by
  obtain⟨b,h1,h2⟩:=Agf h (he e (by simp))
  cases b with
  |true=>exact⟨some (i,e.val),by simp only[Instr.findNow,h1],e,nl,by simp,(h2.1 rfl).symm,rfl⟩
  |false=>
   obtain⟨r,k1,k2⟩:=Uh h (fun f hf=>he f (aj_ _ hf)) (i+1)
   exact⟨r,by simp only[Instr.findNow,h1,k1],k2.cons fun hh=>by have:=h2.2 hh.symm;cases this⟩
theorem O9{kt:TypeId}{v}(h:KT P kt v):∀{es:List MapEntry},(∀e∈es,KT P kt e.key)->∀i,∃r,(Instr.findAsking kt v es i).run P w=.ok r w/\Aeg v es i r
 |[],_,i=>⟨none,rfl,fun e he=>by simp at he⟩
 |e::es,he,i=>by
  obtain⟨k,hk⟩:=Av1 h
  obtain⟨k',hk'⟩:=Av1 (he e (by simp))
  obtain⟨h1,h2⟩:=Al9 (w:=w) hk hk' h (he e (by simp))
  have h3:(Op.equal kt v e.key).run P w=.ok (Key.eq k k') w:=h2 9998;cases hb:Key.eq k k' with
  |true=>
   refine⟨some (i,e.val),by simp[Instr.findAsking,h3,hb],e,nl,by simp,(h1.1 hb).symm,rfl⟩
  |false=>
   obtain⟨r,k1,k2⟩:=O9 h (fun f hf=>he f (aj_ _ hf)) (i+1)
   exact⟨r,by simp[Instr.findAsking,h3,hb,k1],k2.cons fun hh=>by have:=h1.2 hh.symm;rw[hb]at this;cases this⟩
theorem Ob{kt:TypeId}{v}(h:KT P kt v){es}(he:∀e∈es,KT P kt e.key):∃r,(Instr.findKey kt v es).run P w=.ok r w/\Aeg v es 0 r:=by
 obtain⟨r,k1,k2⟩:=O9 (w:=w) h he 0
 rcases h with⟨d,ht,h⟩|⟨fs,a,ht,rfl,h⟩|⟨n,e,a,d,_,ht,rfl,h⟩
 ·have he':∀e∈es,KS d e.key:=fun e hm=>by
   rcases he e hm with⟨d',ht',h'⟩|⟨fs,b,ht',_,_⟩|⟨_,_,_,_,_,ht',_⟩
   ·rw[ht]at ht';cases ht';exact h'
   ·rw[ht]at ht';cases ht';unfold KS at h;exact h.elim
   ·rw[ht]at ht';cases ht';unfold KS at h;exact h.elim
  obtain⟨r,h1,h2⟩:=Uh h he' 0
  exact⟨r,by simp[Instr.findKey,Aa ht,h1],h2⟩
 ·cases es with
  |nil=>exact⟨none,by simp[Instr.findKey,Aa ht,Instr.findNow],fun e hm=>by simp at hm⟩
  |cons e es=>
   have:Instr.findNow (.struct fs) (.agg a) (e::es) 0=none:=by simp[Instr.findNow,Instr.sameNow]
   exact⟨r,by simp[Instr.findKey,Aa ht,this,k1],k2⟩
 ·cases es with
  |nil=>exact⟨none,by simp[Instr.findKey,Aa ht,Instr.findNow],fun e hm=>by simp at hm⟩
  |cons x es=>
   have:Instr.findNow (.array n e) (.agg a) (x::es) 0=none:=by simp[Instr.findNow,Instr.sameNow]
   exact⟨r,by simp[Instr.findKey,Aa ht,this,k1],k2⟩
end
end Go.AM
