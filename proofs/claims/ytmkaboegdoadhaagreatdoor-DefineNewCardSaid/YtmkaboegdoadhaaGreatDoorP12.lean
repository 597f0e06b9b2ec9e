/- A part of the proof; shortened by program. -/
import Derived.Test.YtmkaboegdoadhaaGreatDoorP11
set_option maxRecDepth 100000
set_option maxHeartbeats 4000000
set_option linter.unusedSimpArgs false
set_option linter.unusedVariables false
namespace Go.AM
open Go
section
variable {E:Env}{nt B b:Nat}{Q Q':Cc}{ρ ρ':Ad}{σ:Sto}
theorem Ari{df0 C w tm a}{Bs k:Nat}{f ps assign body cap kfn}{Post:Sto->Prop}(hi:Gl b Bs C (nx σ) w)(ht:Has tm ρ)(st:SSt E C w ⟨tm,nt,df0,σ⟩ a)
  (hf:Ah E ρ f=some (.fn (.func k) [] cap))(f6:E.P.funcs[k]? =some kfn)(dz:(kfn.name== "runtime.NumGoroutine")=false)(ce:kfn.body.isNone=false)
  (hit:∀tm,Has tm ρ->Ql E ⟨nx σ+1,tm,nt,ps,assign,body⟩ k (.yl (nx σ+1)::cap) (σ.bump.new (.loop .ready)) (fun σ'=>σ'.get (nx σ+1)=some (.loop .ready)/\Post σ')):
  (Code.rangeFunc f ps assign body).wp E.P (fun e a' w'=>e=.normal/\∃σ' C' aD,Post σ'/\SSt E C' w' ⟨tm,nt,(Ks,[.yl aD,.yl b])::df0,σ'.kill (nx σ+1)⟩ a'/\Ext C (nx σ) w C' (nx (σ'.kill (nx σ+1))) w') a w:=by
 have hV:=Be st.glob st.tmps f;rw[ht.opd hf]at hV;unfold R at hV;obtain⟨p0,lb,hV,hp0,hlb⟩:=hV
 have jk:p0=#[]:=by
  have:=hp0.length
  grind
 subst jk;refine(wpIn_wide (n:=1)).1 (wpIn_rangeFunc fun fn _=>?_)
 obtain⟨rc,hrc⟩:∃rc:Loop,rc={ state:=.ready,pending:=none,fn,tmps:=a.tmps,params:=ps,assign,body,defers:=w.heap.size }:=⟨_,rfl⟩
 have jm:C9 rc .ready=rc:=by rw[hrc];rfl
 obtain⟨W0,hW0⟩:∃W0,w.alloc (.deferred (some []))=W0:=⟨_,rfl⟩;obtain⟨W1,hW1⟩:∃W1,W0.alloc (.loop rc)=W1:=⟨_,rfl⟩
 have hp1:Pu w W0 (.deferred (some [])):=by rw[←hW0];exact fa_ rfl ⟨rfl,rfl⟩
 have hp2:Pu W0 W1 (.loop rc):=by rw[←hW1];exact fa_ rfl ⟨rfl,rfl⟩
 have f7:=hp1.size;have jp:=hp2.size;obtain⟨s1,e1⟩:=st.sim.push hp1;obtain⟨s2,e2⟩:=s1.bump (w.heap.size:Int);obtain⟨s3,e3⟩:=s2.newLoop jm hp2;rw[←Bm]at e2;have hnx:nx (σ.bump.new (.loop .ready))=nx σ+1+1:=gr;have e5:=(e1.trans e2).trans e3;rw[←Ao σ.bump (.loop .ready)]at e5
 generalize hC4:(((C.addStm (nx σ) (w.heap.size:Int)).setLoop (nx σ.bump) (W0.heap.size:Int) rc).add (nx σ.bump) W0.heap.size 0)=C4 at s3 e5
 have f8:C4.stm (nx σ)=(w.heap.size:Int):=by rw[←hC4];simp[Ctx.add,Ctx.setLoop,Ctx.addStm,Bm]
 have ml:C4.stm (nx σ+1)=((w.heap.size+1:Nat):Int):=by rw[←hC4];simp[Ctx.add,Ctx.setLoop,Bm,f7]
 have gb:C4.lr (nx σ+1)=some rc:=by rw[←hC4];simp[Ctx.add,Ctx.setLoop,Bm]
 have gc:C4.loc (nx σ+1)=some (w.heap.size+1,0):=by rw[←hC4];simp[Ctx.add,Bm,f7]
 have hnD:¬C4.own w.heap.size:=fun hh=>by
  rcases hh with hh|⟨x,o,hh⟩
  ·have hh':C.res w.heap.size:=by rw[←e5.res.1];exact hh
   have:=st.sim.rlt _ hh';omega
  ·by_cases hx:x=nx σ+1
   ·grind
   ·have:x<nx σ:=by
     obtain⟨O,hO,_⟩:=s3.dom x _ hh;have hb:=s3.bound x O hO;rw[hnx]at hb
     by_cases hx2:x=nx σ
     ·subst hx2;rw[ag_,Bm,if_neg Om,Fh]at hO;have:=st.sim.bound _ _ hO;omega
     ·omega
    have:=st.sim.lt x _ _ (e5.loc x this _ hh);omega
 have ez:W1.heap[w.heap.size]? =some (.deferred (some [])):=by rw[hp2.other _ Om];exact hp1.here
 have hli:Gk ⟨nx σ+1,tm,nt,ps,assign,body⟩ C4 (nx (σ.bump.new (.loop .ready))) W1:=by
  refine⟨gr,fun c o hc=>?_,rc,gb,?_,?_,?_,?_,?_⟩
  ·grind
  ·have:TR C (nx σ) w tm rc.tmps:=by rw[hrc];exact st.tmps
   exact this.ext e5
  ·rw[hrc];exact st.size
  ·rw[hrc]
  ·rw[hrc]
  grind
 have bp:RL C4 (nx (σ.bump.new (.loop .ready))) W1 (.yl (nx σ+1)::cap) (#[Value.func (.yield (w.heap.size+1)) #[] #[]]++lb).toList:=by
  simp only[cv_,ay_,bd_];unfold RL;refine⟨?_,RL.ext e5 _ _ hlb⟩;unfold R
  grind
 have b8:=hit tm ht C4 W1 _ hli s3 (st.glob.ext e5) bp
 have en:∀args w,(callFunc k args).run E.P w=.ok (.enter k args) w:=fun args w=>by
  have g2':kfn.name≠ "runtime.NumGoroutine" :=gr;have g3':kfn.body≠none:=gr
  simp[callFunc,f6,g2',g3']
 refine⟨w.heap.size+1,[{ target:=.collected w.heap.size,args:=#[] }],W1,{ target:=.fn (.func k) lb,args:=#[.func (.yield (w.heap.size+1)) #[] #[]] },W1,k,
  #[.func (.yield (w.heap.size+1)) #[] #[]]++lb,W1,?_,?_,fun _ _=>trivial,?_,fun hh=>(by cases hh),?_⟩
 ·rw[←hW1,←hW0,hrc];exact run_enterLoop_outer _ _ _ _ _
 ·simp only[resolve,hV]
  simp[go_sem]
 ·simp[invoke,go_sem,en]
 ·refine(callsIn_wide).2 (b8.mono fun e w₃ he=>?_)
  cases e with
  |returned x=>
   obtain⟨σ',C₃,⟨hgl,bh⟩,k1,k2⟩:=he;have co:=(k2.stm (nx σ) gr).trans f8;have jq:=(k2.lr (nx σ+1) gr).trans gb;obtain⟨hn4,hk4⟩:=k2.keep w.heap.size Om hnD;have hd3:=hk4.trans ez;obtain⟨c,r,g1,g2,g3⟩:=k1.obj _ _ hgl;rw[jq]at g2;cases g2;have hcl:=k2.loc _ gr _ g1;rw[gc]at hcl;cases hcl;obtain⟨m1,m2⟩:=k1.kill (nx σ+1)
   have hnL:¬(C₃.del (nx σ+1)).own (w.heap.size+1):=fun hh=>by
    rcases hh with hh|⟨x,o,hh⟩
    ·exact k1.rdis _ _ _ g1 hh
    ·by_cases hx:x=nx σ+1
     ·simp[Ctx.del,hx]at hh
     ·simp[Ctx.del,hx]at hh
      exact hx (k1.inj _ _ _ _ _ hh g1)
   have py:¬(C₃.del (nx σ+1)).own w.heap.size:=fun hh=>hn4 (by
    rcases hh with hh|⟨x,o,hh⟩
    ·exact .inl hh
    ·by_cases hx:x=nx σ+1
     ·simp[Ctx.del,hx]at hh
     ·simp[Ctx.del,hx]at hh;exact .inr ⟨x,o,hh⟩)
   have t:Jb w₃ (w₃.putObj (w.heap.size+1) (.loop { C9 rc .ready with state:=.exhausted })) (w.heap.size+1):=gy_ g3 rfl rfl;have e6:=((e5.trans k2).trans m2).turnNew t hnL Om;rw[←B3 σ' (nx σ+1)]at e6
   have jv:SSt E (C₃.del (nx σ+1)) (w₃.putObj (w.heap.size+1) (.loop { C9 rc .ready with state:=.exhausted })) ⟨tm,nt,(Ks,[.yl (nx σ),.yl b])::df0,σ'.kill (nx σ+1)⟩ { a with defers:=[{ target:=.collected w.heap.size,args:=#[] }]++a.defers }:=by
    refine⟨m1.turn t hnL,st.glob.ext e6,st.tmps.ext e6,st.size,?_⟩
    show DR _ _ _ _ ({ target:=Target.collected w.heap.size,args:=#[] }::a.defers)
    unfold DR;refine⟨.inr ⟨rfl,nx σ,b,rfl,⟨?_,?_,?_⟩,?_,?_,?_,?_⟩,st.dfs.ext e6⟩
    ·show nx σ<nx (σ'.kill _);rw[B3];have:=k2.next;grind
    ·show b<nx (σ'.kill _);rw[B3];have:=k2.next;rw[hnx]at this;have:=hi.1;omega
    ·show(C₃.stm b).toNat<=(C₃.stm (nx σ)).toNat
     have hb6:=e6.stm b hi.1;have hb6:C₃.stm b=C.stm b:=hb6;rw[co,hb6,hi.2.1];exact hi.2.2
    ·show _=({ target:=.collected (C₃.stm (nx σ)).toNat,args:=#[] }:Deferred);grind
    ·show ¬(C₃.del _).own (C₃.stm (nx σ)).toNat;grind
    ·show(w₃.putObj _ _).heap[(C₃.stm (nx σ)).toNat]? =_
     rw[co];exact(t.other w.heap.size Om).trans hd3
    ·intro y hy hk c d hcd;obtain⟨z1,z2⟩:=MB.of_DR st.dfs y hy hk c d hcd;refine⟨ak_ z1 e6.next,?_⟩
     show(C₃.stm c).toNat<(C₃.stm (nx σ)).toNat
     have hb6:C₃.stm c=C.stm c:=e6.stm c z1
     grind
   have da:=run_endLoop (P:=E.P) g3 gr;exact⟨none,_,da,⟨rfl,σ',_,nx σ,bh,jv,e6⟩⟩
  |panicked _=>exact he.elim
  |outgrown=>exact he.elim
def Amx(E:Env)(nt b:Nat)(B:Nat)(Q:Cc)(C:Ctx)(w:World):Exit->Act->World->Prop:=fun e a' w'=>
 ∃x tm' ρ' σ' C' df,Jj x=e/\Has tm' ρ'/\Q x ρ' σ'/\SSt E C' w' ⟨tm',nt,df,σ'⟩ a'/\(df=[]∨∃aD,df=[(Ks,[.yl aD,.yl b])])/\B<=nx σ'/\Ext C B w C' B w'
theorem Amx.from{C C₀ w w₀ e a w'}(h:Amx E nt b B Q C w e a w')(hx:Ext C₀ B w₀ C B w):Amx E nt b B Q C₀ w₀ e a w':=by
 obtain⟨x,tm',ρ',σ',C',df,h1,h2,h3,h4,h5,hB,h6⟩:=h;exact⟨x,tm',ρ',σ',C',df,h1,h2,h3,h4,h5,hB,hx.trans h6⟩
def TM(E:Env)(nt b B:Nat)(c:Code)(Q:Cc)(ρ:Ad)(σ:Sto):Prop:=
 ∀(Bs:Nat) (C:Ctx) (w:World) (tm:Tr AV) (a:Act),Gl b Bs C B w->Has tm ρ->SSt E C w ⟨tm,nt,[],σ⟩ a->B<=nx σ->c.wp E.P (Amx E nt b B Q C w) a w
theorem Ald{x y}(h:T E nt [] B x (Pa (TM E nt b B y Q) Q) ρ σ):TM E nt b B (.seq x y) Q ρ σ:=by
 intro Bs C w tm a hi ht st hB;refine wp_seq (wp_mono (h.wp C w tm a ht st hB) fun e a' w' he=>?_)
 obtain⟨x',tm',ρ',σ',C',h1,h2,h3,h4,hB',h5⟩:=he;subst h1;cases x' with
 |normal=>exact wp_mono (h3 Bs C' w' tm' a' (hi.ext h5) h2 h4 hB') fun e a'' w'' he=>he.from h5
 |exit id=>exact⟨.exit id,tm',ρ',σ',C',[],rfl,h2,h3,h4,.inl rfl,hB',h5⟩
 |ret=>exact⟨.ret,tm',ρ',σ',C',[],rfl,h2,h3,h4,.inl rfl,hB',h5⟩
def Aum(E:Env)(nt b B:Nat)(f:Operand)(ps:Array Tmp)(assign body y:Code)(Q:Cc)(ρ:Ad)(σ:Sto):Prop:=
 ∃(k:Nat) (cap:List AV) (kfn:Func) (Post:Sto->Prop), Ah E ρ f=some (.fn (.func k) [] cap)/\E.P.funcs[k]? =some kfn/\(kfn.name== "runtime.NumGoroutine")=false/\kfn.body.isNone=false/\
  (∀tm,Has tm ρ->Ql E ⟨nx σ+1,tm,nt,ps,assign,body⟩ k (.yl (nx σ+1)::cap) (σ.bump.new (.loop .ready)) (fun σ'=>σ'.get (nx σ+1)=some (.loop .ready)/\Post σ'))/\
  ∀σ' aD,Post σ'->nx σ<=nx σ'->T E nt [(Ks,[.yl aD,.yl b])] B y Q ρ (σ'.kill (nx σ+1))
theorem Apa{id f ps assign body x y}(h:T E nt [] B x (Pa (Aum E nt b B f ps assign body y Q) Q) ρ σ):TM E nt b B (.seq (.seq x (.block id (.rangeFunc f ps assign body))) y) Q ρ σ:=by
 intro Bs C w tm a hi ht st hB;refine wp_seq (wp_seq (wp_mono (h.wp C w tm a ht st hB) fun e a' w' he=>?_))
 obtain⟨x',tm',ρ',σ',C',h1,h2,h3,h4,hB',h5⟩:=he;subst h1;cases x' with
 |exit id=>exact⟨.exit id,tm',ρ',σ',C',[],rfl,h2,h3,h4,.inl rfl,hB',h5⟩
 |ret=>exact⟨.ret,tm',ρ',σ',C',[],rfl,h2,h3,h4,.inl rfl,hB',h5⟩
 |normal=>
  obtain⟨k,cap,kfn,Post,hf,f6,dz,ce,hit,hy⟩:=h3;have hi':Gl b Bs C' (nx σ') w':=(hi.ext h5).ext ((cf_ C' B w').top hB');refine wp_block (wp_mono (Ari hi' h2 h4 hf f6 dz ce hit) fun e a₂ w₂ he=>?_)
  obtain⟨rfl,σ₂,C₂,aD,hp,st',e'⟩:=he;have hn:nx σ'<=nx (σ₂.kill (nx σ'+1)):=e'.next;have hB₂:B<=nx (σ₂.kill (nx σ'+1)):=ai_ hB' hn;refine wp_mono ((hy σ₂ aD hp gr).wp C₂ w₂ tm' a₂ h2 st' hB₂) fun e a'' w'' he=>?_
  obtain⟨x,tm₃,ρ₃,σ₃,C₃,g1,g2,g3,g4,gB,g5⟩:=he;exact⟨x,tm₃,ρ₃,σ₃,C₃,_,g1,g2,g3,g4,.inr ⟨aD,rfl⟩,gB,h5.trans ((e'.base hB').trans g5)⟩
theorem callM{f fn c args Post}(hfn:E.P.funcs[f]? =some fn)(dz:(fn.name== "runtime.NumGoroutine")=false)(hc:fn.body=some c)(hle:Nat.ble args.length fn.ntmps=true)
  (h:WFS σ->AV.unds (nx σ) args=true->TM E fn.ntmps (nx σ) (nx σ+1) c (Aox (Agw E fn (nx σ) Post)) (Hg args 0) σ.bump):Al E f args σ Post:=by
 intro C w vs hs hg bp;refine⟨⟨fn,hfn,dz,gr⟩,?_⟩;have hle:=al_ hle;obtain⟨s1,e1⟩:=hs.bump (w.heap.size:Int);rw[←Bm]at e1;refine(callsIn_wide (n:=1)).1 (callsIn_of_wp_marks hfn hc trivial ((wpIn_wide (n:=1)).2 ?_))
 have hi:Gl (nx σ) w.heap.size (C.addStm (nx σ) (w.heap.size:Int)) (nx σ+1) w:=⟨by omega,by simp[Ctx.addStm],nl⟩
 have ht:Has (Kz args 0 .e) (Hg args 0):=fun i v hv=>by
  rw[Ig];rw[L3]at hv
  grind
 have st:=Ur (E:=E) (fn:=fn) s1 (hg.ext e1) (RL.ext e1 _ _ bp) hle;refine wp_mono (h hs.wfs (RL.unds _ _ bp) w.heap.size _ w _ _ hi ht st gr) fun e a' w' he=>?_
 obtain⟨x,tm',ρ',σ₁,C',df,h1,h2,h3,h4,hdf,hB,h5⟩:=he;subst h1;rw[Bm]at e1;have cu:Ext C (nx σ) w C' (nx σ+1) w':=e1.trans h5;have hi5:Gl (nx σ) w.heap.size C' (nx σ+1) w':=hi.ext h5;have fin:Agw E fn (nx σ) Post ρ' σ₁->LeavesInM Fence.wide 1 E.P fn a'.tmps (fun
   |.returned x,w'=>∃v σ' C',Post v σ'/\Sim E.P C' w' σ'/\Ext C (nx σ) w C' (nx σ') w'/\R C' (nx σ') w' v x
   |_,_=>False) a'.defers .returning w':=by
  intro hx;obtain⟨vs₁,r1,v',σ',r2,r3,r4,r5⟩:=hx
  rcases hdf with rfl|⟨aD,rfl⟩
  ·have hds:a'.defers=[]:=by
    have hd:=h4.dfs;cases hds:a'.defers with
    |nil=>rfl
    |cons d ds=>rw[hds]at hd;unfold DR at hd;exact hd.elim
   rw[hds]
   show LeavesIn _ _ _ _ _ _ [] .returning _
   obtain⟨y,k1,k2⟩:=Hx (fn:=fn) h4.sim h4.tmps (S8 h2 r1);exact⟨y,k1,v',σ',_,r5,h4.sim.frz r2,((cu.base nl).trans (en_ C' σ' _ w')).top r3,r4.R h4.sim k2⟩
  ·have hd:=h4.dfs
   obtain⟨d,hds⟩:∃d,a'.defers=[d]/\DR C' (nx σ₁) w' [(Ks,[.yl aD,.yl (nx σ)])] [d]:=by
    cases hds:a'.defers with
    |nil=>rw[hds]at hd;unfold DR at hd;exact hd.elim
    |cons d ds=>
     rw[hds]at hd;cases ds with
     |nil=>exact⟨d,rfl,hd⟩
     |cons d' ds'=>unfold DR at hd;have:=hd.2;unfold DR at this;exact this.elim
   obtain⟨hds,hd⟩:=hds;unfold DR at hd;obtain⟨hd,_⟩:=hd
   rcases hd with⟨h0,_⟩|⟨_,a1,b1,h1,⟨g2,g3,g4⟩,g5,g6,g7,_⟩
   ·grind
   ·simp only[dl_,AV.yl.injEq,and_true]at h1;obtain⟨rfl,rfl⟩:=h1;rw[hds,g5]
    refine⟨by simp,.inl ⟨_,_,rfl,run_takeDeferred g7,?_⟩⟩
    show LeavesIn _ _ _ _ _ _ [] .returning _
    have t:Jb w' (w'.putObj (C'.stm aD).toNat (.deferred none)) (C'.stm aD).toNat:=gy_ g7 rfl rfl
    have hge:w.heap.size<=(C'.stm aD).toNat:=by rw[←hi5.2.1];exact g4
    have st2:Sim E.P C' _ σ₁:=h4.sim.turn t g6;have tm2:TR C' (nx σ₁) _ tm' a'.tmps:=fun i v hv=>R.turn t _ _ (h4.tmps i v hv)
    obtain⟨y,k1,k2⟩:=Hx (fn:=fn) st2 tm2 (S8 h2 r1);exact⟨y,k1,v',σ',_,r5,st2.frz r2,(((cu.turnNew t g6 hge).base nl).trans (en_ C' σ' _ _)).top r3,r4.R st2 k2⟩
 cases x with
 |normal=>exact fin h3
 |ret=>exact fin h3
 |exit id=>exact h3.elim
end
def H7:Code->Bool
 |.region _ ops _=>D6 ops.toList
 |.seq a b=>H7 a&&H7 b
 |.cond _ a b=>H7 a&&H7 b
 |.block _ a=>H7 a
 |.loop a=>H7 a
 |.scope a=>H7 a
 |.rangeFunc _ _ _ _=>false
 |_=>true
def LI(Ls:List RF)(C:Ctx)(N:Nat)(w:World):Prop:=∀L∈Ls,Gk L C N w
theorem LI.ext{Ls C C' N N' w w'}(h:LI Ls C N w)(e:Ext C N w C' N' w'):LI Ls C' N' w':=fun L hL=>(h L hL).ext e
def Kg(E:Env)(nt b B:Nat)(Q:Cc)(C:Ctx)(w:World):Exit->Act->World->Prop:=fun e a' w'=>
 ∃x tm' ρ' σ' C' df,Jj x=e/\Has tm' ρ'/\Q x ρ' σ'/\SSt E C' w' ⟨tm',nt,df,σ'⟩ a'/\Jt b df=true/\B<=nx σ'/\Ext C B w C' B w'
def TX(E:Env)(Ls:List RF)(nt b B:Nat)(c:Code)(Q:Cc)(ρ:Ad)(σ:Sto):Prop:=
 ∀(ro:Option Nat) (n:Nat),(ro=none∨H7 c=true)->∀(Bs:Nat) (C:Ctx) (w:World) (tm:Tr AV) (a:Act) (df:List (Nat×List AV)),(ro=none->Gl b Bs C B w)->LI Ls C B w->Jt b df=true->Has tm ρ->SSt E C w ⟨tm,nt,df,σ⟩ a->B<=nx σ->
  c.wpIn (Cy ro) n E.P (Kg E nt b B Q C w) a w
section
variable {E:Env}{Ls:List RF}{nt b B:Nat}{Q Q':Cc}{ρ ρ':Ad}{σ σ':Sto}
theorem Kg.mono{C w e a w'}(h:Kg E nt b B Q C w e a w')(hQ:∀x ρ σ,Q x ρ σ->Q' x ρ σ):Kg E nt b B Q' C w e a w':=by
 obtain⟨x,tm',ρ',σ',C',df,h1,h2,h3,h4⟩:=h;exact⟨x,tm',ρ',σ',C',df,h1,h2,hQ _ _ _ h3,h4⟩
theorem Kg.from{C C₀ w w₀ e a w'}(h:Kg E nt b B Q C w e a w')(hx:Ext C₀ B w₀ C B w):Kg E nt b B Q C₀ w₀ e a w':=by
 obtain⟨x,tm',ρ',σ',C',df,h1,h2,h3,h4,hm,hB,h5⟩:=h;exact⟨x,tm',ρ',σ',C',df,h1,h2,h3,h4,hm,hB,hx.trans h5⟩
theorem Dy{c}(h:∀df,T E nt df B c Q ρ σ)(hn:H7 c=Ln c:=by kernel_rfl):TX E Ls nt b B c Q ρ σ:=fun ro n hr Bs C w tm a df _ _ hm ht st hB=>
 wpIn_mono (h df ro n (hr.imp (fun h=>h) gr) C w tm a ht st hB) fun e a' w' ⟨x,tm',ρ',σ',C',h1,h2,h3,h4,hB',h5⟩=>⟨x,tm',ρ',σ',C',df,h1,h2,h3,h4,hm,hB',h5⟩
theorem TX.mono{c}(h:TX E Ls nt b B c Q ρ σ)(hQ:∀x ρ σ,Q x ρ σ->Q' x ρ σ):TX E Ls nt b B c Q' ρ σ:=fun ro n hr Bs C w tm a df h0 hl hm ht st hB=>wpIn_mono (h ro n hr Bs C w tm a df h0 hl hm ht st hB) fun e a' w' he=>he.mono hQ
theorem Gi{c}(h:WFS σ->TX E Ls nt b B c Q ρ σ):TX E Ls nt b B c Q ρ σ:=fun ro n hr Bs C w tm a df h0 hl hm ht st hB=>h st.sim.wfs ro n hr Bs C w tm a df h0 hl hm ht st hB
theorem Jw(h:Q .normal ρ σ):TX E Ls nt b B .skip Q ρ σ:=Dy fun _=>Agu h
theorem Ux{n}(h:Q (.exit n) ρ σ):TX E Ls nt b B (.exit n) Q ρ σ:=Dy fun _=>Agv h
theorem Th(h:Q .ret ρ σ):TX E Ls nt b B .ret Q ρ σ:=Dy fun _=>Amj h
theorem Cf{x y}(h:TX E Ls nt b B x (Pa (TX E Ls nt b B y Q) Q) ρ σ):TX E Ls nt b B (.seq x y) Q ρ σ:=by
 intro ro n hr Bs C w tm a df h0 hl hm ht st hB;simp only[H7,ad_]at hr;refine wpIn_seq (wpIn_mono (h ro n (hr.imp (fun h=>h) (·.1)) Bs C w tm a df h0 hl hm ht st hB) fun e a' w' he=>?_)
 obtain⟨x',tm',ρ',σ',C',df',h1,h2,h3,h4,hm',hB',h5⟩:=he;subst h1;cases x' with
 |normal=>exact wpIn_mono (h3 ro n (hr.imp (fun h=>h) (·.2)) Bs C' w' tm' a' df' (fun hh=>(h0 hh).ext h5) (hl.ext h5) hm' h2 h4 hB') fun e a'' w'' he=>he.from h5
 |exit id=>exact⟨.exit id,tm',ρ',σ',C',df',rfl,h2,h3,h4,hm',hB',h5⟩
 |ret=>exact⟨.ret,tm',ρ',σ',C',df',rfl,h2,h3,h4,hm',hB',h5⟩
theorem A0{c x y v}(hc:Ah E ρ c=some (.bool v))(h1:v=true->TX E Ls nt b B x Q ρ σ)(h2:v=false->TX E Ls nt b B y Q ρ σ):TX E Ls nt b B (.cond c x y) Q ρ σ:=by
 intro ro n hr Bs C w tm a df h0 hl hm ht st hB;simp only[H7,ad_]at hr;have hv:=Be st.glob st.tmps c;rw[ht.opd hc]at hv;unfold R at hv;cases v with
 |true=>exact wpIn_cond_true hv (h1 rfl ro n (hr.imp (fun h=>h) (·.1)) Bs C w tm a df h0 hl hm ht st hB)
 |false=>exact wpIn_cond_false hv (h2 rfl ro n (hr.imp (fun h=>h) (·.2)) Bs C w tm a df h0 hl hm ht st hB)
theorem Qn{id c}(h:TX E Ls nt b B c (Qf id Q) ρ σ):TX E Ls nt b B (.block id c) Q ρ σ:=by
 intro ro n hr Bs C w tm a df h0 hl hm ht st hB;refine wpIn_block (wpIn_mono (h ro n hr Bs C w tm a df h0 hl hm ht st hB) fun e a' w' he=>?_)
 obtain⟨x',tm',ρ',σ',C',df',h1,h2,h3,h4,hm',hB',h5⟩:=he;subst h1;cases x' with
 |normal=>exact⟨.normal,tm',ρ',σ',C',df',rfl,h2,h3,h4,hm',hB',h5⟩
 |ret=>exact⟨.ret,tm',ρ',σ',C',df',rfl,h2,h3,h4,hm',hB',h5⟩
 |exit j=>
  simp only[Qf]at h3
  by_cases hj:j=id
  ·subst hj;rw[aw_]at h3;simp only[Jj,Exit.inBlock,if_true];exact⟨.normal,tm',ρ',σ',C',df',rfl,h2,h3,h4,hm',hB',h5⟩
  ·have hb:Nat.beq j id=false:=by cases hb:Nat.beq j id with|true=>exact absurd (ac_ hb) hj|false=>rfl
   rw[hb]at h3;simp only[Jj,Exit.inBlock,if_neg hj];exact⟨.exit j,tm',ρ',σ',C',df',rfl,h2,h3,h4,hm',hB',h5⟩
theorem Aun{c}(I:Nat->Ad->Sto->Prop)(n)(h0:∃ρ',Km ρ' ρ/\I n ρ' σ)
  (hs:∀n ρ σ,I n ρ σ->TX E Ls nt b B c (Pa (fun ρ' σ'=>∃m ρ'',m<n/\Km ρ'' ρ'/\I m ρ'' σ') Q) ρ σ):TX E Ls nt b B (.loop c) Q ρ σ:=by
 intro ro m hn;have key:∀(n:Nat) (ρ:Ad) (σ:Sto),I n ρ σ->∀(Bs:Nat) (C:Ctx) (w:World) (tm:Tr AV) (a:Act) (df:List (Nat×List AV)),(ro=none->Gl b Bs C B w)->LI Ls C B w->Jt b df=true->Has tm ρ->SSt E C w ⟨tm,nt,df,σ⟩ a->B<=nx σ->∀(f:Frame) (k:List Item) (cs:List Frame),f.roundOf=(Cy ro).round->(Cy ro).fn f.fn->(Cy ro).room (cs.length+1+m)->
   ∃e a' w',Kg E nt b B Q C w e a' w'/\ArrivesIn (Machine.fenced E.P (Cy ro)) E.P (lone (f.atR a (.code c::.inLoop c::k)) cs w) f k cs e a' w':=by
  intro n
  induction n using Nat.strongRecOn with
  |_ n ih=>
   intro ρ σ hI Bs C w tm a df hb hl hm ht st hB f k cs hro hf hr;obtain⟨e,a₁,w₁,hq,br⟩:=hs n ρ σ hI ro m hn Bs C w tm a df hb hl hm ht st hB f (.inLoop c::k) cs hro hf hr;obtain⟨x',tm',ρ',σ',C',df',h1,h2,h3,h4,hm',hB',h5⟩:=hq;subst h1;cases x' with
   |normal=>
    obtain⟨m,ρ'',hmn,cc,hI'⟩:=h3;obtain⟨e₂,a₂,w₂,hq₂,harr₂⟩:=ih m hmn ρ'' σ' hI' Bs C' w₁ tm' a₁ df' (fun hh=>(hb hh).ext h5) (hl.ext h5) hm' (h2.subL cc) h4 hB' f k cs hro hf hr
    exact⟨e₂,a₂,w₂,hq₂.from h5,.of_steps (StepsIn.trans br (.one (fenced_calm hf hr rfl) stepR_inLoop)) harr₂⟩
   |exit id=>exact⟨.exit id,a₁,w₁,⟨_,tm',ρ',σ',C',df',rfl,h2,h3,h4,hm',hB',h5⟩,.pass (x:=.inLoop c) rfl (fun _ _=>.inl (by simp)) br⟩
   |ret=>exact⟨.ret,a₁,w₁,⟨_,tm',ρ',σ',C',df',rfl,h2,h3,h4,hm',hB',h5⟩,.pass (x:=.inLoop c) rfl (fun _ _=>.inl (by simp)) br⟩
 intro Bs C w tm a df hb hl hm ht st hB f k cs hro hf hr;obtain⟨ρ',cc,hI⟩:=h0;obtain⟨e,a',w',hq,br⟩:=key n ρ' σ hI Bs C w tm a df hb hl hm (ht.subL cc) st hB f k cs hro hf hr;exact⟨e,a',w',hq,.of_steps (.one (fenced_calm hf hr rfl) stepR_loop) br⟩
theorem Hz{α:Type}{c}(ρI:α->Ad)(P:α->Sto->Prop)(μ:α->Nat)(a₀)(h0:Km (ρI a₀) ρ)(h1:P a₀ σ)
  (hs:∀a σ,P a σ->TX E Ls nt b B c (Pa (fun ρ' σ'=>∃a',μ a'<μ a/\Km (ρI a') ρ'/\P a' σ') Q) (ρI a) σ):TX E Ls nt b B (.loop c) Q ρ σ:=by
 refine Aun (fun n ρ σ=>∃a,n=μ a/\ρ=ρI a/\P a σ) (μ a₀) ⟨ρI a₀,h0,a₀,rfl,rfl,h1⟩ ?_
 grind
def YX(E:Env)(Ls:List RF)(L:RF)(args:List AV)(σ:Sto)(Post:XE->Sto->Prop):Prop:=
 ∀(C:Ctx) (w:World) (vs:Array Value),LI Ls C (nx σ) w->Gk L C (nx σ) w->Sim E.P C w σ->Iw C (nx σ) w E->RL C (nx σ) w args vs.toList->
  ∃r,w.heap[(C.stm L.aY).toNat]? =some (.loop (C9 r .ready))/\vs.size=r.params.size/\∀ro n,RoundIn (Cy ro) n E.P (C.stm L.aY).toNat r.fn ((r.params.zip vs).foldl (fun tmps (t,a)=>tmps.setIfInBounds t a) r.tmps) r.assign r.body w fun e w'=>
   ∃x σ' C',Post x σ'/\e=.returned (.bool (Iu x))/\Sim E.P C' w' σ'/\Ext C (nx σ) w C' (nx σ') w'
theorem Tk{L ρL args Post}(hL:Has L.tm ρL)(hl:args.length=L.ps.toList.length)(hps:L.ps.toList.all (fun p=>Nat.blt p L.nt)=true)(hna:H7 L.assign=true)(hnb:H7 L.body=true)(hrd:σ.get L.aY=some (.loop .ready))(hY0:L.aY<nx σ)
  (h:TX E Ls L.nt 0 (nx σ) L.assign (fun|.normal=>fun ρ₁ σ₁=>σ₁.get L.aY=some (.loop .ready)/\TX E Ls L.nt 0 (nx σ) L.body (fun x _ σ₂=>σ₂.get L.aY=some (.loop .busy)/\Post x (σ₂.set L.aY (.loop (H2 x)))) ρ₁ (σ₁.set L.aY (.loop .busy))|_=>fun _ _=>False) (Amv L.ps.toList args ρL) σ):
  YX E Ls L args σ Post:=by
 intro C w vs hLI hi hs hg bp;obtain⟨hY1,hY2,r,hlr,hTR,hsz,hp,has,hbo⟩:=hi;obtain⟨c,r',h1,h2,h3⟩:=hs.obj _ _ hrd;rw[hlr]at h2;cases h2;have hc:=hY2 c 0 h1;subst hc;obtain⟨q1,tm',q0,q2,q3⟩:=Qk (nt:=L.nt) hl hps hL hTR hsz bp
 have jj:(L.ps.toList.zip vs.toList).foldl (fun tmps (t,a)=>tmps.setIfInBounds t a) r.tmps=(L.ps.zip vs).foldl (fun tmps (t,a)=>tmps.setIfInBounds t a) r.tmps:=by
  rw[←fv_,Array.toList_zip]
 rw[jj]at q2 q3;refine⟨r,h3,gr,fun ro n=>?_⟩
 refine roundIn_of_wpIn (F:=Cy ro) trivial ?_;rw[has,hbo,hp]
 have st0:SSt E C w ⟨tm',L.nt,[],σ⟩ { tmps:=(L.ps.zip vs).foldl (fun tmps (t,a)=>tmps.setIfInBounds t a) r.tmps,defers:=[] }:=⟨hs,hg,q2,q3,by unfold DR;trivial⟩
 refine wpIn_mono (h (some (C.stm L.aY).toNat) n (.inr hna) 0 C w tm' _ [] gr hLI rfl q0 st0 nl) fun e a₁ w₁ hq=>?_
 obtain⟨x₁,tm₁,ρ₁,σ₁,C₁,df₁,hye,ht₁,hq₁,st₁,hm₁,hB₁,e₁⟩:=hq;subst hye;cases x₁ with
 |ret=>exact hq₁.elim
 |exit _=>exact hq₁.elim
 |normal=>
  obtain⟨hrd₁,ce⟩:=hq₁;obtain⟨c₁,r₁,j1,j2,j3,j4,j5⟩:=st₁.sim.turnLoop hrd₁ .busy
  have hr₁:r₁=r:=by
   have:=e₁.lr _ hY0
   grind
  subst hr₁;have hc₁:c₁=(C.stm L.aY).toNat:=hY2 c₁ 0 (e₁.loc _ hY0 _ j1);subst hc₁;refine⟨_,run_beginRound j3 rfl,?_⟩;have st₂:SSt E C₁ (w₁.putObj (C.stm L.aY).toNat (.loop (C9 r₁ .busy))) ⟨tm₁,L.nt,df₁,σ₁.set L.aY (.loop .busy)⟩ a₁:=
   ⟨j4,by show Iw _ (nx (σ₁.set _ _)) _ _;rw[Aq];exact st₁.glob.ext j5,by show TR _ (nx (σ₁.set _ _)) _ _ _;rw[Aq];exact st₁.tmps.ext j5,st₁.size,by show DR _ (nx (σ₁.set _ _)) _ _ _;rw[Aq];exact st₁.dfs.ext j5⟩
  have hLI₁:LI Ls C₁ (nx σ) (w₁.putObj (C.stm L.aY).toNat (.loop (C9 r₁ .busy))):=(hLI.ext e₁).ext (j5.base hB₁);refine wpIn_mono (ce (some (C.stm L.aY).toNat) n (.inr hnb) 0 C₁ _ tm₁ _ df₁ gr hLI₁ hm₁ ht₁ st₂ gr) fun e a₃ w₃ hq=>?_
  obtain⟨x₃,tm₃,ρ₃,σ₃,C₂,df₃,hye,ht₃,hq₃,st₃,hm₃,hB₃,e₂⟩:=hq;subst hye;obtain⟨hbu,bh⟩:=hq₃;have finish:∀(jump:Option Code),C9 r₁ (H2 x₃)={ C9 r₁ .busy with state:=if jump.isNone then .ready else .done,pending:=jump }->Iu x₃=jump.isNone->
    ∃v w',(Instr.endRound (C.stm L.aY).toNat jump).run E.P w₃=.ok v w'/\∃x σ' C',Post x σ'/\Ending.returned v=.returned (.bool (Iu x))/\Sim E.P C' w' σ'/\Ext C (nx σ) w C' (nx σ') w':=by
   intro jump hst heq;obtain⟨c₂,r₂,m1,m2,m3,m4,m5⟩:=st₃.sim.turnLoop hbu (H2 x₃)
   have hr₂:r₂=r₁:=by
    have:=e₂.lr _ hY0
    grind
   subst hr₂;have hc₂:c₂=(C.stm L.aY).toNat:=hY2 c₂ 0 (e₁.loc _ hY0 _ (e₂.loc _ hY0 _ m1));subst hc₂;have da:=run_endRound (P:=E.P) jump m3;rw[←hst]at da
   refine⟨_,_,da,x₃,_,C₂,bh,by rw[heq],m4,?_⟩
   rw[Aq];exact(((e₁.trans (j5.base hB₁)).trans e₂).trans (m5.base hB₃)).top hB₃
  cases x₃ with
  |normal=>exact finish none rfl rfl
  |ret=>exact finish (some .ret) rfl rfl
  |exit id=>exact finish (some (.exit id)) rfl rfl
def TOX(E:Env)(Ls:List RF)(nt b B:Nat)(ops r:List Oper)(K:Ad->Sto->Prop)(ρ:Ad)(σ:Sto):Prop:=
 ∀(ro:Option Nat) (n:Nat),(ro=none∨D6 r=true)->∀(Bs:Nat) (C:Ctx) (w:World) (tm:Tr AV) (a:Act) (df:List (Nat×List AV)),(ro=none->Gl b Bs C B w)->LI Ls C B w->Jt b df=true->Has tm ρ->SSt E C w ⟨tm,nt,df,σ⟩ a->B<=nx σ->∀(arr:Array Oper) (i:Nat) (QQ:Exit->Act->World->Prop),arr.toList=ops->(∀j,j<r.length->r[j]? =arr[i+j]?)->
  (∀C' w' a' tm' ρ' σ',Has tm' ρ'->K ρ' σ'->SSt E C' w' ⟨tm',nt,df,σ'⟩ a'->B<=nx σ'->Ext C B w C' B w'->QQ .normal a' w')->wpOpsIn (Cy ro) n E.P arr QQ (List.range' i r.length) a w
variable {K:Ad->Sto->Prop}{ops r:List Oper}
theorem Er{id ops}(h:TOX E Ls nt b B ops.toList ops.toList (fun ρ σ=>Q .normal ρ σ) ρ σ):TX E Ls nt b B (.region id ops false) Q ρ σ:=by
 intro ro n hr Bs C w tm a df h0 hl hm ht st hB;refine wpIn_region ?_;rw[dr_,←cd_];exact h ro n hr Bs C w tm a df h0 hl hm ht st hB ops 0 (Kg E nt b B Q C w) rfl gr fun C' w' a' tm' ρ' σ' h1 h2 h3 h4 h5=>⟨.normal,tm',ρ',σ',C',df,rfl,h1,h2,h3,hm,h4,h5⟩
theorem Uy(h:K ρ σ):TOX E Ls nt b B ops [] K ρ σ:=by
 intro ro n _ Bs C w tm a df h0 hl hm ht st hB arr i QQ _ _ hQ;simp only[cu_,gr_,wpOpsIn];exact hQ C w a tm ρ σ ht h st hB (cf_ _ _ _)
theorem Ale{g}(h:∀df,TO E nt df B ops g (fun ρ' σ'=>TOX E Ls nt b B ops r K ρ' σ') ρ σ):TOX E Ls nt b B ops (g++r) K ρ σ:=by
 intro ro n hn Bs C w tm a df h0 hl hm ht st hB arr i QQ br hr hQ;rw[bx_,←List.range'_append_1];simp only[D6,List.all_append,ad_]at hn;refine h df ro n (hn.imp (fun h=>h) (·.1)) C w tm a ht st hB arr i QQ _ br (fun j hj=>?_) fun C' w' a' tm' ρ' σ' h1 h2 h3 h4 h5=>?_
 ·grind
 ·refine h2 ro n (hn.imp (fun h=>h) (·.2)) Bs C' w' tm' a' df (fun hh=>(h0 hh).ext h5) (hl.ext h5) hm h1 h3 h4 arr (i+g.length) QQ br (fun j hj=>?_) fun C2 w2 a2 tm2 ρ2 σ2 q1 q2 q3 qB q4=>hQ C2 w2 a2 tm2 ρ2 σ2 q1 q2 q3 qB (h5.trans q4)
  have:=hr (g.length+j) gr
  grind
theorem Gm(m)(h:∀df,TO E nt df B ops (r.take m) (fun ρ' σ'=>TOX E Ls nt b B ops (r.drop m) K ρ' σ') ρ σ):TOX E Ls nt b B ops r K ρ σ:=by
 rw[←cc_ m r];exact Ale h
theorem Lg{L o f args}{tys:Array Nat}{vs Post}(hL:L∈Ls)(hg:∀tm,Has tm ρ->Bn ops o tm=some true)(hop:o.op=.call ⟨.value f,args,tys⟩)(hd:B0 nt o.dst=true)(hf:Ah E ρ f=some (.yl L.aY))(ha:Kc E ρ args.toList=some vs)
  (hy:YX E Ls L vs σ Post)(k:∀x σ',Post x σ'->nx σ<=nx σ'->TOX E Ls nt b B ops r K (Dt o.dst (.bool (Iu x)) ρ) σ'):TOX E Ls nt b B ops (o::r) K ρ σ:=by
 intro ro n hn Bs C w tm a df h0 hl hm ht st hB arr i QQ br hr hQ
 have ho:arr[i]? =some o:=by have:=hr 0 (by simp);grind
 simp only[as_,cj_,wpOpsIn,ho];have hw:Region.wanted o (yielded arr a.tmps)=true:=Dp st.tmps gr;rw[if_pos hw]
 have hnd:Ra o.op=false:=by rw[hop];rfl
 have hV:=Be st.glob st.tmps f;rw[ht.opd hf]at hV;unfold R at hV;obtain⟨hV,_⟩:=hV;have hA:=Dm st.glob st.tmps args.toList;rw[ht.opds ha]at hA
 have hA':RL C (nx σ) w vs (args.map a.eval).toList:=by simp only[c_];exact hA
 have hl':LI Ls C (nx σ) w:=hl.ext ((cf_ C B w).top hB);obtain⟨r',fa,hsz,ca⟩:=hy C w _ hl' (hl' L hL) st.sim st.glob hA';have hyl:=run_yield (P:=E.P) (args:=args.map a.eval) fa hsz
 have bq:(execOp a.eval o).run E.P w=.ok (.round (C.stm L.aY).toNat r'.fn ((r'.params.zip (args.map a.eval)).foldl (fun tmps (t,a)=>tmps.setIfInBounds t a) r'.tmps) r'.assign r'.body) w:=by
  simp[execOp,hop,resolve,hV,Deferred.ofValue,invoke]
  simpa[C9]using hyl
 refine⟨fun _ _=>trivial,?_⟩
 rw[Oper.semAt_eq _ _ _ gr,bq,Oper.uponIn_round]
 refine⟨fun hh=>(by cases hh),(ca ro (n-1)).mono fun e w' he=>?_⟩
 obtain⟨x,σ',C',hp,rfl,k1,k2⟩:=he;obtain⟨tm',h1,h2⟩:=C6 (nt:=nt) (dst:=o.dst) hd ht (.bool (Iu x))
 have st':=st.put (x:=.bool (Iu x)) k1 k2 (by unfold R;rfl) h1
 have hn':ro=none∨D6 r=true:=hn.imp (fun h=>h) fun h=>by simp only[D6,cs_,ad_]at h;exact h.2
 exact k x σ' hp k2.next ro n hn' Bs C' w' tm' _ df (fun hh=>(h0 hh).ext (k2.base hB)) (hl.ext (k2.base hB)) hm h2 st' (ai_ hB k2.next) arr (i+1) QQ br (fun j hj=>by have:=hr (j+1) gr;grind)
  fun C2 w2 a2 tm2 ρ2 σ2 q1 q2 q3 qB q4=>hQ C2 w2 a2 tm2 ρ2 σ2 q1 q2 q3 qB ((k2.base hB).trans q4)
def Hl(E:Env)(Ls:List RF)(f:Nat)(args:List AV)(σ:Sto)(Post:AV->Sto->Prop):Prop:=
 ∀(C:Ctx) (w:World) (vs:Array Value),LI Ls C (nx σ) w->Sim E.P C w σ->Iw C (nx σ) w E->RL C (nx σ) w args vs.toList->
  Aa2 E.P f/\Calls E.P f vs w fun
   |.returned x,w'=>∃v σ' C',Post v σ'/\Sim E.P C' w' σ'/\Ext C (nx σ) w C' (nx σ') w'/\R C' (nx σ') w' v x
   |_,_=>False
theorem Hl.to{f args Post}(h:Hl E [] f args σ Post):Al E f args σ Post:=fun C w vs=>h C w vs (fun _ hL=>by cases hL)
abbrev gm_:=@Hl.to
theorem Hl.mono{f args Post Post'}(h:Hl E Ls f args σ Post)(k:∀v σ',Post v σ'->Post' v σ'):Hl E Ls f args σ Post':=by
 intro C w vs hl hs hg ha;obtain⟨h1,h2⟩:=h C w vs hl hs hg ha;refine⟨h1,h2.mono fun e w' he=>?_⟩
 grind
abbrev et_:=@Hl.mono
theorem L5{o f args}{tys:Array Nat}{k:Nat}{first cap vs full Post}(hg:∀tm,Has tm ρ->Bn ops o tm=some true)(hop:o.op=.call ⟨.value f,args,tys⟩)(hd:B0 nt o.dst=true)
  (hf:Ah E ρ f=some (.fn (.func k) first cap))(ha:Kc E ρ args.toList=some vs)(mn:first++vs++cap=full)(hc:Hl E Ls k full σ Post)
  (kk:∀v σ',Post v σ'->nx σ<=nx σ'->TOX E Ls nt b B ops r K (Dt o.dst v ρ) σ'):TOX E Ls nt b B ops (o::r) K ρ σ:=by
 intro ro n hn Bs C w tm a df h0 hl hm ht st hB arr i QQ br hr hQ
 have ho:arr[i]? =some o:=by have:=hr 0 (by simp);grind
 simp only[as_,cj_,wpOpsIn,ho];have hw:Region.wanted o (yielded arr a.tmps)=true:=Dp st.tmps gr;rw[if_pos hw]
 refine Ev (.inr (by rw[hop];rfl)) ?_
 have hV:=Be st.glob st.tmps f;rw[ht.opd hf]at hV;unfold R at hV;obtain⟨p,q,hV,hp,hq⟩:=hV;have bp:=Dm st.glob st.tmps args.toList;rw[ht.opds ha]at bp
 have bs:RL C (nx σ) w full (p++args.map a.eval++q).toList:=by
  subst mn;simp only[cv_,c_];exact(hp.append bp).append hq
 have hl':LI Ls C (nx σ) w:=hl.ext ((cf_ C B w).top hB);obtain⟨⟨fn,g1,g2,g3⟩,b8⟩:=hc C w _ hl' st.sim st.glob bs
 have bq:(execOp a.eval o).run E.P w=.ok (.enter k (p++args.map a.eval++q)) w:=by
  have g2':fn.name≠ "runtime.NumGoroutine" :=gr;have g3':fn.body≠none:=gr
  simp[execOp,hop,resolve,hV,Deferred.ofValue,invoke,callFunc,g1,g2',g3']
 unfold Oper.wp;rw[bq,Oper.upon_enter];refine b8.mono fun e w' he=>?_
 have hn':ro=none∨D6 r=true:=hn.imp (fun h=>h) fun h=>by simp only[D6,cs_,ad_]at h;exact h.2
 cases e with
 |returned x=>
  obtain⟨v,σ',C',k0,k1,k2,k3⟩:=he;obtain⟨tm',h1,h2⟩:=C6 (dst:=o.dst) hd ht v
  exact kk v σ' k0 k2.next ro n hn' Bs C' w' tm' _ df (fun hh=>(h0 hh).ext (k2.base hB)) (hl.ext (k2.base hB)) hm h2 (st.put k1 k2 k3 h1) (ai_ hB k2.next) arr (i+1) QQ br (fun j hj=>by have:=hr (j+1) gr;grind)
   fun C2 w2 a2 tm2 ρ2 σ2 q1 q2 q3 qB q4=>hQ C2 w2 a2 tm2 ρ2 σ2 q1 q2 q3 qB ((k2.base hB).trans q4)
 |panicked _=>exact he.elim
 |outgrown=>exact he.elim
theorem Ae3{fn C₀ C₁ N₀ w₀ tm tmps τ n Re}(hb:(C₁.stm b).toNat=w₀.heap.size)
  (K:∀w,Sim E.P C₁ w τ->TR C₁ (nx τ) w tm tmps->Ext C₀ N₀ w₀ C₁ (nx τ) w->LeavesInM Fence.wide n E.P fn tmps Re [] .returning w):
  ∀(df:List (Nat×List AV)) (ds:List Deferred) (w:World),Jt b df=true->DR C₁ (nx τ) w df ds->Sim E.P C₁ w τ->TR C₁ (nx τ) w tm tmps->Ext C₀ N₀ w₀ C₁ (nx τ) w->LeavesInM Fence.wide n E.P fn tmps Re ds .returning w
 |[],[],w,_,_,hs,ht,cu=>K w hs ht cu
 |[],_::_,_,_,hd,_,_,_=>by unfold DR at hd;grind
 |_::_,[],_,_,hd,_,_,_=>gr
 |x::df,d::ds,w,hm,hd,hs,ht,cu=>by
  unfold DR at hd;obtain⟨hd,hd2⟩:=hd;obtain⟨k,l⟩:=x
  have hk:k=Ks/\∃aD,l=[.yl aD,.yl b]/\Jt b df=true:=by
   unfold Jt at hm
   split at hm
   ·grind
   ·rename_i heq
    cases heq;simp only[ad_]at hm
    exact⟨ac_ hm.1.1,_,by rw[ac_ hm.1.2],hm.2⟩
   grind
  obtain⟨rfl,aD,rfl,hm'⟩:=hk
  rcases hd with⟨h0,_⟩|⟨h0,a1,b1,h1,⟨h2,h3,h4⟩,h5,h6,h7,h8⟩
  ·grind
  ·simp only[dl_,AV.yl.injEq,and_true]at h1;obtain⟨rfl,rfl⟩:=h1;rw[h5]
   refine⟨by simp,.inl ⟨_,_,rfl,run_takeDeferred h7,?_⟩⟩
   have t:Jb w (w.putObj (C₁.stm aD).toNat (.deferred none)) (C₁.stm aD).toNat:=gy_ h7 rfl rfl;have hge:w₀.heap.size<=(C₁.stm aD).toNat:=gr
   have dr:∀{r:List (Nat×List AV)} {ds:List Deferred},MB C₁ (nx τ) r (C₁.stm aD).toNat->DR C₁ (nx τ) w r ds->DR C₁ (nx τ) (w.putObj (C₁.stm aD).toNat (.deferred none)) r ds:=by
    intro r
    induction r with
    |nil=>intro ds _ h;cases ds<;>unfold DR at h⊢<;>first|trivial|exact h
    |cons x r ih=>
     intro ds hmb h;cases ds with
     |nil=>unfold DR at h;exact h.elim
     |cons d ds=>
      unfold DR at h⊢;refine⟨?_,ih (fun y hy=>hmb y (aj_ _ hy)) h.2⟩
      rcases h.1 with⟨g0,cap,g1,g2⟩|⟨g0,a,c,g1,g2,g3,g4,g5,g6⟩
      ·exact .inl ⟨g0,cap,g1,RL.turn t _ _ g2⟩
      ·refine .inr ⟨g0,a,c,g1,g2,g3,g4,?_,g6⟩;have:=(hmb x (ap_ ..) g0 a c g1).2;rw[t.other _ Om];exact g5
   exact Ae3 hb K df ds _ hm' (dr h8 hd2) (hs.turn t h6) (fun i v hv=>R.turn t _ _ (ht i v hv)) (cu.turnNew t h6 hge)
theorem Mo{f fn c args Post}(hfn:E.P.funcs[f]? =some fn)(dz:(fn.name== "runtime.NumGoroutine")=false)(hc:fn.body=some c)(hle:Nat.ble args.length fn.ntmps=true)
  (h:WFS σ->AV.unds (nx σ) args=true->TX E Ls fn.ntmps (nx σ) (nx σ+1) c (Aox (Agw E fn (nx σ) Post)) (Hg args 0) σ.bump):Hl E Ls f args σ Post:=by
 intro C w vs hl hs hg bp;refine⟨⟨fn,hfn,dz,gr⟩,?_⟩;have hle:=al_ hle;obtain⟨s1,e1⟩:=hs.bump (w.heap.size:Int);rw[←Bm]at e1;refine(callsIn_wide (n:=1)).1 (callsIn_of_wp_marks hfn hc trivial ?_)
 have hi:Gl (nx σ) w.heap.size (C.addStm (nx σ) (w.heap.size:Int)) (nx σ+1) w:=⟨by omega,by simp[Ctx.addStm],nl⟩
 have ht:Has (Kz args 0 .e) (Hg args 0):=fun i v hv=>by
  rw[Ig];rw[L3]at hv
  grind
 have st:=Ur (E:=E) (fn:=fn) s1 (hg.ext e1) (RL.ext e1 _ _ bp) hle
 have hl1:LI Ls (C.addStm (nx σ) (w.heap.size:Int)) (nx σ+1) w:=by rw[←Bm];exact hl.ext e1
 refine wpIn_mono (h hs.wfs (RL.unds _ _ bp) none 1 (.inl rfl) w.heap.size _ w _ _ [] (fun _=>hi) hl1 rfl ht st gr) fun e a' w' he=>?_
 obtain⟨x,tm',ρ',σ₁,C',df,h1,h2,h3,h4,hdf,hB,h5⟩:=he;subst h1;rw[Bm]at e1;have cu:Ext C (nx σ) w C' (nx σ+1) w':=e1.trans h5;have hi5:Gl (nx σ) w.heap.size C' (nx σ+1) w':=hi.ext h5;have fin:Agw E fn (nx σ) Post ρ' σ₁->LeavesInM Fence.wide 1 E.P fn a'.tmps (fun
   |.returned x,w'=>∃v σ' C',Post v σ'/\Sim E.P C' w' σ'/\Ext C (nx σ) w C' (nx σ') w'/\R C' (nx σ') w' v x
   |_,_=>False) a'.defers .returning w':=by
  intro hx;obtain⟨vs₁,r1,v',σ',r2,r3,r4,r5⟩:=hx;refine Ae3 (C₀:=C) (N₀:=nx σ) hi5.2.1 (fun w₂ q1 q2 q3=>?_) df _ w' hdf h4.dfs h4.sim h4.tmps ((cu.base nl).top (ai_ (dm_ _) hB))
  show LeavesIn _ _ _ _ _ _ [] .returning _
  obtain⟨y,k1,k2⟩:=Hx (fn:=fn) q1 q2 (S8 h2 r1);exact⟨y,k1,v',σ',_,r5,q1.frz r2,((q3.base nl).trans (en_ C' σ' _ w₂)).top r3,r4.R q1 k2⟩
 cases x with
 |normal=>exact fin h3
 |ret=>exact fin h3
 |exit id=>exact h3.elim
theorem L6{k:Nat}{f ps assign body cap}(hf:Ah E ρ f=some (.fn (.func k) [] cap))
  (hit:∀tm,Has tm ρ->Hl E (⟨nx σ+1,tm,nt,ps,assign,body⟩::Ls) k (.yl (nx σ+1)::cap) (σ.bump.new (.loop .ready)) (fun _ σ'=>∃x,σ'.get (nx σ+1)=some (.loop (H2 x))/\Q x ρ (σ'.kill (nx σ+1)))):
  TX E Ls nt b B (.rangeFunc f ps assign body) Q ρ σ:=by
 intro ro n hr Bs C w tm a df h0 hl hm ht st hB
 have hr:ro=none:=hr.resolve_right (by simp[H7])
 subst hr;have hi:Gl b Bs C (nx σ) w:=(h0 rfl).ext ((cf_ C B w).top hB);have hl0:LI Ls C (nx σ) w:=hl.ext ((cf_ C B w).top hB);have hV:=Be st.glob st.tmps f;rw[ht.opd hf]at hV;unfold R at hV;obtain⟨p0,lb,hV,hp0,hlb⟩:=hV
 have jk:p0=#[]:=by
  have:=hp0.length
  grind
 subst jk;refine wpIn_rangeFunc fun fn _=>?_
 obtain⟨rc,hrc⟩:∃rc:Loop,rc={ state:=.ready,pending:=none,fn,tmps:=a.tmps,params:=ps,assign,body,defers:=w.heap.size }:=⟨_,rfl⟩
 have jm:C9 rc .ready=rc:=by rw[hrc];rfl
 obtain⟨W0,hW0⟩:∃W0,w.alloc (.deferred (some []))=W0:=⟨_,rfl⟩;obtain⟨W1,hW1⟩:∃W1,W0.alloc (.loop rc)=W1:=⟨_,rfl⟩
 have hp1:Pu w W0 (.deferred (some [])):=by rw[←hW0];exact fa_ rfl ⟨rfl,rfl⟩
 have hp2:Pu W0 W1 (.loop rc):=by rw[←hW1];exact fa_ rfl ⟨rfl,rfl⟩
 have f7:=hp1.size;have jp:=hp2.size;obtain⟨s1,e1⟩:=st.sim.push hp1;obtain⟨s2,e2⟩:=s1.bump (w.heap.size:Int);obtain⟨s3,e3⟩:=s2.newLoop jm hp2;rw[←Bm]at e2;have hnx:nx (σ.bump.new (.loop .ready))=nx σ+1+1:=gr;have e5:=(e1.trans e2).trans e3;rw[←Ao σ.bump (.loop .ready)]at e5
 generalize hC4:(((C.addStm (nx σ) (w.heap.size:Int)).setLoop (nx σ.bump) (W0.heap.size:Int) rc).add (nx σ.bump) W0.heap.size 0)=C4 at s3 e5
 have f8:C4.stm (nx σ)=(w.heap.size:Int):=by rw[←hC4];simp[Ctx.add,Ctx.setLoop,Ctx.addStm,Bm]
 have ml:C4.stm (nx σ+1)=((w.heap.size+1:Nat):Int):=by rw[←hC4];simp[Ctx.add,Ctx.setLoop,Bm,f7]
 have gb:C4.lr (nx σ+1)=some rc:=by rw[←hC4];simp[Ctx.add,Ctx.setLoop,Bm]
 have gc:C4.loc (nx σ+1)=some (w.heap.size+1,0):=by rw[←hC4];simp[Ctx.add,Bm,f7]
 have hnD:¬C4.own w.heap.size:=fun hh=>by
  rcases hh with hh|⟨x,o,hh⟩
  ·have hh':C.res w.heap.size:=by rw[←e5.res.1];exact hh
   have:=st.sim.rlt _ hh';omega
  ·by_cases hx:x=nx σ+1
   ·grind
   ·have:x<nx σ:=by
     obtain⟨O,hO,_⟩:=s3.dom x _ hh;have hb:=s3.bound x O hO;rw[hnx]at hb
     by_cases hx2:x=nx σ
     ·subst hx2;rw[ag_,Bm,if_neg Om,Fh]at hO;have:=st.sim.bound _ _ hO;omega
     ·omega
    have:=st.sim.lt x _ _ (e5.loc x this _ hh);omega
 have ez:W1.heap[w.heap.size]? =some (.deferred (some [])):=by rw[hp2.other _ Om];exact hp1.here
 have hli:Gk ⟨nx σ+1,tm,nt,ps,assign,body⟩ C4 (nx (σ.bump.new (.loop .ready))) W1:=by
  refine⟨gr,fun c o hc=>?_,rc,gb,?_,?_,?_,?_,?_⟩
  ·grind
  ·have:TR C (nx σ) w tm rc.tmps:=by rw[hrc];exact st.tmps
   exact this.ext e5
  ·rw[hrc];exact st.size
  ·rw[hrc]
  ·rw[hrc]
  grind
 have bp:RL C4 (nx (σ.bump.new (.loop .ready))) W1 (.yl (nx σ+1)::cap) (#[Value.func (.yield (w.heap.size+1)) #[] #[]]++lb).toList:=by
  simp only[cv_,ay_,bd_];unfold RL;refine⟨?_,RL.ext e5 _ _ hlb⟩;unfold R
  grind
 have hLs:LI (⟨nx σ+1,tm,nt,ps,assign,body⟩::Ls) C4 (nx (σ.bump.new (.loop .ready))) W1:=fun L hL=>by
  rcases an_.1 hL with rfl|hL
  ·grind
  ·exact(hl0 L hL).ext e5
 obtain⟨⟨kfn,f6,dz,ce⟩,b8⟩:=hit tm ht C4 W1 _ hLs s3 (st.glob.ext e5) bp
 have en:∀args w,(callFunc k args).run E.P w=.ok (.enter k args) w:=fun args w=>by
  have g2':kfn.name≠ "runtime.NumGoroutine" :=gr;have g3':kfn.body≠none:=gr
  simp[callFunc,f6,g2',g3']
 refine⟨w.heap.size+1,[{ target:=.collected w.heap.size,args:=#[] }],W1,{ target:=.fn (.func k) lb,args:=#[.func (.yield (w.heap.size+1)) #[] #[]] },W1,k,
  #[.func (.yield (w.heap.size+1)) #[] #[]]++lb,W1,?_,?_,fun _ _=>trivial,?_,fun hh=>(by cases hh),?_⟩
 ·rw[←hW1,←hW0,hrc];exact run_enterLoop_outer _ _ _ _ _
 ·simp only[resolve,hV]
  simp[go_sem]
 ·simp[invoke,go_sem,en]
 ·refine(callsIn_wide).2 (b8.mono fun e w₃ he=>?_)
  cases e with
  |returned x=>
   obtain⟨v₀,σ',C₃,⟨x₀,hgl,bh⟩,k1,k2,_⟩:=he;have co:=(k2.stm (nx σ) gr).trans f8;have jq:=(k2.lr (nx σ+1) gr).trans gb;obtain⟨hn4,hk4⟩:=k2.keep w.heap.size Om hnD;have hd3:=hk4.trans ez;obtain⟨c,r,g1,g2,g3⟩:=k1.obj _ _ hgl;rw[jq]at g2;cases g2;have hcl:=k2.loc _ gr _ g1;rw[gc]at hcl;cases hcl;obtain⟨m1,m2⟩:=k1.kill (nx σ+1)
   have hnL:¬(C₃.del (nx σ+1)).own (w.heap.size+1):=fun hh=>by
    rcases hh with hh|⟨x,o,hh⟩
    ·exact k1.rdis _ _ _ g1 hh
    ·by_cases hx:x=nx σ+1
     ·simp[Ctx.del,hx]at hh
     ·simp[Ctx.del,hx]at hh
      exact hx (k1.inj _ _ _ _ _ hh g1)
   have py:¬(C₃.del (nx σ+1)).own w.heap.size:=fun hh=>hn4 (by
    rcases hh with hh|⟨x,o,hh⟩
    ·exact .inl hh
    ·by_cases hx:x=nx σ+1
     ·simp[Ctx.del,hx]at hh
     ·simp[Ctx.del,hx]at hh;exact .inr ⟨x,o,hh⟩)
   have t:Jb w₃ (w₃.putObj (w.heap.size+1) (.loop { C9 rc (H2 x₀)with state:=.exhausted })) (w.heap.size+1):=gy_ g3 rfl rfl;have e6:=((e5.trans k2).trans m2).turnNew t hnL Om;rw[←B3 σ' (nx σ+1)]at e6
   have jv:SSt E (C₃.del (nx σ+1)) (w₃.putObj (w.heap.size+1) (.loop { C9 rc (H2 x₀)with state:=.exhausted })) ⟨tm,nt,(Ks,[.yl (nx σ),.yl b])::df,σ'.kill (nx σ+1)⟩ { a with defers:=[{ target:=.collected w.heap.size,args:=#[] }]++a.defers }:=by
    refine⟨m1.turn t hnL,st.glob.ext e6,st.tmps.ext e6,st.size,?_⟩
    show DR _ _ _ _ ({ target:=Target.collected w.heap.size,args:=#[] }::a.defers)
    unfold DR;refine⟨.inr ⟨rfl,nx σ,b,rfl,⟨?_,?_,?_⟩,?_,?_,?_,?_⟩,st.dfs.ext e6⟩
    ·show nx σ<nx (σ'.kill _);rw[B3];have:=k2.next;grind
    ·show b<nx (σ'.kill _);rw[B3];have:=k2.next;rw[hnx]at this;have:=hi.1;omega
    ·show(C₃.stm b).toNat<=(C₃.stm (nx σ)).toNat
     have hb6:=e6.stm b hi.1;have hb6:C₃.stm b=C.stm b:=hb6;rw[co,hb6,hi.2.1];exact hi.2.2
    ·show _=({ target:=.collected (C₃.stm (nx σ)).toNat,args:=#[] }:Deferred);grind
    ·show ¬(C₃.del _).own (C₃.stm (nx σ)).toNat;grind
    ·show(w₃.putObj _ _).heap[(C₃.stm (nx σ)).toNat]? =_
     rw[co];exact(t.other w.heap.size Om).trans hd3
    ·intro y hy hk c d hcd;obtain⟨z1,z2⟩:=MB.of_DR st.dfs y hy hk c d hcd;refine⟨ak_ z1 e6.next,?_⟩
     show(C₃.stm c).toNat<(C₃.stm (nx σ)).toNat
     have hb6:C₃.stm c=C.stm c:=e6.stm c z1
     grind
   have hBk:B<=nx (σ'.kill (nx σ+1)):=ai_ hB e6.next
   have hmk:Jt b ((Ks,[.yl (nx σ),.yl b])::df)=true:=by simp[Jt,hm]
   have hE:∀e,Jj x₀=e->Kg E nt b B Q C w e { a with defers:=[{ target:=.collected w.heap.size,args:=#[] }]++a.defers } _:=fun e he=>⟨x₀,tm,ρ,_,_,_,he,ht,bh,jv,hmk,hBk,e6.base hB⟩
   cases x₀ with
   |normal=>exact⟨none,_,run_endLoop (P:=E.P) g3 (by simp[C9,H2]),hE _ rfl⟩
   |ret=>exact⟨some .ret,_,run_endLoop (P:=E.P) g3 (by simp[C9,H2]),wpIn_ret (hE _ rfl)⟩
   |exit id=>exact⟨some (.exit id),_,run_endLoop (P:=E.P) g3 (by simp[C9,H2]),wpIn_exit (hE _ rfl)⟩
  |panicked _=>exact he.elim
  |outgrown=>exact he.elim
end
theorem Arj{E Ls nt b B Q ρ σ Rr id ops}(ops1 ops2){anns}(ew:ops.toList=ops1++ops2)(hok:K6 ops1 ops2=true)(hm:E.P.follows .mixedOrders=true)(hR:Bk E Rr)(ha:Lo E ops1.toArray=some anns)
  (h:TD E nt Rr ops1 ops1 (fun ρ' σ' eps log=>Obl E eps.reverse anns ops1 log.reverse/\TOX E Ls nt b B ops.toList ops2 (fun ρ σ=>Q .normal ρ σ) ρ' σ') ρ σ [σ] []):TX E Ls nt b B (.region id ops true) Q ρ σ:=by
 intro ro n hro Bs C w tm a df h0 hl hmk ht st hB;obtain⟨c1,c2,c3,c4⟩:=Jm ha;obtain⟨d,k1,k2,k3,ρ',log',k4,k5,k6,k7⟩:=h tm df [] ht trivial;refine wpIn_region_any hm ?_
 have hn2:ro=none∨D6 ops2=true:=hro.imp (fun h=>h) fun h=>by
  simp only[H7,ew,D6,List.all_append,ad_]at h;exact h.2
 have hops':ops=(ops1++ops2).toArray:=gr;have hsz:ops.size=ops1.length+ops2.length:=gr
 have cz:(Array.replicate ops.size false)=(Dq ops1++Dq ops2).toArray:=by
  rw[hsz];unfold Dq
  grind
 have mr:(Array.replicate ops1.toArray.size false)=(Dq ops1).toArray:=by
  unfold Dq
  grind
 have pn:Aiu ops1 (Dq ops1)=true:=by
  unfold K6 at hok
  grind
 have mh:∀a' w',Aej E C (nx σ) w [(.normal,d.s)] .normal a' w'->wpAnyIn (Cy ro) n E.P .any (ops1++ops2).toArray (Kg E nt b B Q C w) ops2.length (Jp ops1++Dq ops2).toArray a' w':=by
  intro a' w' he;obtain⟨y,hy,C',h1,h2,h3⟩:=he;rw[ao_]at hy;subst hy;obtain⟨⟨tm',nt',df',σ'⟩,eps',dl'⟩:=d;simp only at k2 k3;subst k2 k3
  have ht0:Dq ops2=X8 ops2 0:=by unfold Dq X8;rw[List.map_const'];simp
  rw[ht0];refine Arh hok ops2.length 0 a' w' Om ?_
  refine k7 ro n hn2 Bs C' w' tm' a' _ (fun hh=>(h0 hh).ext (h3.base hB)) (hl.ext (h3.base hB)) hmk k4 h2 (ai_ hB h3.next) (ops1++ops2).toArray ops1.length (Kg E _ b B Q C w) (by rw[ew]) gr fun C2 w2 a2 tm2 ρ2 σ2 q1 q2 q3 qB q4=>?_
  exact⟨.normal,tm2,ρ2,σ2,C2,_,rfl,q1,q2,q3,hmk,qB,(h3.base hB).trans q4⟩
 have main:wpAnyIn (Cy ro) n E.P .any ops1.toArray (fun e a' w'=>match e with|.normal=>wpAnyIn (Cy ro) n E.P .any (ops1++ops2).toArray (Kg E nt b B Q C w) ops2.length (Jp ops1++Dq ops2).toArray a' w'|e=>Kg E nt b B Q C w e a' w') ops1.toArray.size (Array.replicate ops1.toArray.size false) a { w with drawn:=w.drawn+1 }:=by
  refine Aw7 hm hR st c1 c2 c3 k1 (fun j o t v ho hl hc hg σk hσ=>?_) mh
  obtain⟨ρj,q1,q2⟩:=k5.reverse.get j t v hl;have cv:=Ix (E:=E) (b:=(Region.before ops1.toArray).toList) (effs:=A8 E ops1 0) ops1 0 j o gr;rw[←c4]at cv;simp only[bn_]at cv
  obtain⟨σ',hto⟩:=k6.get j _ o ρj v cv gr q1 hc σk (by simp only[Gc];grind)
  have:=hto t q2;refine⟨σ',?_⟩
  have hne:B5 (Bc E o.op)=false:=by rw[hc];rfl
  rw[←Iy (Rr:=fun _ _ _=>none) hc];grind
 rw[mr]at main
 have jp:ops1.toArray.size=ops1.length:=by simp
 rw[jp]at main
 have ma:=Alc (F:=Cy ro) (n:=n) (P:=E.P) hok (Q:=Kg E nt b B Q C w) (Q1:=fun e a' w'=>match e with|.normal=>wpAnyIn (Cy ro) n E.P .any (ops1++ops2).toArray (Kg E nt b B Q C w) ops2.length (Jp ops1++Dq ops2).toArray a' w'|e=>Kg E nt b B Q C w e a' w') (fun a' w' hh=>hh) gr ops1.length (Dq ops1) a { w with drawn:=w.drawn+1 } (by unfold Dq;simp) pn (by unfold Dq;simp[List.filter_map]) main
 grind
theorem Abx{E Ls nt b B Q ρ σ Rr id ops}(m){anns}(hok:K6 (ops.toList.take m) (ops.toList.drop m)=true)(hm:E.P.follows .mixedOrders=true)(hR:Bk E Rr)(ha:Lo E (ops.toList.take m).toArray=some anns)
  (h:TD E nt Rr (ops.toList.take m) (ops.toList.take m) (fun ρ' σ' eps log=>Obl E eps.reverse anns (ops.toList.take m) log.reverse/\TOX E Ls nt b B ops.toList (ops.toList.drop m) (fun ρ σ=>Q .normal ρ σ) ρ' σ') ρ σ [σ] []):TX E Ls nt b B (.region id ops true) Q ρ σ:=
 Arj _ _ (cc_ m _).symm hok hm hR ha h
theorem DR.und{C N w}:∀{df:List (Nat×List AV)} {ds:List Deferred},DR C N w df ds->∀x∈df,AV.unds N x.2=true
 |[],_,_,x,hx=>by cases hx
 |y::r,d::s,h,x,hx=>by
  unfold DR at h;obtain⟨h,h3⟩:=h
  rcases an_.1 hx with rfl|hx
  ·rcases h with⟨h0,cap,h1,h2⟩|⟨h0,a,b,h1,⟨h2,hb,hle⟩,_⟩
   ·exact RL.unds _ _ h2
   ·rw[h1];simp only[AV.unds,AV.und,Nat.blt_eq,Bool.and_true,ad_];exact⟨h2,hb⟩
  ·exact DR.und h3 x hx
 |_::_,[],h,_,_=>by unfold DR at h;exact h.elim
theorem DR.cut{C N M w}(τ):∀{df:List (Nat×List AV)} {ds:List Deferred},DR C N w df ds->(∀x∈df,AV.unds M x.2=true)->DR (C.keep τ) M w df ds
 |[],[],_,_=>by unfold DR;trivial
 |y::r,d::s,h,hu=>by
  unfold DR at h⊢;obtain⟨h,h3⟩:=h;have hy:=hu y (ap_ ..);refine⟨?_,DR.cut τ h3 fun x hx=>hu x (aj_ _ hx)⟩
  rcases h with⟨h0,cap,h1,h2⟩|⟨h0,a,b,h1,⟨h2,hb,hle⟩,g3,g4,g5,g6⟩
  ·exact .inl ⟨h0,cap,h1,RL.cut (C.keep_sub τ) _ _ hy h2⟩
  ·have hy':=hy;rw[h1]at hy';simp only[AV.unds,AV.und,Nat.blt_eq,Bool.and_true,ad_]at hy';refine .inr ⟨h0,a,b,h1,⟨hy'.1,hy'.2,hle⟩,g3,fun hh=>g4 ((C.keep_sub τ).own hh),g5,fun z hz hk c e hce=>⟨?_,(g6 z hz hk c e hce).2⟩⟩
   have hz':=hu z (aj_ _ hz);rw[hce]at hz';simp only[AV.unds,AV.und,Nat.blt_eq,Bool.and_true,ad_]at hz';exact hz'.1
 |[],_::_,h,_=>by unfold DR at h;exact h.elim
 |_::_,[],h,_=>by unfold DR at h;exact h.elim
theorem SSt.frzD{E}[Se E]{C w tm nt df σ τ a ρ ρ'}(hud:∀x∈df,AV.unds (nx τ) x.2=true)(st:SSt E C w ⟨tm,nt,df,σ⟩ a)(ht:Has tm ρ)(hf:Ds σ τ)(hs:∀i v',Ad.at ρ' i=some v'->∃v,Ad.at ρ i=some v/\Fz σ τ v v'):
  SSt E (C.keep τ) w ⟨Oj ρ',nt,df,τ⟩ a:=by
 refine⟨st.sim.frz hf,Iw.frz st.glob,fun i v hv=>?_,st.size,st.dfs.cut τ hud⟩
 have hv:(Oj ρ').get i=some v:=hv;rw[Mn]at hv;obtain⟨u,h1,h2⟩:=hs i v hv;exact h2.R st.sim (st.tmps i u (ht i u h1))
theorem Aw8{E}[Se E]{nt B df c Q ρ σ}(τ ρ')(hud:∀x∈df,AV.unds (nx τ) x.2=true)(hf:Ds σ τ)(hB:B<=nx τ)(hs:Mm σ τ ρ' ρ)(k:T E nt df B c Q ρ' τ):T E nt df B c Q ρ σ:=
 fun ro n hn C w tm a ht st _=>wpIn_mono (k ro n hn (C.keep τ) w _ a (Kf ρ') (st.frzD hud ht hf hs.at) hB) fun e a' w' he=>he.from (en_ C τ B w)
section
variable {E:Env}{nt B:Nat}{df:List (Nat×List AV)}{K:Ad->Sto->Prop}{ρ:Ad}{σ:Sto}
theorem Amy[Se E]{ops r}(τ ρ')(hud:∀x∈df,AV.unds (nx τ) x.2=true)(hf:Ds σ τ)(hB:B<=nx τ)(hs:∀i v',Ad.at ρ' i=some v'->∃v,Ad.at ρ i=some v/\Fz σ τ v v')(k:TO E nt df B ops r K ρ' τ):TO E nt df B ops r K ρ σ:=
 fun ro n hn C w tm a ht st _ arr i QQ rest h1 h2 hQ=>k ro n hn (C.keep τ) w _ a (Kf ρ') (st.frzD hud ht hf hs) hB arr i QQ rest h1 h2 fun C2 w2 a2 tm2 ρ2 σ2 q1 q2 q3 qB q4=>hQ C2 w2 a2 tm2 ρ2 σ2 q1 q2 q3 qB ((en_ C τ B w).trans q4)
theorem Mp{ops r t d sz agg x}{ty ty':Nat}{pos pos' after after' z cs v}(hz:zI E.P t=some z)(hi:ldI E.P t=some (sz,agg))(hl:Nat.beq z.length sz=true)
  (hx:∀u,Ah E ((d,u)::ρ) x=some v)(hv:Ah E ρ x=some v)(hc:v.cellsN sz=some cs)(hd:Nat.blt d nt=true)[Se E]
  (k:TO E nt df B ops r K ((d,.pv cs)::ρ) σ):
  TO E nt df B ops ({ dst:=some d,op:=.alloc t,type:=ty,pos:=pos,after:=after,guard:=none }::{ dst:=none,op:=.store t (.tmp d) x,type:=ty',pos:=pos',after:=after',guard:=none }::r) K ρ σ:=by
 intro ro n hn C w tm a ht st hB
 have hcs:cs.length=z.length:=by
  have hb:=ac_ hl;have hvR:=Be st.glob st.tmps x;rw[ht.opd hv]at hvR;obtain⟨q1,q2,_⟩:=Hc hc hvR;have:=q1.length;rw[hb];unfold AV.cellsN at hc
  split at hc<;>try (cases hc;done)
  ·cases hb':Nat.beq ‹List AV›.length sz with
   |true=>rw[hb']at hc;cases hc;exact ac_ hb'
   |false=>rw[hb']at hc;cases hc
  ·cases hb':Nat.beq sz 1 with
   |true=>rw[hb']at hc;cases hc;exact(ac_ hb').symm
   |false=>rw[hb']at hc;cases hc
 have hwf:=st.sim.wfs;have hud:=st.dfs.und;have em:∀i u,Ad.at ρ i=some u->AV.und (nx σ) u=true:=fun i u hu=>R.und _ _ (st.tmps i u (ht i u hu))
 have hvu:AV.und (nx σ) v=true:=by
  have hvR:=Be st.glob st.tmps x;rw[ht.opd hv]at hvR;exact R.und _ _ hvR
 have hcu:AV.unds (nx σ) cs=true:=by
  unfold AV.cellsN at hc
  split at hc<;>try (cases hc;done)
  ·cases hb':Nat.beq ‹List AV›.length sz with
   |true=>rw[hb']at hc;cases hc;exact hvu
   |false=>rw[hb']at hc;cases hc
  ·cases hb':Nat.beq sz 1 with
   |true=>rw[hb']at hc;cases hc;simp only[AV.unds,hvu,be_]
   |false=>rw[hb']at hc;cases hc
 have key:TO E nt df B ops ({ dst:=some d,op:=.alloc t,type:=ty,pos:=pos,after:=after,guard:=none }::{ dst:=none,op:=.store t (.tmp d) x,type:=ty',pos:=pos',after:=after',guard:=none }::r) K ρ σ:=by
  refine Qg noR (σ₁:=σ.new (.cells z)) (ρ₁:=(d,.pr (nx σ) 0)::ρ) (fun tm' ht'=>⟨_,S9 hz hd,ht'.put d _⟩) ?_
  refine X4 noR rfl rfl (By (vs:=z) (vs':=cs) (ad:=nx σ) (off:=0) (v:=v) (cs:=cs) hi (by simp[Ah,Ad.at,aw_]) (hx _) hc Eg (Hh hcs)) ?_
  simp only[Dt];refine Amy σ ((d,.pv cs)::ρ) hud ?_ hB ?_ k
  ·refine a_ hwf (by rw[Aq,Ao];exact dm_ _) fun b hb=>?_
   rw[aa_,if_neg Om,ag_,if_neg Om]
  ·intro i u hu;simp only[Ad.at]at hu⊢;cases hb:Nat.beq d i with
   |true=>
    rw[hb]at hu;simp only[cond_true,af_]at hu⊢;subst hu
    refine⟨_,rfl,.pr (vs:=cs) (by rw[aa_,if_pos rfl]) ?_ (dj_ hcu)⟩
    cases hg:σ.get (nx σ)with
    |none=>rfl
    |some O=>exact absurd (hwf _ _ hg).1 (Nat.lt_irrefl _)
   |false=>rw[hb]at hu;exact⟨u,hu,.same (em i u hu)⟩
 exact key ro n hn C w tm a ht st hB
theorem Aby[Se E]{c Q}(τ ρ')(hf:Ds σ τ)(hn:nx τ=nx σ)(hs:Mm σ τ ρ' ρ)(k:T E nt df B c Q ρ' τ):T E nt df B c Q ρ σ:=
 fun ro n hr C w tm a ht st hB=>Aw8 τ ρ' (by rw[hn];exact st.dfs.und) hf (by rw[hn];exact hB) hs k ro n hr C w tm a ht st hB
theorem Oo{Ls b c Q}(h:TX E Ls nt b B c (fun x ρ σ=>WFS σ->Q x ρ σ) ρ σ):TX E Ls nt b B c Q ρ σ:=fun ro n hr Bs C w tm a df h0 hl hm ht st hB=>
 wpIn_mono (h ro n hr Bs C w tm a df h0 hl hm ht st hB) fun e a' w' ⟨x,tm',ρ',σ',C',df',h1,h2,h3,h4,h5⟩=>⟨x,tm',ρ',σ',C',df',h1,h2,h3 h4.sim.wfs,h4,h5⟩
end
end Go.AM
