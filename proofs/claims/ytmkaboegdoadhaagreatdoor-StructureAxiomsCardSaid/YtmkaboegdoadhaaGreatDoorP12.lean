/- A part of the proof; shortened by program. -/
import Derived.Test.YtmkaboegdoadhaaGreatDoorP11
set_option maxRecDepth 100000
set_option maxHeartbeats 4000000
set_option linter.all false
namespace Go.AM
open Go
section
variable {E:aZ}{nt B b:Nat}{Q Q':Cc}{ρ ρ':Ad}{J:F}
end
def H7:Code->Bool
 |.region _ c _=>D6 c.toList
 |.seq a b=>H7 a&&H7 b
 |.cond _ a b=>H7 a&&H7 b
 |.block _ a=>H7 a
 |.loop a=>H7 a
 |.scope a=>H7 a
 |.rangeFunc _ _ _ _=>false
 |_=>true
def LI(a:List RF)(C:aO)(N:Nat)(w:World):Prop:=∀L∈a,Gk L C N w
theorem LI.ext{b C a N J w c}(h:LI b C N w)(e:bC C N w a J c):LI b a J c:=λL d=>(h L d).ext e
def Kg(E:aZ)(j b B:Nat)(Q:Cc)(C:aO)(w:World):Exit->Act->World->Prop:=λe i h=>
 ∃x a c d f g,Jj x=e/\Has a c/\Q x c d/\cV E f h ⟨a,j,g,d⟩ i/\Jt b g=true/\B<=O d/\bC C B w f B h
def TX(E:aZ)(j:List RF)(g b B:Nat)(c:Code)(Q:Cc)(f:Ad)(J:F):Prop:=
 ∀(d:Option Nat) (n:Nat),(d=none\/H7 c=true)->∀(i:Nat) (C:aO) (w:World) (h:Tr I) (a:Act) (e:List (Nat×List I)),(d=none->Gl b i C B w)->LI j C B w->Jt b e=true->Has h f->cV E C w ⟨h,g,e,J⟩ a->B<=O J->
  c.wpIn (Cy d) n E.P (Kg E g b B Q C w) a w
section
variable {E:aZ}{Ls:List RF}{nt b B:Nat}{Q Q':Cc}{ρ ρ':Ad}{J J':F}
theorem Kg.mono{C w e a f}(h:Kg E nt b B Q C w e a f)(y:∀x g J,Q x g J->Q' x g J):Kg E nt b B Q' C w e a f:=by
 obtain⟨x,c,d,j,i,k,l,m,n,o⟩:=h;exact⟨x,c,d,j,i,k,l,m,y _ _ _ n,o⟩
theorem Kg.from{C R w c e a g}(h:Kg E nt b B Q C w e a g)(W:bC R B c C B w):Kg E nt b B Q R c e a g:=by
 obtain⟨x,d,f,j,i,k,l,m,n,o,r,q,p⟩:=h;exact⟨x,d,f,j,i,k,l,m,n,o,r,q,W.trans p⟩
theorem Dy{c}(h:∀d,T E nt d B c Q ρ J)(S:H7 c=Ln c:=by kernel_rfl):TX E Ls nt b B c Q ρ J:=λv n t K C w G a d _ _ s u y r=>
 wpIn_mono (h d v n (t.imp (λh=>h) Z) C w G a u y r) λe L N ⟨x,g,i,k,j,l,m,o,p,f,q⟩=>⟨x,g,i,k,j,d,l,m,o,p,s,f,q⟩
theorem TX.mono{c}(h:TX E Ls nt b B c Q ρ J)(y:∀x ρ J,Q x ρ J->Q' x ρ J):TX E Ls nt b B c Q' ρ J:=λq n o Bs C w s a g h0 l hm ht st j=>wpIn_mono (h q n o Bs C w s a g h0 l hm ht st j) λe a' u he=>he.mono y
theorem Gi{c}(h:bY J->TX E Ls nt b B c Q ρ J):TX E Ls nt b B c Q ρ J:=λo n l e C w p a f g j k m d i=>h d.sim.wfs o n l e C w p a f g j k m d i
theorem Jw(h:Q .normal ρ J):TX E Ls nt b B .skip Q ρ J:=Dy λ_=>GO h
theorem Ux{n}(h:Q (.exit n) ρ J):TX E Ls nt b B (.exit n) Q ρ J:=Dy λ_=>HC h
theorem Th(h:Q .ret ρ J):TX E Ls nt b B .ret Q ρ J:=Dy λ_=>ES h
theorem Cf{x y}(h:TX E Ls nt b B x (Pa (TX E Ls nt b B y Q) Q) ρ J):TX E Ls nt b B (.seq x y) Q ρ J:=by
 intro v n q r C w X a L t u S T W P;simp only[H7,bg]at q;refine wpIn_seq (wpIn_mono (h v n (q.imp (λh=>h) (·.1)) r C w X a L t u S T W P) λe G w' p=>?_)
 obtain⟨x',g,j,s,k,c,N,l,m,o,f,d,i⟩:=p;subst N;cases x' with
 |normal=>exact wpIn_mono (m v n (q.imp (λh=>h) (·.2)) r k w' g G c (λR=>(t R).ext i) (u.ext i) f l o d) λe K a7 p=>p.from i
 |exit U=>exact⟨.exit U,g,j,s,k,c,rfl,l,m,o,f,d,i⟩
 |ret=>exact⟨.ret,g,j,s,k,c,rfl,l,m,o,f,d,i⟩
theorem IF{x y:Code}(h:∀a,T E nt a B x (Pa (TX E Ls nt b B y Q) Q) ρ J)(S:H7 x=Ln x:=by kernel_rfl):TX E Ls nt b B (.seq x y) Q ρ J:=Cf (Dy h S)
theorem A0{c x y v}(P:Ah E ρ c=some (.bool v))(u:v=true->TX E Ls nt b B x Q ρ J)(r:v=false->TX E Ls nt b B y Q ρ J):TX E Ls nt b B (.cond c x y) Q ρ J:=by
 intro p n f i C w q a j k m o g e l;simp only[H7,bg]at f;have d:=Be e.glob e.tmps c;rw[g.opd P]at d;unfold R at d;cases v with
 |true=>exact wpIn_cond_true d (u rfl p n (f.imp (λh=>h) (·.1)) i C w q a j k m o g e l)
 |false=>exact wpIn_cond_false d (r rfl p n (f.imp (λh=>h) (·.2)) i C w q a j k m o g e l)
theorem Qn{v c}(h:TX E Ls nt b B c (Qf v Q) ρ J):TX E Ls nt b B (.block v c) Q ρ J:=by
 intro T n R u C w W a x y N P S U K;refine wpIn_block (wpIn_mono (h T n R u C w W a x y N P S U K) λe a' w' L=>?_)
 obtain⟨X,i,k,o,m,d,G,p,l,q,g,f,r⟩:=L;subst G;cases X with
 |normal=>exact⟨.normal,i,k,o,m,d,rfl,p,l,q,g,f,r⟩
 |ret=>exact⟨.ret,i,k,o,m,d,rfl,p,l,q,g,f,r⟩
 |exit j=>
  simp only[Qf]at l
  by_cases t:j=v
  ·subst t;rw[cb]at l;simp only[Jj,Exit.inBlock,if_true];exact⟨.normal,i,k,o,m,d,rfl,p,l,q,g,f,r⟩
  ·have s:Nat.beq j v=false:=by cases s:Nat.beq j v with|true=>exact absurd (bK s) t|false=>rfl
   rw[s]at l;simp only[Jj,Exit.inBlock,if_neg t];exact⟨.exit j,i,k,o,m,d,rfl,p,l,q,g,f,r⟩
theorem Aun{c}(q:Nat->Ad->F->Prop)(n)(h0:∃ρ',Km ρ' ρ/\q n ρ' J)
  (hs:∀n ρ J,q n ρ J->TX E Ls nt b B c (Pa (λρ' R=>∃m g,m<n/\Km g ρ'/\q m g R) Q) ρ J):TX E Ls nt b B (.loop c) Q ρ J:=by
 intro N m hn;have key:∀(n:Nat) (ρ:Ad) (J:F),q n ρ J->∀(y:Nat) (C:aO) (w:World) (tm:Tr I) (a:Act) (df:List (Nat×List I)),(N=none->Gl b y C B w)->LI Ls C B w->Jt b df=true->Has tm ρ->cV E C w ⟨tm,nt,df,J⟩ a->B<=O J->∀(f:Frame) (k:List Item) (p:List Frame),f.roundOf=(Cy N).round->(Cy N).fn f.fn->(Cy N).room (p.length+1+m)->
   ∃e a' w',Kg E nt b B Q C w e a' w'/\ArrivesIn (Machine.fenced E.P (Cy N)) E.P (lone (f.atR a (.code c::.inLoop c::k)) p w) f k p e a' w':=by
  intro n
  induction n using Nat.strongRecOn with
  |_ n ih=>
   intro ρ J hI y C w tm a df hb hl hm ht st hB f k p l K hr;obtain⟨e,a₁,w₁,hq,T⟩:=hs n ρ J hI N m hn y C w tm a df hb hl hm ht st hB f (.inLoop c::k) p l K hr;obtain⟨x',tm',ρ',R,C',df',h1,h2,h3,h4,hm',s,W⟩:=hq;subst h1;cases x' with
   |normal=>
    obtain⟨m,g,a8,cc,hI'⟩:=h3;obtain⟨e₂,a₂,w₂,u,i⟩:=ih m a8 g R hI' y C' w₁ tm' a₁ df' (λhh=>(hb hh).ext W) (hl.ext W) hm' (h2.subL cc) h4 s f k p l K hr
    exact⟨e₂,a₂,w₂,u.from W,.of_steps (StepsIn.trans T (.one (fenced_calm K hr rfl) stepR_inLoop)) i⟩
   |exit id=>exact⟨.exit id,a₁,w₁,⟨_,tm',ρ',R,C',df',rfl,h2,h3,h4,hm',s,W⟩,.pass (x:=.inLoop c) rfl (λ_ _=>.inl (by simp)) T⟩
   |ret=>exact⟨.ret,a₁,w₁,⟨_,tm',ρ',R,C',df',rfl,h2,h3,h4,hm',s,W⟩,.pass (x:=.inLoop c) rfl (λ_ _=>.inl (by simp)) T⟩
 intro y C w tm a df hb hl hm ht st hB f k p l K hr;obtain⟨ρ',cc,hI⟩:=h0;obtain⟨e,a',w',hq,T⟩:=key n ρ' J hI y C w tm a df hb hl hm (ht.subL cc) st hB f k p l K hr;exact⟨e,a',w',hq,.of_steps (.one (fenced_calm K hr rfl) stepR_loop) T⟩
theorem Hz{α:Type}{c}(ρI:α->Ad)(P:α->F->Prop)(d:α->Nat)(e)(h0:Km (ρI e) ρ)(h1:P e J)
  (j:∀a J,P a J->TX E Ls nt b B c (Pa (λh i=>∃f,d f<d a/\Km (ρI f) h/\P f i) Q) (ρI a) J):TX E Ls nt b B (.loop c) Q ρ J:=by
 refine Aun (λn ρ J=>∃a,n=d a/\ρ=ρI a/\P a J) (d e) ⟨ρI e,h0,e,rfl,rfl,h1⟩ ?_
 grind
def YX(E:aZ)(j:List RF)(L:RF)(c:List I)(J:F)(b:XE->F->Prop):Prop:=
 ∀(C:aO) (w:World) (g:Array Value),LI j C (O J) w->Gk L C (O J) w->aX E.P C w J->Iw C (O J) w E->RL C (O J) w c g.toList->
  ∃r,w.heap[(C.stm L.aY).toNat]? =some (.loop (C9 r .ready))/\g.size=r.params.size/\∀k n,RoundIn (Cy k) n E.P (C.stm L.aY).toNat r.fn ((r.params.zip g).foldl (λd (t,a)=>d.setIfInBounds t a) r.tmps) r.assign r.body w λe i=>
   ∃x f h,b x f/\e=.returned (.bool (Iu x))/\aX E.P h i f/\bC C (O J) w h (O f) i
theorem Tk{L aq q o}(hL:Has L.tm aq)(hl:q.length=L.ps.toList.length)(d9:L.ps.toList.all (λp=>Nat.blt p L.nt)=true)(d4:H7 L.assign=true)(d5:H7 L.body=true)(db:J.get L.aY=some (.loop .ready))(G:L.aY<O J)
  (h:TX E Ls L.nt 0 (O J) L.assign (λ|.normal=>λN b=>b.get L.aY=some (.loop .ready)/\TX E Ls L.nt 0 (O J) L.body (λx _ S=>S.get L.aY=some (.loop .busy)/\o x (S.set L.aY (.loop (H2 x)))) N (b.set L.aY (.loop .busy))|_=>λ_ _=>False) (Amv L.ps.toList q aq) J):
  YX E Ls L q J o:=by
 intro C w vs al hi hs H bp;obtain⟨kr,X,r,bz,au,ey,hp,aw,ax⟩:=hi;obtain⟨c,r',h1,h2,h3⟩:=hs.obj _ _ db;rw[bz]at h2;cases h2;have hc:=X c 0 h1;subst hc;obtain⟨q1,an,q0,q2,q3⟩:=Qk (nt:=L.nt) hl d9 hL au ey bp
 have jj:(L.ps.toList.zip vs.toList).foldl (λtmps (t,a)=>tmps.setIfInBounds t a) r.tmps=(L.ps.zip vs).foldl (λtmps (t,a)=>tmps.setIfInBounds t a) r.tmps:=by
  rw[<-KI,Array.toList_zip]
 rw[jj]at q2 q3;refine⟨r,h3,Z,λro n=>?_⟩
 refine roundIn_of_wpIn (F:=Cy ro) trivial ?_;rw[aw,ax,hp]
 have ij:cV E C w ⟨an,L.nt,[],J⟩ { tmps:=(L.ps.zip vs).foldl (λtmps (t,a)=>tmps.setIfInBounds t a) r.tmps,defers:=[] }:=⟨hs,H,q2,q3,by unfold DR;trivial⟩
 refine wpIn_mono (h (some (C.stm L.aY).toNat) n (.inr d4) 0 C w an _ [] Z al rfl q0 ij Y) λe ak W hq=>?_
 obtain⟨ap,K,N,b,m,s,ag,af,l,d,a9,y,j⟩:=hq;subst ag;cases ap with
 |ret=>exact l.elim
 |exit _=>exact l.elim
 |normal=>
  obtain⟨R,ce⟩:=l;obtain⟨T,g,j1,j2,j3,j4,j5⟩:=d.sim.turnLoop R .busy
  have ac:g=r:=by
   have:=j.lr _ G
   grind
  subst ac;have a7:T=(C.stm L.aY).toNat:=X T 0 (j.loc _ G _ j1);subst a7;refine⟨_,run_beginRound j3 rfl,?_⟩;have ah:cV E m (W.putObj (C.stm L.aY).toNat (.loop (C9 g .busy))) ⟨K,L.nt,s,b.set L.aY (.loop .busy)⟩ ak:=
   ⟨j4,by show Iw _ (O (b.set _ _)) _ _;rw[Aq];exact d.glob.ext j5,by show TR _ (O (b.set _ _)) _ _ _;rw[Aq];exact d.tmps.ext j5,d.size,by show DR _ (O (b.set _ _)) _ _ _;rw[Aq];exact d.dfs.ext j5⟩
  have Q:LI Ls m (O J) (W.putObj (C.stm L.aY).toNat (.loop (C9 g .busy))):=(al.ext j).ext (j5.base y);refine wpIn_mono (ce (some (C.stm L.aY).toNat) n (.inr d5) 0 m _ K _ s Z Q a9 af ah Z) λe kf ao hq=>?_
  obtain⟨k,iw,j0,jc,aj,ar,ag,gz,aa,ai,cx,B,u⟩:=hq;subst ag;obtain⟨ay,bh⟩:=aa;have i:∀(f:Option Code),C9 g (H2 k)={ C9 g .busy with state:=if f.isNone then .ready else .done,pending:=f }->Iu k=f.isNone->
    ∃v w',(Instr.endRound (C.stm L.aY).toNat f).run E.P ao=.ok v w'/\∃x J' C',o x J'/\Ending.returned v=.returned (.bool (Iu x))/\aX E.P C' w' J'/\bC C (O J) w C' (O J') w':=by
   intro f dg bx;obtain⟨U,am,m1,m2,m3,m4,m5⟩:=ai.sim.turnLoop ay (H2 k)
   have ae:am=g:=by
    have:=u.lr _ G
    grind
   subst ae;have a8:U=(C.stm L.aY).toNat:=X U 0 (j.loc _ G _ (u.loc _ G _ m1));subst a8;have da:=run_endRound (P:=E.P) f m3;rw[<-dg]at da
   refine⟨_,_,da,k,_,aj,bh,by rw[bx],m4,?_⟩
   rw[Aq];exact(((j.trans (j5.base y)).trans u).trans (m5.base B)).top B
  cases k with
  |normal=>exact i none rfl rfl
  |ret=>exact i (some .ret) rfl rfl
  |exit id=>exact i (some (.exit id)) rfl rfl
def iZ(E:aZ)(u:List RF)(q b B:Nat)(G r:List Oper)(K:Ad->F->Prop)(f:Ad)(J:F):Prop:=
 ∀(k:Option Nat) (n:Nat),(k=none\/D6 r=true)->∀(t:Nat) (C:aO) (w:World) (s:Tr I) (a:Act) (h:List (Nat×List I)),(k=none->Gl b t C B w)->LI u C B w->Jt b h=true->Has s f->cV E C w ⟨s,q,h,J⟩ a->B<=O J->∀(c:Array Oper) (i:Nat) (o:Exit->Act->World->Prop),c.toList=G->(∀j,j<r.length->r[j]? =c[i+j]?)->
  (∀m l p d e g,Has d e->K e g->cV E m l ⟨d,q,h,g⟩ p->B<=O g->bC C B w m B l->o .normal p l)->wpOpsIn (Cy k) n E.P c o (List.range' i r.length) a w
variable {K:Ad->F->Prop}{ops r:List Oper}
theorem Er{id ops}(h:iZ E Ls nt b B ops.toList ops.toList (λρ J=>Q .normal ρ J) ρ J):TX E Ls nt b B (.region id ops false) Q ρ J:=by
 intro ro n hr i C w tm a df h0 t g x K hB;refine wpIn_region ?_;rw[zM,<-kE];exact h ro n hr i C w tm a df h0 t g x K hB ops 0 (Kg E nt b B Q C w) rfl Z λC' w' N c e k m h2 p h4 r=>⟨.normal,c,e,k,C',df,rfl,m,h2,p,g,h4,r⟩
theorem Uy(h:K ρ J):iZ E Ls nt b B ops [] K ρ J:=by
 intro r n _ k C w j a m o p q f g d c i l _ _ e;simp only[lP,JX,wpOpsIn];exact e C w a j ρ J f h g d (dJ _ _ _)
theorem Ale{g}(h:∀e,TO E nt e B ops g (λd p=>iZ E Ls nt b B ops r K d p) ρ J):iZ E Ls nt b B ops (g++r) K ρ J:=by
 intro t n k u C w tm a e N hl hm ht st T c i q s hr U;rw[gW,<-List.range'_append_1];simp only[D6,List.all_append,bg]at k;refine h e t n (k.imp (λh=>h) (·.1)) C w tm a ht st T c i q _ s (λj X=>?_) λv w' G l d p P Q R S f=>?_
 ·grind
 ·refine Q t n (k.imp (λh=>h) (·.2)) u v w' l G e (λW=>(N W).ext f) (hl.ext f) hm P R S c (i+g.length) q s (λj X=>?_) λx w2 L m o y q1 q2 q3 qB q4=>U x w2 L m o y q1 q2 q3 qB (f.trans q4)
  have:=hr (g.length+j) Z
  grind
theorem Gm(m)(h:∀d,TO E nt d B ops (r.take m) (λa c=>iZ E Ls nt b B ops (r.drop m) K a c) ρ J):iZ E Ls nt b B ops r K ρ J:=by
 rw[<-gK m r];exact Ale h
theorem Lg{L o f args}{a9:Array Nat}{vs c}(hL:L∈Ls)(H:∀tm,Has tm ρ->Bn ops o tm=some true)(m:o.op=.call ⟨.value f,args,a9⟩)(hd:B0 nt o.dst=true)(hf:Ah E ρ f=some (.yl L.aY))(ha:Kc E ρ args.toList=some vs)
  (hy:YX E Ls L vs J c)(k:∀x p,c x p->O J<=O p->iZ E Ls nt b B ops r K (Dt o.dst (.bool (Iu x)) ρ) p):iZ E Ls nt b B ops (o::r) K ρ J:=by
 intro W n hn Bs C w tm a df h0 hl hm T d q g i QQ br hr hQ
 have ho:g[i]? =some o:=by have:=hr 0 zS;grind
 simp only[cZ,kI,wpOpsIn,ho];have hw:Region.wanted o (yielded g a.tmps)=true:=Dp d.tmps Z;rw[if_pos hw]
 have ac:Ra o.op=false:=by rw[m];rfl
 have s:=Be d.glob d.tmps f;rw[T.opd hf]at s;unfold R at s;obtain⟨s,_⟩:=s;have hA:=Dm d.glob d.tmps args.toList;rw[T.opds ha]at hA
 have G:RL C (O J) w vs (args.map a.eval).toList:=by simp only[c_];exact hA
 have u:LI Ls C (O J) w:=hl.ext ((dJ C B w).top q);obtain⟨v,fa,S,ca⟩:=hy C w _ u (u L hL) d.sim d.glob G;have U:=run_yield (P:=E.P) (args:=args.map a.eval) fa S
 have bq:(execOp a.eval o).run E.P w=.ok (.round (C.stm L.aY).toNat v.fn ((v.params.zip (args.map a.eval)).foldl (λy (t,a)=>y.setIfInBounds t a) v.tmps) v.assign v.body) w:=by
  simp[execOp,m,resolve,s,Deferred.ofValue,invoke]
  simpa[C9]using U
 refine⟨λ_ _=>trivial,?_⟩
 rw[Oper.semAt_eq _ _ _ Z,bq,Oper.uponIn_round]
 refine⟨λN=>(by cases N),(ca W (n-1)).mono λe w' he=>?_⟩
 obtain⟨x,p,C',hp,rfl,k1,l⟩:=he;obtain⟨a7,h1,h2⟩:=C6 (nt:=nt) (dst:=o.dst) hd T (.bool (Iu x))
 have X:=d.put (x:=.bool (Iu x)) k1 l (by unfold R;rfl) h1
 have Q:W=none\/D6 r=true:=hn.imp (λh=>h) λh=>by simp only[D6,gX,bg]at h;exact h.2
 exact k x p hp l.next W n Q Bs C' w' a7 _ df (λN=>(h0 N).ext (l.base q)) (hl.ext (l.base q)) hm h2 X (bD q l.next) g (i+1) QQ br (λj hj=>by have:=hr (j+1) Z;grind)
  λC2 w2 a2 a8 aa J2 q1 q2 q3 qB q4=>hQ C2 w2 a2 a8 aa J2 q1 q2 q3 qB ((l.base q).trans q4)
def Hl(E:aZ)(h:List RF)(f:Nat)(b:List I)(J:F)(a:I->F->Prop):Prop:=
 ∀(C:aO) (w:World) (g:Array Value),LI h C (O J) w->aX E.P C w J->Iw C (O J) w E->RL C (O J) w b g.toList->
  yr E.P f/\Calls E.P f g w λ
   |.returned x,e=>∃v c d,a v c/\aX E.P d e c/\bC C (O J) w d (O c) e/\R d (O c) e v x
   |_,_=>False
theorem Hl.to{f b a}(h:Hl E [] f b J a):Al E f b J a:=λC w d=>h C w d (λ_ c=>by cases c)
abbrev sg:=@Hl.to
theorem Hl.mono{f b a x}(h:Hl E Ls f b J a)(k:∀v c,a v c->x v c):Hl E Ls f b J x:=by
 intro C w m j l H i;obtain⟨d,g⟩:=h C w m j l H i;refine⟨d,g.mono λe o n=>?_⟩
 grind
abbrev mB:=@Hl.mono
theorem L5{o f c}{a8:Array Nat}{k:Nat}{first y vs t d}(H:∀W,Has W ρ->Bn ops o W=some true)(m:o.op=.call ⟨.value f,c,a8⟩)(hd:B0 nt o.dst=true)
  (hf:Ah E ρ f=some (.fn (.func k) first y))(ha:Kc E ρ c.toList=some vs)(mn:first++vs++y=t)(hc:Hl E Ls k t J d)
  (kk:∀v u,d v u->O J<=O u->iZ E Ls nt b B ops r K (Dt o.dst v ρ) u):iZ E Ls nt b B ops (o::r) K ρ J:=by
 intro ro n hn Bs C w W a df h0 hl hm U g G l i QQ br hr hQ
 have ho:l[i]? =some o:=by have:=hr 0 zS;grind
 simp only[cZ,kI,wpOpsIn,ho];have hw:Region.wanted o (yielded l a.tmps)=true:=Dp g.tmps Z;rw[if_pos hw]
 refine Ev (.inr (by rw[m];rfl)) ?_
 have L:=Be g.glob g.tmps f;rw[U.opd hf]at L;unfold R at L;obtain⟨p,q,L,hp,hq⟩:=L;have bp:=Dm g.glob g.tmps c.toList;rw[U.opds ha]at bp
 have bs:RL C (O J) w t (p++c.map a.eval++q).toList:=by
  subst mn;simp only[pM,c_];exact(hp.append bp).append hq
 have S:LI Ls C (O J) w:=hl.ext ((dJ C B w).top G);obtain⟨⟨fn,g1,g2,g3⟩,b8⟩:=hc C w _ S g.sim g.glob bs
 have bq:(execOp a.eval o).run E.P w=.ok (.enter k (p++c.map a.eval++q)) w:=by
  have N:fn.name≠ "runtime.NumGoroutine" :=Z;have P:fn.body≠none:=Z
  simp[execOp,m,resolve,L,Deferred.ofValue,invoke,callFunc,g1,N,P]
 unfold Oper.wp;rw[bq,Oper.upon_enter];refine b8.mono λe w' Q=>?_
 have T:ro=none\/D6 r=true:=hn.imp (λh=>h) λh=>by simp only[D6,gX,bg]at h;exact h.2
 cases e with
 |returned x=>
  obtain⟨v,u,C',k0,k1,s,k3⟩:=Q;obtain⟨X,h1,h2⟩:=C6 (dst:=o.dst) hd U v
  exact kk v u k0 s.next ro n T Bs C' w' X _ df (λhh=>(h0 hh).ext (s.base G)) (hl.ext (s.base G)) hm h2 (g.put k1 s k3 h1) (bD G s.next) l (i+1) QQ br (λj hj=>by have:=hr (j+1) Z;grind)
   λC2 w2 a2 a7 a9 J2 q1 q2 q3 qB q4=>hQ C2 w2 a2 a7 a9 J2 q1 q2 q3 qB ((s.base G).trans q4)
 |panicked _=>exact Q.elim
 |outgrown=>exact Q.elim
theorem Ae3{X C₀ e N₀ f tm J U n W}(hb:(e.stm b).toNat=f.heap.size)
  (K:∀w,aX E.P e w U->TR e (O U) w tm J->bC C₀ N₀ f e (O U) w->LeavesInM Fence.wide n E.P X J W [] .returning w):
  ∀(p:List (Nat×List I)) (g:List Deferred) (w:World),Jt b p=true->DR e (O U) w p g->aX E.P e w U->TR e (O U) w tm J->bC C₀ N₀ f e (O U) w->LeavesInM Fence.wide n E.P X J W g .returning w
 |[],[],w,_,_,S,T,C=>K w S T C
 |[],_::_,_,_,m,_,_,_=>by unfold DR at m;grind
 |_::_,[],_,_,m,_,_,_=>Z
 |x::p,d::g,w,o,m,S,T,C=>by
  unfold DR at m;obtain⟨m,L⟩:=m;obtain⟨k,l⟩:=x
  have hk:k=Ks/\∃j,l=[.yl j,.yl b]/\Jt b p=true:=by
   unfold Jt at o
   split at o
   ·grind
   ·rename_i N
    cases N;simp only[bg]at o
    exact⟨bK o.1.1,_,by rw[bK o.1.2],o.2⟩
   grind
  obtain⟨rfl,j,rfl,Q⟩:=hk
  rcases m with⟨h0,_⟩|⟨h0,a1,b1,h1,⟨h2,h3,h4⟩,h5,h6,h7,h8⟩
  ·grind
  ·simp only[pw,I.yl.injEq,and_true]at h1;obtain⟨rfl,rfl⟩:=h1;rw[h5]
   refine⟨by simp,.inl ⟨_,_,rfl,run_takeDeferred h7,?_⟩⟩
   have t:Jb w (w.putObj (e.stm j).toNat (.deferred none)) (e.stm j).toNat:=KW h7 rfl rfl;have P:f.heap.size<=(e.stm j).toNat:=Z
   have dr:∀{r:List (Nat×List I)} {g:List Deferred},MB e (O U) r (e.stm j).toNat->DR e (O U) w r g->DR e (O U) (w.putObj (e.stm j).toNat (.deferred none)) r g:=by
    intro r
    induction r with
    |nil=>intro g _ h;cases g<;>unfold DR at h⊢<;>first|trivial|exact h
    |cons x r ih=>
     intro g q h;cases g with
     |nil=>unfold DR at h;exact h.elim
     |cons d g=>
      unfold DR at h⊢;refine⟨?_,ih (λy hy=>q y (ch _ hy)) h.2⟩
      rcases h.1 with⟨s,B,u,G⟩|⟨s,a,c,u,G,g3,g4,g5,g6⟩
      ·exact .inl ⟨s,B,u,RL.turn t _ _ G⟩
      ·refine .inr ⟨s,a,c,u,G,g3,g4,?_,g6⟩;have:=(q x (cX ..) s a c u).2;rw[t.other _ z];exact g5
   exact Ae3 hb K p g _ Q (dr h8 L) (S.turn t h6) (λi v hv=>R.turn t _ _ (T i v hv)) (C.turnNew t h6 P)
theorem Mo{f fn c a d}(N:E.P.funcs[f]? =some fn)(b:(fn.name== "runtime.NumGoroutine")=false)(hc:fn.body=some c)(q:Nat.ble a.length fn.ntmps=true)
  (h:bY J->I.unds (O J) a=true->TX E Ls fn.ntmps (O J) (O J+1) c (AD (jI E fn (O J) d)) (Hg a 0) J.bump):Hl E Ls f a J d:=by
 intro C w vs hl U H Q;refine⟨⟨fn,N,b,Z⟩,?_⟩;have q:=dB q;obtain⟨s1,l⟩:=U.bump (w.heap.size:Int);rw[<-Bm]at l;refine(callsIn_wide (n:=1)).1 (callsIn_of_wp_marks N hc trivial ?_)
 have T:Gl (O J) w.heap.size (C.addStm (O J) (w.heap.size:Int)) (O J+1) w:=⟨by omega,by simp[aO.addStm],Y⟩
 have ht:Has (Kz a 0 .e) (Hg a 0):=λi v hv=>by
  rw[Ig];rw[L3]at hv
  grind
 have st:=Ur (E:=E) (fn:=fn) s1 (H.ext l) (RL.ext l _ _ Q) q
 have B:LI Ls (C.addStm (O J) (w.heap.size:Int)) (O J+1) w:=by rw[<-Bm];exact hl.ext l
 refine wpIn_mono (h U.wfs (RL.unds _ _ Q) none 1 (.inl rfl) w.heap.size _ w _ _ [] (λ_=>T) B rfl ht st Z) λe P g he=>?_
 obtain⟨x,a7,L,m,j,X,h1,h2,r,s,t,hB,S⟩:=he;subst h1;rw[Bm]at l;have W:bC C (O J) w j (O J+1) g:=l.trans S;have u:Gl (O J) w.heap.size j (O J+1) g:=T.ext S;have o:jI E fn (O J) d L m->LeavesInM Fence.wide 1 E.P fn P.tmps (λ
   |.returned x,g=>∃v k j,d v k/\aX E.P j g k/\bC C (O J) w j (O k) g/\R j (O k) g v x
   |_,_=>False) P.defers .returning g:=by
  intro hx;obtain⟨K,r1,v',k,r2,r3,r4,r5⟩:=hx;refine Ae3 (C₀:=C) (N₀:=O J) u.2.1 (λp G q2 q3=>?_) X _ g t s.dfs s.sim s.tmps ((W.base Y).top (bD (kG _) hB))
  show LeavesIn _ _ _ _ _ _ [] .returning _
  obtain⟨y,k1,k2⟩:=Hx (fn:=fn) G q2 (S8 h2 r1);exact⟨y,k1,v',k,_,r5,G.frz r2,((q3.base Y).trans (qL j k _ p)).top r3,r4.R G k2⟩
 cases x with
 |normal=>exact o r
 |ret=>exact o r
 |exit id=>exact r.elim
theorem L6{k:Nat}{f ps assign body X}(hf:Ah E ρ f=some (.fn (.func k) [] X))
  (hit:∀tm,Has tm ρ->Hl E (⟨O J+1,tm,nt,ps,assign,body⟩::Ls) k (.yl (O J+1)::X) (J.bump.new (.loop .ready)) (λ_ U=>∃x,U.get (O J+1)=some (.loop (H2 x))/\Q x ρ (U.kill (O J+1)))):
  TX E Ls nt b B (.rangeFunc f ps assign body) Q ρ J:=by
 intro ro n hr Bs C w tm a df h0 hl hm ht st hB
 have hr:ro=none:=hr.resolve_right (by simp[H7])
 subst hr;have hi:Gl b Bs C (O J) w:=(h0 rfl).ext ((dJ C B w).top hB);have hl0:LI Ls C (O J) w:=hl.ext ((dJ C B w).top hB);have hV:=Be st.glob st.tmps f;rw[ht.opd hf]at hV;unfold R at hV;obtain⟨p0,lb,hV,bx,au⟩:=hV
 have jk:p0=#[]:=by
  have:=bx.length
  grind
 subst jk;refine wpIn_rangeFunc λfn _=>?_
 obtain⟨s,hrc⟩:∃s:Loop,s={ state:=.ready,pending:=none,fn,tmps:=a.tmps,params:=ps,assign,body,defers:=w.heap.size }:=⟨_,rfl⟩
 have jm:C9 s .ready=s:=by rw[hrc];rfl
 obtain⟨W0,hW0⟩:∃W0,w.alloc (.deferred (some []))=W0:=⟨_,rfl⟩;obtain⟨W1,aa⟩:∃W1,W0.alloc (.loop s)=W1:=⟨_,rfl⟩
 have hp1:Pu w W0 (.deferred (some [])):=by rw[<-hW0];exact AN rfl ⟨rfl,rfl⟩
 have a8:Pu W0 W1 (.loop s):=by rw[<-aa];exact AN rfl ⟨rfl,rfl⟩
 have f7:=hp1.size;have jp:=a8.size;obtain⟨s1,e1⟩:=st.sim.push hp1;obtain⟨s2,e2⟩:=s1.bump (w.heap.size:Int);obtain⟨s3,e3⟩:=s2.newLoop jm a8;rw[<-Bm]at e2;have hnx:O (J.bump.new (.loop .ready))=O J+1+1:=Z;have e5:=(e1.trans e2).trans e3;rw[<-Ao J.bump (.loop .ready)]at e5
 generalize hC4:(((C.addStm (O J) (w.heap.size:Int)).setLoop (O J.bump) (W0.heap.size:Int) s).add (O J.bump) W0.heap.size 0)=v at s3 e5
 have f8:v.stm (O J)=(w.heap.size:Int):=by rw[<-hC4];simp[aO.add,aO.setLoop,aO.addStm,Bm]
 have ml:v.stm (O J+1)=((w.heap.size+1:Nat):Int):=by rw[<-hC4];simp[aO.add,aO.setLoop,Bm,f7]
 have gb:v.lr (O J+1)=some s:=by rw[<-hC4];simp[aO.add,aO.setLoop,Bm]
 have gc:v.loc (O J+1)=some (w.heap.size+1,0):=by rw[<-hC4];simp[aO.add,Bm,f7]
 have hnD:¬v.own w.heap.size:=λi=>by
  rcases i with i|⟨x,o,i⟩
  ·have ao:C.res w.heap.size:=by rw[<-e5.res.1];exact i
   have:=st.sim.rlt _ ao;omega
  ·by_cases hx:x=O J+1
   ·grind
   ·have:x<O J:=by
     obtain⟨d4,hO,_⟩:=s3.dom x _ i;have hb:=s3.bound x d4 hO;rw[hnx]at hb
     by_cases hx2:x=O J
     ·subst hx2;rw[a5,Bm,if_neg z,Fh]at hO;have:=st.sim.bound _ _ hO;omega
     ·omega
    have:=st.sim.lt x _ _ (e5.loc x this _ i);omega
 have ez:W1.heap[w.heap.size]? =some (.deferred (some [])):=by rw[a8.other _ z];exact hp1.here
 have d5:Gk ⟨O J+1,tm,nt,ps,assign,body⟩ v (O (J.bump.new (.loop .ready))) W1:=by
  refine⟨Z,λc o hc=>?_,s,gb,?_,?_,?_,?_,?_⟩
  ·grind
  ·have:TR C (O J) w tm s.tmps:=by rw[hrc];exact st.tmps
   exact this.ext e5
  ·rw[hrc];exact st.size
  ·rw[hrc]
  ·rw[hrc]
  grind
 have bp:RL v (O (J.bump.new (.loop .ready))) W1 (.yl (O J+1)::X) (#[Value.func (.yield (w.heap.size+1)) #[] #[]]++lb).toList:=by
  simp only[pM,dL,fK];unfold RL;refine⟨?_,RL.ext e5 _ _ au⟩;unfold R
  grind
 have ak:LI (⟨O J+1,tm,nt,ps,assign,body⟩::Ls) v (O (J.bump.new (.loop .ready))) W1:=λL hL=>by
  rcases bN.1 hL with rfl|hL
  ·grind
  ·exact(hl0 L hL).ext e5
 obtain⟨⟨ag,f6,dz,ce⟩,b8⟩:=hit tm ht v W1 _ ak s3 (st.glob.ext e5) bp
 have en:∀args w,(callFunc k args).run E.P w=.ok (.enter k args) w:=λargs w=>by
  have g2':ag.name≠ "runtime.NumGoroutine" :=Z;have ai:ag.body≠none:=Z
  simp[callFunc,f6,g2',ai]
 refine⟨w.heap.size+1,[{ target:=.collected w.heap.size,args:=#[] }],W1,{ target:=.fn (.func k) lb,args:=#[.func (.yield (w.heap.size+1)) #[] #[]] },W1,k,
  #[.func (.yield (w.heap.size+1)) #[] #[]]++lb,W1,?_,?_,λ_ _=>trivial,?_,λi=>(by cases i),?_⟩
 ·rw[<-aa,<-hW0,hrc];exact run_enterLoop_outer _ _ _ _ _
 ·simp only[resolve,hV]
  simp[go_sem]
 ·simp[invoke,go_sem,en]
 ·refine(callsIn_wide).2 (b8.mono λe p he=>?_)
  cases e with
  |returned x=>
   obtain⟨cx,U,g,⟨l,hgl,bh⟩,k1,k2,_⟩:=he;have co:=(k2.stm (O J) Z).trans f8;have jq:=(k2.lr (O J+1) Z).trans gb;obtain⟨ax,aq⟩:=k2.keep w.heap.size z hnD;have am:=aq.trans ez;obtain⟨c,r,g1,g2,g3⟩:=k1.obj _ _ hgl;rw[jq]at g2;cases g2;have hcl:=k2.loc _ Z _ g1;rw[gc]at hcl;cases hcl;obtain⟨m1,m2⟩:=k1.kill (O J+1)
   have ae:¬(g.del (O J+1)).own (w.heap.size+1):=λi=>by
    rcases i with i|⟨x,o,i⟩
    ·exact k1.rdis _ _ _ g1 i
    ·by_cases hx:x=O J+1
     ·simp[aO.del,hx]at i
     ·simp[aO.del,hx]at i
      exact hx (k1.inj _ _ _ _ _ i g1)
   have py:¬(g.del (O J+1)).own w.heap.size:=λi=>ax (by
    rcases i with i|⟨x,o,i⟩
    ·exact .inl i
    ·by_cases hx:x=O J+1
     ·simp[aO.del,hx]at i
     ·simp[aO.del,hx]at i;exact .inr ⟨x,o,i⟩)
   have t:Jb p (p.putObj (w.heap.size+1) (.loop { C9 s (H2 l)with state:=.exhausted })) (w.heap.size+1):=KW g3 rfl rfl;have K:=((e5.trans k2).trans m2).turnNew t ae z;rw[<-B3 U (O J+1)]at K
   have jv:cV E (g.del (O J+1)) (p.putObj (w.heap.size+1) (.loop { C9 s (H2 l)with state:=.exhausted })) ⟨tm,nt,(Ks,[.yl (O J),.yl b])::df,U.kill (O J+1)⟩ { a with defers:=[{ target:=.collected w.heap.size,args:=#[] }]++a.defers }:=by
    refine⟨m1.turn t ae,st.glob.ext K,st.tmps.ext K,st.size,?_⟩
    show DR _ _ _ _ ({ target:=Target.collected w.heap.size,args:=#[] }::a.defers)
    unfold DR;refine⟨.inr ⟨rfl,O J,b,rfl,⟨?_,?_,?_⟩,?_,?_,?_,?_⟩,st.dfs.ext K⟩
    ·show O J<O (U.kill _);rw[B3];have:=k2.next;grind
    ·show b<O (U.kill _);rw[B3];have:=k2.next;rw[hnx]at this;have:=hi.1;omega
    ·show(g.stm b).toNat<=(g.stm (O J)).toNat
     have S:=K.stm b hi.1;have S:g.stm b=C.stm b:=S;rw[co,S,hi.2.1];exact hi.2.2
    ·show _=({ target:=.collected (g.stm (O J)).toNat,args:=#[] }:Deferred);grind
    ·show ¬(g.del _).own (g.stm (O J)).toNat;grind
    ·show(p.putObj _ _).heap[(g.stm (O J)).toNat]? =_
     rw[co];exact(t.other w.heap.size z).trans am
    ·intro y hy hk c d hcd;obtain⟨z1,z2⟩:=MB.of_DR st.dfs y hy hk c d hcd;refine⟨cC z1 K.next,?_⟩
     show(g.stm c).toNat<(g.stm (O J)).toNat
     have S:g.stm c=C.stm c:=K.stm c z1
     grind
   have hBk:B<=O (U.kill (O J+1)):=bD hB K.next
   have hmk:Jt b ((Ks,[.yl (O J),.yl b])::df)=true:=by simp[Jt,hm]
   have hE:∀e,Jj l=e->Kg E nt b B Q C w e { a with defers:=[{ target:=.collected w.heap.size,args:=#[] }]++a.defers } _:=λe he=>⟨l,tm,ρ,_,_,_,he,ht,bh,jv,hmk,hBk,K.base hB⟩
   cases l with
   |normal=>exact⟨none,_,run_endLoop (P:=E.P) g3 (by simp[C9,H2]),hE _ rfl⟩
   |ret=>exact⟨some .ret,_,run_endLoop (P:=E.P) g3 (by simp[C9,H2]),wpIn_ret (hE _ rfl)⟩
   |exit id=>exact⟨some (.exit id),_,run_endLoop (P:=E.P) g3 (by simp[C9,H2]),wpIn_exit (hE _ rfl)⟩
  |panicked _=>exact he.elim
  |outgrown=>exact he.elim
end
theorem WB{E Ls p b B Q f J Rr id G}(m c){l}(ew:G.toList=m++c)(q:K6 m c=true)(hm:E.P.follows .mixedOrders=true)(hR:Bk E Rr)(ha:Lo E m.toArray=some l)
  (h:TD E p Rr m m (λu x R ac=>Obl E R.reverse l m ac.reverse/\iZ E Ls p b B G.toList c (λf J=>Q .normal f J) u x) f J [J] []):TX E Ls p b B (.region id G true) Q f J:=by
 intro r n a7 Bs C w tm a df h0 U s ht st L;obtain⟨c1,c2,c3,c4⟩:=Jm ha;obtain⟨d,k1,k2,k3,u,ak,k4,k5,k6,k7⟩:=h tm df [] ht trivial;refine wpIn_region_any hm ?_
 have W:r=none\/D6 c=true:=a7.imp (λh=>h) λh=>by
  simp only[H7,ew,D6,List.all_append,bg]at h;exact h.2
 have X:G=(m++c).toArray:=Z;have a8:G.size=m.length+c.length:=Z
 have cz:(Array.replicate G.size false)=(Dq m++Dq c).toArray:=by
  rw[a8];unfold Dq
  grind
 have mr:(Array.replicate m.toArray.size false)=(Dq m).toArray:=by
  unfold Dq
  grind
 have pn:oM m (Dq m)=true:=by
  unfold K6 at q
  grind
 have mh:∀g i,sW E C (O J) w [(.normal,d.s)] .normal g i->wpAnyIn (Cy r) n E.P .any (m++c).toArray (Kg E p b B Q C w) c.length (Jp m++Dq c).toArray g i:=by
  intro g i he;obtain⟨y,hy,C',h1,h2,K⟩:=he;rw[cI]at hy;subst hy;obtain⟨⟨ae,ap,al,x⟩,aj,am⟩:=d;simp only at k2 k3;subst k2 k3
  have a9:Dq c=X8 c 0:=by unfold Dq X8;rw[List.map_const'];simp
  rw[a9];refine Arh q c.length 0 g i z ?_
  refine k7 r n W Bs C' i ae g _ (λT=>(h0 T).ext (K.base L)) (U.ext (K.base L)) s k4 h2 (bD L K.next) (m++c).toArray m.length (Kg E _ b B Q C w) (by rw[ew]) Z λC2 w2 a2 af ag J2 q1 q2 q3 qB q4=>?_
  exact⟨.normal,af,ag,J2,C2,_,rfl,q1,q2,q3,s,qB,(K.base L).trans q4⟩
 have k:wpAnyIn (Cy r) n E.P .any m.toArray (λe g i=>match e with|.normal=>wpAnyIn (Cy r) n E.P .any (m++c).toArray (Kg E p b B Q C w) c.length (Jp m++Dq c).toArray g i|e=>Kg E p b B Q C w e g i) m.toArray.size (Array.replicate m.toArray.size false) a { w with drawn:=w.drawn+1 }:=by
  refine XJ hm hR st c1 c2 c3 k1 (λj o t v ho U S H ai ao=>?_) mh
  obtain⟨ah,q1,q2⟩:=k5.reverse.get j t v U;have N:=Ix (E:=E) (b:=(Region.before m.toArray).toList) (effs:=A8 E m 0) m 0 j o Z;rw[<-c4]at N;simp only[dE]at N
  obtain⟨x,aa⟩:=k6.get j _ o ah v N Z q1 S ai (by simp only[Gc];grind)
  have:=aa t q2;refine⟨x,?_⟩
  have an:B5 (Bc E o.op)=false:=by rw[S];rfl
  rw[<-Iy (Rr:=λ_ _ _=>none) S];grind
 rw[mr]at k
 have jp:m.toArray.size=m.length:=by simp
 rw[jp]at k
 have ma:=Alc (F:=Cy r) (n:=n) (P:=E.P) q (Q:=Kg E p b B Q C w) (Q1:=λe g i=>match e with|.normal=>wpAnyIn (Cy r) n E.P .any (m++c).toArray (Kg E p b B Q C w) c.length (Jp m++Dq c).toArray g i|e=>Kg E p b B Q C w e g i) (λg i T=>T) Z m.length (Dq m) a { w with drawn:=w.drawn+1 } (by unfold Dq;simp) pn (by unfold Dq;simp[List.filter_map]) k
 grind
theorem HU{E j g b B Q f J Rr v G}(m){anns}(d:K6 (G.toList.take m) (G.toList.drop m)=true)(K:E.P.follows .mixedOrders=true)(x:Bk E Rr)(c:Lo E (G.toList.take m).toArray=some anns)
  (h:TD E g Rr (G.toList.take m) (G.toList.take m) (λi k a e=>Obl E a.reverse anns (G.toList.take m) e.reverse/\iZ E j g b B G.toList (G.toList.drop m) (λf J=>Q .normal f J) i k) f J [J] []):TX E j g b B (.region v G true) Q f J:=
 WB _ _ (gK m _).symm d K x c h
theorem DR.und{C N w}:∀{f:List (Nat×List I)} {j:List Deferred},DR C N w f j->∀x∈f,I.unds N x.2=true
 |[],_,_,x,c=>by cases c
 |y::r,d::s,h,x,c=>by
  unfold DR at h;obtain⟨h,l⟩:=h
  rcases bN.1 c with rfl|c
  ·rcases h with⟨k,i,g,e⟩|⟨k,a,b,g,⟨e,m,n⟩,_⟩
   ·exact RL.unds _ _ e
   ·rw[g];simp only[I.unds,I.und,Nat.blt_eq,Bool.and_true,bg];exact⟨e,m⟩
  ·exact DR.und l x c
 |_::_,[],h,_,_=>by unfold DR at h;exact h.elim
theorem DR.cut{C N E w}(U):∀{l:List (Nat×List I)} {p:List Deferred},DR C N w l p->(∀x∈l,I.unds E x.2=true)->DR (C.keep U) E w l p
 |[],[],_,_=>by unfold DR;trivial
 |y::r,d::s,h,o=>by
  unfold DR at h⊢;obtain⟨h,L⟩:=h;have t:=o y (cX ..);refine⟨?_,DR.cut U L λx R=>o x (ch _ R)⟩
  rcases h with⟨m,k,j,q⟩|⟨m,a,b,j,⟨q,S,n⟩,B,G,J,K⟩
  ·exact .inl ⟨m,k,j,RL.cut (C.keep_sub U) _ _ t q⟩
  ·have f:=t;rw[j]at f;simp only[I.unds,I.und,Nat.blt_eq,Bool.and_true,bg]at f;refine .inr ⟨m,a,b,j,⟨f.1,f.2,n⟩,B,λP=>G ((C.keep_sub U).own P),J,λv u Q c e i=>⟨?_,(K v u Q c e i).2⟩⟩
   have g:=o v (ch _ u);rw[i]at g;simp only[I.unds,I.und,Nat.blt_eq,Bool.and_true,bg]at g;exact g.1
 |[],_::_,h,_=>by unfold DR at h;exact h.elim
 |_::_,[],h,_=>by unfold DR at h;exact h.elim
theorem cV.frzD{E}[Se E]{C w n d l J U a f s}(P:∀x∈l,I.unds (O U) x.2=true)(b:cV E C w ⟨n,d,l,J⟩ a)(m:Has n f)(N:Ds J U)(j:∀i e,Ad.at s i=some e->∃v,Ad.at f i=some v/\Fz J U v e):
  cV E (C.keep U) w ⟨Oj s,d,l,U⟩ a:=by
 refine⟨b.sim.frz N,Iw.frz b.glob,λi v c=>?_,b.size,b.dfs.cut U P⟩
 have c:(Oj s).get i=some v:=c;rw[Mn]at c;obtain⟨u,g,h⟩:=j i v c;exact h.R b.sim (b.tmps i u (m i u g))
theorem XT{E}[Se E]{b B l c Q f J}(U s)(P:∀x∈l,I.unds (O U) x.2=true)(N:Ds J U)(d:B<=O U)(j:Mm J U s f)(k:T E b l B c Q s U):T E b l B c Q f J:=
 λm n h C w q a i o _=>wpIn_mono (k m n h (C.keep U) w _ a (Kf s) (o.frzD P i N j.at) d) λe p r g=>g.from (qL C U B w)
section
variable {E:aZ}{nt B:Nat}{df:List (Nat×List I)}{K:Ad->F->Prop}{ρ:Ad}{J:F}
theorem JL[Se E]{G r}(U s)(P:∀x∈df,I.unds (O U) x.2=true)(N:Ds J U)(q:B<=O U)(j:∀i f,Ad.at s i=some f->∃v,Ad.at ρ i=some v/\Fz J U v f)(k:TO E nt df B G r K s U):TO E nt df B G r K ρ J:=
 λW n u C w tm a y X _ c i l b o p t=>k W n u (C.keep U) w _ a (Kf s) (X.frzD P y N j) q c i l b o p λg w2 m d e h L Q R T S=>t g w2 m d e h L Q R T ((qL C U B w).trans S)
theorem Mp{G r t d T e x}{ty q:Nat}{pos j after f U cs v}(hz:zI E.P t=some U)(hi:gN E.P t=some (T,e))(hl:Nat.beq U.length T=true)
  (hx:∀u,Ah E ((d,u)::ρ) x=some v)(X:Ah E ρ x=some v)(P:v.cellsN T=some cs)(hd:Nat.blt d nt=true)[Se E]
  (k:TO E nt df B G r K ((d,.pv cs)::ρ) J):
  TO E nt df B G ({ dst:=some d,op:=.alloc t,type:=ty,pos:=pos,after:=after,guard:=none }::{ dst:=none,op:=.store t (.tmp d) x,type:=q,pos:=j,after:=f,guard:=none }::r) K ρ J:=by
 intro ro n hn C w tm a s l W
 have y:cs.length=U.length:=by
  have m:=bK hl;have g:=Be l.glob l.tmps x;rw[s.opd X]at g;obtain⟨q1,q2,_⟩:=Hc P g;have:=q1.length;rw[m];unfold I.cellsN at P
  split at P<;>try (cases P;done)
  ·cases c:Nat.beq ‹List I›.length T with
   |true=>rw[c]at P;cases P;exact bK c
   |false=>rw[c]at P;cases P
  ·cases c:Nat.beq T 1 with
   |true=>rw[c]at P;cases P;exact(bK c).symm
   |false=>rw[c]at P;cases P
 have p:=l.sim.wfs;have Q:=l.dfs.und;have em:∀i u,Ad.at ρ i=some u->I.und (O J) u=true:=λi u h=>R.und _ _ (l.tmps i u (s i u h))
 have o:I.und (O J) v=true:=by
  have g:=Be l.glob l.tmps x;rw[s.opd X]at g;exact R.und _ _ g
 have L:I.unds (O J) cs=true:=by
  unfold I.cellsN at P
  split at P<;>try (cases P;done)
  ·cases c:Nat.beq ‹List I›.length T with
   |true=>rw[c]at P;cases P;exact o
   |false=>rw[c]at P;cases P
  ·cases c:Nat.beq T 1 with
   |true=>rw[c]at P;cases P;simp only[I.unds,o,dR]
   |false=>rw[c]at P;cases P
 have S:TO E nt df B G ({ dst:=some d,op:=.alloc t,type:=ty,pos:=pos,after:=after,guard:=none }::{ dst:=none,op:=.store t (.tmp d) x,type:=q,pos:=j,after:=f,guard:=none }::r) K ρ J:=by
  refine Qg bT (J₁:=J.new (.cells U)) (ρ₁:=(d,.pr (O J) 0)::ρ) (λa7 N=>⟨_,S9 hz hd,N.put d _⟩) ?_
  refine X4 bT rfl rfl (By (vs:=U) (vs':=cs) (ad:=O J) (off:=0) (v:=v) (cs:=cs) hi (by simp[Ah,Ad.at,cb]) (hx _) P Eg (Hh y)) ?_
  simp only[Dt];refine JL J ((d,.pv cs)::ρ) Q ?_ W ?_ k
  ·refine a_ p (by rw[Aq,Ao];exact kG _) λb m=>?_
   rw[aU,if_neg z,a5,if_neg z]
  ·intro i u h;simp only[Ad.at]at h⊢;cases m:Nat.beq d i with
   |true=>
    rw[m]at h;simp only[cond_true,bH]at h⊢;subst h
    refine⟨_,rfl,.pr (vs:=cs) (by rw[aU,if_pos rfl]) ?_ (jg L)⟩
    cases H:J.get (O J)with
    |none=>rfl
    |some a8=>exact absurd (p _ _ H).1 (Nat.lt_irrefl _)
   |false=>rw[m]at h;exact⟨u,h,.same (em i u h)⟩
 exact S ro n hn C w tm a s l W
theorem HT[Se E]{c Q}(U s)(N:Ds J U)(S:O U=O J)(j:Mm J U s ρ)(k:T E nt df B c Q s U):T E nt df B c Q ρ J:=
 λg n e C w h a f d b=>XT U s (by rw[S];exact d.dfs.und) N (by rw[S];exact b) j k g n e C w h a f d b
theorem Oo{Ls b c Q}(h:TX E Ls nt b B c (λx ρ J=>bY J->Q x ρ J) ρ J):TX E Ls nt b B c Q ρ J:=λro n hr Bs C w tm a p h0 hl G L P v=>
 wpIn_mono (h ro n hr Bs C w tm a p h0 hl G L P v) λe S w' ⟨x,f,i,J',m,df',r,h2,t,k,h5⟩=>⟨x,f,i,J',m,df',r,h2,t k.sim.wfs,k,h5⟩
end
end Go.AM

