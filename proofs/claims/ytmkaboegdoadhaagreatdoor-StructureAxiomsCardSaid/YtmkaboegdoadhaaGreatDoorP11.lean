/- A part of the proof; shortened by program. -/
import Derived.Test.YtmkaboegdoadhaaGreatDoorP10
set_option maxRecDepth 100000
set_option maxHeartbeats 4000000
set_option linter.all false
namespace Go.AM
open Go
theorem Ey {a b x y} : C8 (a :: x) (b :: y) = true ↔ a < b \/ (a = b /\ C8 x y = true) := by
  simp only [C8];cases h : Nat.blt a b with
  | true => simp only [cond_true,true_iff]; exact .inl (by simpa [Nat.blt_eq] using h)
  | false =>
    have e : ¬ a < b := λc => by rw [show Nat.blt a b = true from by rw [Nat.blt_eq]; exact c] at h; cases h
    cases d : Nat.beq a b with
    | true => have := bK d; subst this; simp
    | false => have : a ≠ b := λc => by subst c; rw [cb] at d; cases d
               simp only [cond_false,fY,false_iff]; rintro (c | ⟨c,_⟩) <;> contradiction
theorem MZ : ∀ a : List Nat,C8 a a = false
  | [] => rfl
  | x :: a => by
    cases h : C8 (x :: a) (x :: a) with
    | false => rfl
    | true => rcases Ey.1 h with h | ⟨_,h⟩
              · omega
              · rw [MZ a] at h; cases h
theorem Uw : ∀ {a b c : List Nat},C8 a b = true -> C8 b c = true -> C8 a c = true
 | a,b,[],_,e => by cases b <;> simp [C8] at e
 | a,[],c :: h,d,_ => by cases a <;> simp [C8] at d
 | [],_ :: _,_ :: _,_,_ => rfl
 | a :: x,b :: y,c :: h,d,e => by
  rcases Ey.1 d with f | ⟨i,f⟩ <;> rcases Ey.1 e with g | ⟨j,g⟩
  ·exact Ey.2 (.inl z)
  ·exact Ey.2 (.inl z)
  ·exact Ey.2 (.inl z)
  ·exact Ey.2 (.inr ⟨by omega,Uw f g⟩)
theorem Abr:∀{a b:List Nat},C8 a b=false->C8 b a=false->a=b
 |[],[],_,_=>rfl
 |[],_::_,h,_=>by simp[C8]at h
 |_::_,[],_,h=>by simp[C8]at h
 |a::x,b::y,d,f=>by
  have g:¬(a<b\/(a=b/\C8 x y=true)):=λc=>by rw[Ey.2 c]at d;cases d
  have i:¬(b<a\/(b=a/\C8 y x=true)):=λc=>by rw[Ey.2 c]at f;cases f
  have e:a=b:=by omega
  subst e;rw[Abr (iB.2 λc=>g (.inr ⟨rfl,c⟩)) (iB.2 λc=>i (.inr ⟨rfl,c⟩))]
theorem LA(a b):aQ.lt (kS a) (kS b)=gQ a b:=rfl
theorem DN(a):gQ a a=false:=MZ _
theorem Re{a b c}(h:gQ a b=true)(k:gQ b c=true):gQ a c=true:=Uw h k
theorem NS{a b}(h:gQ a b=false)(k:gQ b a=false):a=b:=Fu.1 (Abr h k)
section
variable {α:Type}
def SM.Srt(m:SM α):Prop:=m.Pairwise λp q=>gQ p.1 q.1=true
theorem SM.Srt.nil:SM.Srt ([]:SM α):=List.Pairwise.nil
theorem SM.get_none_of{m:SM α}{s}(h:∀p∈m,p.1≠s):m.get s=none:=by
 induction m with
 |nil=>rfl
 |cons p m c=>
  obtain⟨k,v⟩:=p;simp only[SM.get];rw[if_neg (λa=>h (k,v) (cX ..) a.symm)]
  exact c λq b=>h q (ch _ b)
theorem SM.Srt.head{k v}{m:SM α}(h:SM.Srt ((k,v)::m)){s}(j:gQ k s=false)(d:s≠k):SM.get ((k,v)::m) s=none:=by
 refine SM.get_none_of λp a b=>?_
 rcases bN.1 a with rfl|a
 ·exact d b.symm
 ·have:=(gB.1 h).1 p a;rw[b]at this;rw[this]at j;cases j
theorem SM.Srt.ext:∀{m n:SM α},SM.Srt m->SM.Srt n->(∀s,m.get s=n.get s)->m=n
 |[],[],_,_,_=>rfl
 |[],(k,v)::n,_,_,h=>by have:=h k;simp[SM.get]at this
 |(k,v)::m,[],_,_,h=>by have:=h k;simp[SM.get]at this
 |(k,v)::m,(a,u)::n,i,j,h=>by
  have e:k=a:=by
   by_cases f:k=a
   ·exact f
   ·cases b:gQ k a with
    |false=>
     cases c:gQ a k with
     |false=>exact NS b c
     |true=>
      have:=h a;rw[i.head b (mq f)]at this
      simp[SM.get]at this
    |true=>
     have c:gQ a k=false:=iB.2 λd=>by have:=Re b d;rw[DN]at this;cases this
     have:=h k;rw[j.head c f]at this
     simp[SM.get]at this
  subst e
  have o:v=u:=by have:=h k;simpa[SM.get]using this
  subst o
  have:=SM.Srt.ext (gB.1 i).2 (gB.1 j).2 λs=>by
   by_cases l:s=k
   ·subst l
    have g:∀{q:SM α},SM.Srt ((s,v)::q)->q.get s=none:=λt=>SM.get_none_of λp r d=>by
     have:=(gB.1 t).1 p r;rw[d,DN]at this;cases this
    rw[g i,g j]
   ·have:=h s;simp only[SM.get,if_neg l]at this;exact this
  rw[this]
theorem SM.Srt.set:∀{m:SM α} {s:aH} {x:α},SM.Srt m->SM.Srt (m.set s x)
 |[],_,_,_=>List.Pairwise.nil
 |(k,v)::m,s,x,h=>by
  have d:∀{m:SM α} {p:aH×α},p∈m.set s x->∃q∈m,q.1=p.1:=by
   intro m
   induction m with
   |nil=>intro p a;cases a
   |cons r m e=>
    intro p a;obtain⟨k,v⟩:=r;simp only[SM.set]at a
    split at a
    ·rcases bN.1 a with rfl|a
     ·exact⟨_,cX ..,rfl⟩
     ·exact⟨p,ch _ a,rfl⟩
    ·rcases bN.1 a with rfl|a
     ·exact⟨_,cX ..,rfl⟩
     ·obtain⟨q,b,c⟩:=e a;exact⟨q,ch _ b,c⟩
  simp only[SM.set]
  split
  ·exact gB.2 ⟨λp a=>(gB.1 h).1 p a,(gB.1 h).2⟩
  ·refine gB.2 ⟨λp a=>?_,SM.Srt.set (gB.1 h).2⟩
   obtain⟨q,b,c⟩:=d a;rw[<-c];exact(gB.1 h).1 q b
theorem SM.Srt.ins:∀{m:SM α} {s:aH} {x:α},SM.Srt m->m.get s=none->SM.Srt (m.ins s x)
 |[],_,_,_,_=>List.pairwise_singleton _ _
 |(k,v)::m,s,x,h,g=>by
  have f:∀{m:SM α} {p:aH×α},p∈m.ins s x->p=(s,x)\/p∈m:=by
   intro m
   induction m with
   |nil=>intro p a;exact .inl (cI.1 a)
   |cons r m j=>
    intro p a;obtain⟨k,v⟩:=r;simp only[SM.ins]at a
    split at a
    ·rcases bN.1 a with rfl|a
     ·exact .inl rfl
     ·exact .inr a
    ·rcases bN.1 a with rfl|a
     ·exact .inr (cX ..)
     ·exact(j a).imp id (ch _)
  have c:s≠k:=λd=>by subst d;simp[SM.get]at g
  cases b:gQ s k with
  |true=>
   have e:SM.ins ((k,v)::m) s x=(s,x)::(k,v)::m:=by simp only[SM.ins,LA,b,if_true]
   rw[e];refine gB.2 ⟨λp a=>?_,h⟩
   rcases bN.1 a with rfl|a
   ·exact b
   ·exact Re b ((gB.1 h).1 p a)
  |false=>
   have e:SM.ins ((k,v)::m) s x=(k,v)::SM.ins m s x:=by simp[SM.ins,LA,b]
   rw[e]
   have i:gQ k s=true:=by
    cases d:gQ k s with
    |true=>rfl
    |false=>exact absurd (NS b d) c
   refine gB.2 ⟨λp a=>?_,SM.Srt.ins (gB.1 h).2 (by simpa[SM.get,c]using g)⟩
   rcases f a with rfl|a
   ·exact i
   ·exact(gB.1 h).1 p a
theorem SM.Srt.put{m s}{x:α}(h:SM.Srt m):SM.Srt (m.put s x):=by
 unfold SM.put
 split
 ·exact h.set
 ·rename_i a;exact h.ins a
def SM.over(n m:SM α):SM α:=n.foldl (λm p=>m.put p.1 p.2) m
theorem SM.Srt.over:∀{n m:SM α},SM.Srt m->SM.Srt (SM.over n m)
 |[],_,h=>h
 |p::n,m,h=>SM.Srt.over (n:=n) (m:=m.put p.1 p.2) h.put
def SM.Key1(m:SM α):Prop:=m.Pairwise λp q=>p.1≠q.1
theorem SM.Srt.key1{m:SM α}(h:SM.Srt m):SM.Key1 m:=h.imp λ{p q} a=>λe=>by rw[e,DN]at a;cases a
theorem SM.get_over:∀{n m:SM α} {s:aH},SM.Key1 n->(SM.over n m).get s=(n.get s).or (m.get s)
 |[],_,_,_=>by simp[SM.over,SM.get]
 |(k,v)::n,m,s,h=>by
  have d:=SM.get_over (n:=n) (m:=m.put k v) (s:=s) (gB.1 h).2
  show(SM.over n (m.put k v)).get s=_
  rw[d,dP];simp only[SM.get]
  by_cases a:s=k
  ·subst a;rw[SM.get_none_of λp c b=>(gB.1 h).1 p c b.symm];simp
  ·simp[a]
theorem Abs:∀{m:SM α} {p:(aH×α)×SM α},SM.Key1 m->p∈Ht m->SM.Key1 p.2/\p.2.get p.1.1=none/\∀s,m.get s=if s=p.1.1 then some p.1.2 else p.2.get s
 |[],p,_,h=>by simp[Ht]at h
 |(k,v)::m,p,n,h=>by
  simp only[Ht,bN,dO]at h;obtain⟨b,d⟩:=gB.1 n
  rcases h with rfl|⟨q,e,rfl⟩
  ·exact⟨d,SM.get_none_of λp c l=>b p c l.symm,λs=>rfl⟩
  ·obtain⟨g,i,j⟩:=Abs d e;obtain⟨o,r,_⟩:=Rp e;have a:k≠q.1.1:=b q.1 o;refine⟨gB.2 ⟨λp c=>b p ((r p).2 (.inr c)),g⟩,?_,λs=>?_⟩
   ·simp only[SM.get];rw[if_neg (mq a)];exact i
   ·simp only[SM.get,j s]
    by_cases f:s=k
    ·subst f;simp[a]
    ·simp[f]
end
end Go.AM
namespace Go.AM
open Go
def yN(J:F):Prop:=∀c r b left d,J.get c=some (.iter (some r) b left d)->∀f e a,J.get r=some (.map f e a)->b<=a
theorem aX.itv{P C w J}(h:aX P C w J):yN J:=λc r g left b H j i a e=>by
 have d:=h.obj c _ H;obtain⟨_,_,_,_,_,_,_,_,f⟩:=d;exact(f _ _ _ e).1
theorem vb{E b B l Q f J c}(h:yN J->T E b l B c Q f J):T E b l B c Q f J:=λj n g C w k a i d e=>h d.sim.itv j n g C w k a i d e
theorem bY.setMap{J}(i:bY J)(L:yN J){r s c X g es'}(K:J.get r=some (.map s g c))(p:Jc (O J) es'=true)(b:c<X\/(X=c/\es'=g)):bY (J.set r (.map s es' X)):=by
 intro a f H;rw[aU]at H;rw[Aq]
 split at H
 ·rename_i n;cases H;subst n;exact⟨(i _ _ K).1,p,trivial⟩
 ·obtain⟨k,l,h⟩:=i a f H;refine⟨k,l,?_⟩;cases f with
  |iter m v left e=>
   cases m with
   |none=>trivial
   |some q=>
    intro t j d;rw[aU]at d
    split at d
    ·rename_i o
     subst o
     rcases b with b|⟨rfl,rfl⟩
     ·have:=L a q v left e H _ _ _ K;cases d;omega
     ·cases d;rw[Aq];exact h _ _ K
    ·rw[Aq];exact h _ _ d
  |cells _=>trivial
  |map _ _ _=>trivial
  |stamp _ _ _=>trivial
  |loop _=>trivial
theorem Ds.setMap{J U}(i:bY J)(L:yN J){r s a X d es'}(K:J.get r=some (.map s d a))(f:Jc (O J) es'=true)(b:a<X\/(X=a/\es'=d))
  (S:O J<=O U)(H:∀c,c<O J->c≠r->U.get c=J.get c)(w:U.get r=some (.map s es' X)):Ds U (J.set r (.map s es' X)):=by
 refine a_ (i.setMap L K f b) (by rw[Aq];exact S) λc e=>?_
 rw[Aq]at e;rw[aU]
 split
 ·rename_i h;subst h;exact w
 ·rename_i h;exact H c e (by intro g;exact h z)
theorem GF(s):aQ.eq (kS s) (kS s)=true:=by rw[sL];simp
theorem Ae1{k}(X:aQ.eq k k=true){v U}:∀{a:List (aQ×I)},D5 k a=none->Ph k v (Nx k U a)=Nx k v a
 |[],_=>by
  simp only[Nx,Ph,X,cond_true]
 |(c,e)::r,h=>by
  simp only[D5]at h;cases b:aQ.eq k c with
  |true=>rw[b]at h;cases h
  |false=>
   rw[b]at h;simp only[Nx];cases d:aQ.lt k c with
   |true=>simp only[cond_true,Ph,X]
   |false=>simp only[cond_false,Ph,b];rw[Ae1 X h]
section
variable {E:aZ}{ρ:Ad}{J:F}{Rr:bP}{t ty n r a:Nat}{x y w:Operand}{α:Type}{enc:α->I}{m:SM α}{s:aH}
def Td(a:α->I)(U:I)(m:SM α)(s:aH):List (aQ×I):=match m.get s with|some _=>Cn a m|none=>Nx (kS s) U (Cn a m)
theorem Φ{U T a e}(g:Fs E.P 9=true)(L:cq E.P t=some (9,U,T,e))(W:Ah E ρ x=some (.mp r))(K:J.get r=some (.map 9 (Cn enc m) a))(B:Ah E ρ y=some (sV s)):
  As E Rr (.mapEntry t x y) ρ J (.tup [((m.get s).map enc).getD U,.stp (O J)]) ((J.set r (.map 9 (Td enc U m s) (a+1))).new (.stamp r (a+1) (kS s))):=λo h=>by
 obtain⟨n,i,l,b,c,d,f,j,k⟩:=mI L;simp only[bB,Aw,b,c,d,f,h.opd W,h.opd B,lN g,Q8,K,cb,Ak,Ih,Td];cases m.get s<;>rfl
theorem WR{U T d e v}(L:cq E.P t=some (9,U,T,e))(W:Ah E ρ x=some (.mp r))(B:Ah E ρ y=some (.stp a))(i:Ah E ρ w=some (enc v))(N:∀f:TI,f.size=T->f.isAgg=e->Je f (enc v)=true)
  (c:J.get a=some (.stamp r d (kS s)))(K:J.get r=some (.map 9 (Td enc U m s) d)):As E Rr (.entryStore t x y w) ρ J An (J.set r (.map 9 (Cn enc (m.put s v)) (d+1))):=λtm h=>by
 obtain⟨X,R,f,k,l,q,S,C,G⟩:=mI L
 have j:∃u,D5 (kS s) (Td enc U m s)=some u:=by
  unfold Td
  split
  ·rename_i u b;rw[Ih,b];exact⟨_,rfl⟩
  ·rename_i b
   have:∀g,D5 (kS s) (Nx (kS s) U g)=some U\/∃u,D5 (kS s) g=some u:=by
    intro g
    induction g with
    |nil=>left;simp[Nx,D5,GF]
    |cons p r P=>
     obtain⟨n,Q⟩:=p;simp only[Nx];cases l:aQ.lt (kS s) n with
     |true=>left;simp[D5,GF]
     |false=>
      simp only[cond_false,D5];cases k:aQ.eq (kS s) n with
      |true=>exact .inr ⟨Q,rfl⟩
      |false=>exact P
   rcases this (Cn enc m)with h|⟨u,h⟩
   ·exact⟨_,h⟩
   ·rw[Ih,b]at h;cases h
 have o:Ph (kS s) (enc v) (Td enc U m s)=Cn enc (m.put s v):=by
  unfold Td SM.put
  split
  ·rename_i u b;rw[HR];try rw[b]
  ·rename_i b;rw[Ae1 (GF s) (by rw[Ih,b];rfl),Abn];try rw[b]
 obtain⟨u,j⟩:=j;simp only[bB,Aw,k,l,q,h.opd W,h.opd B,h.opd i,Mf,c,K,cb,N f C G,dR,Ak,j,o]
theorem G0{a z i T g c k}(f:(match Ay E.P t with|some j=>j.zero|none=>none)=some z)(L:iP E.P t=some (g,T,c))
  (m:W3 E ρ T a.toList=some k)(N:Si z k=some i):As E Rr (.build t a) ρ J (.agg i) J:=λs h=>by
 unfold iP at L
 split at L
 ·rename_i j b
  rw[b]at f;simp only at f
  split at L
  ·rename_i q e l
   split at L
   ·rename_i r d
    simp only[bH,cE]at L;obtain⟨n,o,p⟩:=L;subst n o;simp only[bB,Aw,b,f,l,d,Abk h m,M2,N]
   ·cases L
  ·cases L
 ·cases L
theorem Ao4{T m a k f v}(L:iP E.P t=some (m,T,a))(W:Ah E ρ x=some (.agg f))(B:Ah E ρ y=some (.int k (.ofNat n)))
  (S:n<m)(b:Cz T a (f.drop (n*T))=some v):As E Rr (.index t x y) ρ J v J:=λs h=>by
 unfold iP at L
 split at L
 ·rename_i r d
  split at L
  ·rename_i p e i
   split at L
   ·rename_i q c
    simp only[bH,cE]at L;obtain⟨j,l,o⟩:=L;subst j l o
    have g:Nat.blt n p=true:=by simpa using S
    simp only[bB,Aw,d,i,c,h.opd W,h.opd B,Le,g,cond_true,Ml,b]
   ·cases L
  ·cases L
 ·cases L
end
section
variable {E:aZ}{nt B:Nat}{Q Q':Cc}{ρ ρ':Ad}{J J':F}
end
def Amv:List Nat->List I->Ad->Ad
 |p::b,x::c,a=>Amv b c ((p,x)::a)
 |_,_,a=>a
theorem Qk{C N w nt}:∀{d:List Nat} {b:List I} {f:List Value} {e:Tr I} {g:Ad} {tmps:Array Value},b.length=d.length->d.all (λp=>Nat.blt p nt)=true->Has e g->TR C N w e tmps->tmps.size=nt->RL C N w b f->
  f.length=d.length/\∃c,Has c (Amv d b g)/\TR C N w c ((d.zip f).foldl (λtmps (t,a)=>tmps.setIfInBounds t a) tmps)/\((d.zip f).foldl (λtmps (t,a)=>tmps.setIfInBounds t a) tmps).size=nt
 |[],[],[],e,g,tmps,_,_,m,i,l,_=>⟨rfl,e,m,i,l⟩
 |[],[],_::_,_,_,_,_,_,_,_,_,h=>by unfold RL at h;exact h.elim
 |[],_::_,_,_,_,_,h,_,_,_,_,_=>by cases h
 |_::_,[],_,_,_,_,h,_,_,_,_,_=>by cases h
 |_::_,_::_,[],_,_,_,_,_,_,_,_,h=>by unfold RL at h;exact h.elim
 |p::d,x::K,v::f,e,g,tmps,s,j,m,i,l,k=>by
  unfold RL at k;simp only[gX,bg]at j;obtain⟨J,q,r⟩:=C6 (nt:=nt) (dst:=some p) j.1 m x;obtain⟨n,o,_⟩:=TR.put (a:={ tmps:=tmps,defers:=[] }) i l q k.1
  have u:(({ tmps:=tmps,defers:=[] }:Act).put (some p) v).tmps=tmps.setIfInBounds p v:=by simp[Act.put]
  rw[u]at n o
  obtain⟨y,c,B,E,G⟩:=Qk (by simpa using s) j.2 r n o k.2
  exact⟨by simp[y],c,B,E,G⟩
section
variable {E:aZ}{L:RF}{nt B:Nat}{Q Q':Cc}{ρ ρ':Ad}{J J':F}
variable {K:Ad->F->Prop}{ops r:List Oper}
end
section
variable {E:aZ}{L:RF}{nt B:Nat}{ρ:Ad}{J:F}{K:Ad->F->Prop}
end
theorem XJ{E}(hm:E.P.follows .mixedOrders=true){h}(hR:Bk E h){G s d C w a}(f:cV E C w s a)
  (c1:Eu G (Region.before G).toList=true)(c2:Fo G=true)(c3:Mg (Region.before G).toList (A8 E G.toList 0)=true)(hd:T9 E G.toList h G.toList ⟨s,[s.sto],[]⟩=some d)
  (hb:∀(j:Nat) (o:Oper) (t:Tr I) (v:I),G[j]? =some o->d.log.reverse[j]? =some (t,v)->Bc E o.op=.read->ED E G.toList o t v
   ((d.eps.reverse.drop (Bl (λe=>((Region.before G).getD j 0).testBit e) (A8 E G.toList 0))).take (Bl (λe=> !((Region.before G).getD e 0).testBit j) (A8 E G.toList 0)+1-Bl (λe=>((Region.before G).getD j 0).testBit e) (A8 E G.toList 0)))){ro n Q}(hQ:∀l w',sW E C (O s.sto) w [(.normal,d.s)] .normal l w'->Q .normal l w'):
  wpAnyIn (Cy ro) n E.P .any G Q G.size (Array.replicate G.size false) a { w with drawn:=w.drawn+1 }:=by
 obtain⟨b,p,u,k2,k3,k4,k5⟩:=Lz hd;simp only[rK,fK,d_]at k2 k3;obtain⟨x1,U,x3,x4,x5⟩:=Wq u
 have bl:G.toList.length=G.size:=by simp
 have hT:∀k,k<G.size->∃o,G[k]? =some o/\Ka o.dst (((b.map (·.1)++[d.s.tm])[k]?).getD .e) s.nt (((b[k]?).map (·.2)).getD .any)=some (((b.map (·.1)++[d.s.tm])[k+1]?).getD .e):=by
  intro k hk
  have N:G.toList[k]? =some G[k]:=by simp[hk]
  grind
 have S:rM E G h s.nt s.tm (A8 E G.toList 0) (λk=>((b.map (·.1)++[d.s.tm])[k]?).getD .e) (λk=>((b[k]?).map (·.2)).getD .any) (s.sto::p):=by
  refine⟨c1,rfl,by simp only[cZ,U,Nj G.toList 0],c3,λj o N=>?_,λj K t=>?_,λj o N hc=>?_⟩
  ·obtain⟨t,v,T,a7,y,y1,y2,y3,y4,y5,y6⟩:=x5 j o Z
   grind
  ·exact Ni (n:=G.size) Z hT j K t
  grind
 obtain⟨t1,g⟩:=f.sim.same (w':={ w with drawn:=w.drawn+1 }) Y zN ⟨rfl,rfl⟩
 have B:∀i,(Array.replicate G.size false).getD i false=false:=λi=>by
  rw[jY,Array.getElem?_replicate];grind
 refine Wt (C₀:=C) (N₀:=O s.sto) (w₀:=w) (df:=s.df) hR S c2 (λL m J W w' l P X=>?_) G.size _ 0 s.sto C _ a zS (Ri B) ?_
 ·obtain⟨z1,c⟩:=P.last S X
  have r:J=d.s.sto:=by
   rw[<-Nj,<-U,x4]at z1;grind
  subst r;refine hQ _ _ ⟨(.normal,d.s),HE _,W,rfl,?_,P.ext⟩;have q:((b.map (·.1)++[d.s.tm])[G.size]?).getD .e=d.s.tm:=Z;simp only[q]at c
  exact⟨c.sim,c.glob,c.tmps,by rw[k4];exact c.size,by rw[k5];exact c.dfs⟩
 ·refine⟨λj K=>?_,λk e _=>?_,rfl,t1,f.glob.ext g,λt x hx=>?_,f.size,f.dfs.ext g,g⟩
  ·grind
  ·grind
  ·refine R.ext g _ _ (f.tmps t x ?_);rw[<-hx,He (k:=0) (bU _) λi _ _ _=>B i];rfl
theorem AW{C:Type}{l:List C}{i}(h:i<l.length):∃a,l[i]? =some a:=⟨_,fF h⟩
def Qm:Nat->List (List Bool)
 |0=>[[]]
 |n+1=>(Qm n).flatMap λl=>[false::l,true::l]
theorem QT:∀l:List Bool,l∈Qm l.length
 |[]=>by simp[Qm]
 |b::l=>by
  have:=QT l;simp only[cZ,Qm,List.mem_flatMap]
  exact⟨l,this,by cases b<;>simp⟩
def Dq(G:List Oper):List Bool:=G.map λ_=>false
def Jp(G:List Oper):List Bool:=G.map λ_=>true
def oM(G:List Oper)(l:List Bool):Bool:=(List.range G.length).all λi=> !(l[i]?).getD false||(match G[i]? with|some o=>o.after.all λe=> !Region.binds .any e||(l[e.on]?).getD false|none=>true)
def EB(m a:List Oper)(l:List Bool):Bool:=
 l.all id||((!(Region.ready .any m.toArray l.toArray).isEmpty)&&decide (Region.ready .any (m++a).toArray (l++Dq a).toArray=Region.ready .any m.toArray l.toArray)&&(Region.ready .any m.toArray l.toArray).all λi=>oM m (l.set i true))
def X8(a:List Oper)(j:Nat):List Bool:=List.replicate j true++List.replicate (a.length-j) false
def K6(m a:List Oper):Bool:=
 ((m++a).all λo=>o.guard.isNone)&&oM m (Dq m)&&((Qm m.length).all λl=> !oM m l||EB m a l)
  &&((List.range (a.length+1)).all λj=>decide (Region.ready .any (m++a).toArray (Jp m++X8 a j).toArray=if j<a.length then[m.length+j]else[]))
theorem VF{c n P}{o:Oper}{a w K d Q v}(h:∀a w,K a w->d a w)(f:∀e a w,e≠.normal->Q e a w->v e a w)
  (b:o.wpIn c n P a w K Q):o.wpIn c n P a w d v:=by
 have j:LetsOut Q->LetsOut v:=λ⟨a,w,h⟩=>⟨a,w,f _ _ _ Z h⟩
 unfold Oper.wpIn at *;refine⟨b.1,?_⟩;have b:=b.2
 generalize (o.semAt c.round a.eval).run P w=r at *
 cases r with
 |ok x i=>
  cases x<;>simp only[Oper.uponIn]at b⊢<;>
   first
    |exact h _ _ b
    |exact⟨b.1,CallsIn.mono b.2 Z⟩
    |exact⟨b.1,RowsIn.mono b.2 (λ_ _ g=>h _ _ g)⟩
    |exact⟨b.1,RoundIn.mono b.2 Z⟩
    |exact b
 |halt x i=>cases x<;>simp only[Oper.uponIn]at b⊢<;>first|exact b.elim|exact f _ _ _ Z b|exact b
section
variable {F:Fence}{n:Nat}{P:Program}{ops1 ops2:List Oper}{Q Q1:Exit->Act->World->Prop}
theorem Ao9{G:List Oper}{l:List Bool}{i}(h:i∈Region.ready .any G.toArray l.toArray):i<G.length/\∃o,G[i]? =some o:=by
 unfold Region.ready at h
 grind
theorem Alc(g:K6 ops1 ops2=true)(S:∀a w,Q1 .normal a w->wpAnyIn F n P .any (ops1++ops2).toArray Q ops2.length (Jp ops1++Dq ops2).toArray a w)(W:∀e a w,e≠.normal->Q1 e a w->Q e a w):
  ∀(k:Nat) (l:List Bool) (a:Act) (w:World),l.length=ops1.length->oM ops1 l=true->(l.filter (!·)).length=k->wpAnyIn F n P .any ops1.toArray Q1 k l.toArray a w->wpAnyIn F n P .any (ops1++ops2).toArray Q (k+ops2.length) (l++Dq ops2).toArray a w:=by
 unfold K6 at g;simp only[bg]at g;obtain⟨⟨⟨H,_⟩,L⟩,_⟩:=g;intro k
 induction k with
 |zero=>
  intro l a w B v p h
  have C:l=Jp ops1:=by
   refine List.ext_getElem? λi=>?_
   unfold Jp;rw[eC]
   by_cases d:i<l.length
   ·obtain⟨b,f⟩:=AW d
    obtain⟨o,m⟩:=AW (show i<ops1.length by omega)
    rw[f,m];have:l.filter (!·)=[]:=FQ.1 p;rw[List.filter_eq_nil_iff]at this;have:=this b (bA f)
    grind
   grind
  subst C;rw[dE];exact S a w h.2
 |succ k N=>
  intro l a w B v p h
  have c:=b_.1 L l (by rw[<-B];exact QT l)
  rw[v]at c;simp only[Bool.not_true,Bool.false_or]at c;unfold EB at c
  have s:l.all id=false:=by
   cases f:l.all id with
   |false=>rfl
   |true=>
    rw[b_]at f;have:l.filter (!·)=[]:=List.filter_eq_nil_iff.2 Z;rw[this]at p;cases p
  rw[s]at c;simp only[Bool.false_or,bg,eQ,decide_eq_true_eq,b_]at c;obtain⟨⟨s1,T⟩,U⟩:=c;rw[Nat.succ_add];obtain⟨_,J⟩:=h;refine⟨λX=>?_,λi d=>?_⟩
  ·grind
  ·rw[T]at d;obtain⟨r,o,m⟩:=Ao9 d;have j:=J i d
   have q:o.guard=none:=by
    have:=b_.1 H o (rQ _ (bA m))
    simpa using this
   have t:∀y,Region.wanted o y=true:=λy=>by unfold Region.wanted;rw[q]
   have K:l[i]? =some false:=by
    unfold Region.ready at d;have:=(gS.1 d).2
    obtain⟨b,f⟩:=AW (show i<l.length by omega)
    simp only[bg,eQ]at this;have:=this.1;rw[f];rw[jY,List.getElem?_toArray,f]at this
    grind
   unfold wpOpIn at j⊢;rw[List.getElem?_toArray]at j⊢;rw[kU r,m];rw[m]at j;simp only[t,if_true]at j⊢;refine VF (λa w x=>?_) W j
   have E:(l++Dq ops2).toArray.setIfInBounds i true=(l.set i true++Dq ops2).toArray:=Z;have G:l.toArray.setIfInBounds i true=(l.set i true).toArray:=Z;rw[E];rw[G]at x;refine N (l.set i true) a w Z (U i d) ?_ x
   have R:∀(l:List Bool) (i:Nat),l[i]? =some false->((l.set i true).filter (!·)).length+1=(l.filter (!·)).length:=λl=>by
    induction l with
    |nil=>intro i h;simp at h
    |cons b l u=>
     intro i h;cases i with
     |zero=>simp at h;subst h;simp
     |succ i=>
      have:=u i Z;cases b<;>simp[List.set_cons_succ]<;>simpa using this
   grind
theorem Arh(b:K6 ops1 ops2=true):∀(k j:Nat) (a:Act) (w:World),j+k=ops2.length->wpOpsIn F n P (ops1++ops2).toArray Q (List.range' (ops1.length+j) k) a w->wpAnyIn F n P .any (ops1++ops2).toArray Q k (Jp ops1++X8 ops2 j).toArray a w:=by
 have f:=b;unfold K6 at b;simp only[bg]at b;obtain⟨_,c⟩:=b;have c:=λj (d:j<ops2.length+1)=>of_decide_eq_true (b_.1 c j (jW.2 d))
 intro k
 induction k with
 |zero=>
  intro j a w d h;refine⟨?_,h⟩;rw[c j z,if_neg z]
 |succ k p=>
  intro j a w d h;have g:=c j z;rw[if_pos z]at g;refine⟨λq=>Z,λi e=>?_⟩
  rw[g,cI]at e;subst e;rw[kI,wpOpsIn_cons]at h;refine wpOpIn_mono (λa w m=>?_) h
  have l:(Jp ops1++X8 ops2 j).toArray.setIfInBounds (ops1.length+j) true=(Jp ops1++X8 ops2 (j+1)).toArray:=by
   have o:(Jp ops1).length=ops1.length:=by unfold Jp;grind
   rw[List.setIfInBounds_toArray,List.set_append_right _ _ z,o,show ops1.length+j-ops1.length=j by omega]
   congr 2
   unfold X8
   rw[List.set_append_right _ _ zS,kA,Nat.sub_self,show ops2.length-j=(ops2.length-(j+1))+1 by omega,List.replicate_succ,List.set_cons_zero,List.replicate_succ',iC]
   rfl
  rw[l];exact p (j+1) a w z m
end
end Go.AM

