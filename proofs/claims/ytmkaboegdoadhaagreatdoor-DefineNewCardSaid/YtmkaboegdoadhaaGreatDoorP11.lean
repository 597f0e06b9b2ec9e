/- A part of the proof; shortened by program. -/
import Derived.Test.YtmkaboegdoadhaaGreatDoorP10
set_option maxRecDepth 100000
set_option maxHeartbeats 4000000
set_option linter.unusedSimpArgs false
set_option linter.unusedVariables false
namespace Go.AM
open Go
theorem Ey {a b x y} : C8 (a :: x) (b :: y) = true ↔ a < b ∨ (a = b /\ C8 x y = true) := by
  simp only [C8];cases h : Nat.blt a b with
  | true => simp only [cond_true,true_iff]; exact .inl (by simpa [Nat.blt_eq] using h)
  | false =>
    have h' : ¬ a < b := fun hh => by rw [show Nat.blt a b = true from by rw [Nat.blt_eq]; exact hh] at h; cases h
    cases h2 : Nat.beq a b with
    | true => have := ac_ h2; subst this; simp
    | false => have : a ≠ b := fun hh => by subst hh; rw [aw_] at h2; cases h2
               simp only [cond_false,bp_,false_iff]; rintro (hh | ⟨hh,_⟩) <;> contradiction
theorem Abq : ∀ a : List Nat,C8 a a = false
  | [] => rfl
  | x :: a => by
    cases h : C8 (x :: a) (x :: a) with
    | false => rfl
    | true => rcases Ey.1 h with h | ⟨_,h⟩
              · omega
              · rw [Abq a] at h; cases h
theorem Uw : ∀ {a b c : List Nat},C8 a b = true -> C8 b c = true -> C8 a c = true
 | a,b,[],_,h2 => by cases b <;> simp [C8] at h2
 | a,[],c :: z,h1,_ => by cases a <;> simp [C8] at h1
 | [],_ :: _,_ :: _,_,_ => rfl
 | a :: x,b :: y,c :: z,h1,h2 => by
  rcases Ey.1 h1 with g1 | ⟨g0,g1⟩ <;> rcases Ey.1 h2 with g2 | ⟨g3,g2⟩
  ·exact Ey.2 (.inl Om)
  ·exact Ey.2 (.inl Om)
  ·exact Ey.2 (.inl Om)
  ·exact Ey.2 (.inr ⟨by omega,Uw g1 g2⟩)
theorem Abr:∀{a b:List Nat},C8 a b=false->C8 b a=false->a=b
 |[],[],_,_=>rfl
 |[],_::_,h,_=>by simp[C8]at h
 |_::_,[],_,h=>by simp[C8]at h
 |a::x,b::y,h1,h2=>by
  have g1:¬(a<b∨(a=b/\C8 x y=true)):=fun hh=>by rw[Ey.2 hh]at h1;cases h1
  have g2:¬(b<a∨(b=a/\C8 y x=true)):=fun hh=>by rw[Ey.2 hh]at h2;cases h2
  have e:a=b:=by omega
  subst e;rw[Abr (bz_.2 fun hh=>g1 (.inr ⟨rfl,hh⟩)) (bz_.2 fun hh=>g2 (.inr ⟨rfl,hh⟩))]
theorem Av6(a b):Key.lt (kS a) (kS b)=ltS a b:=rfl
theorem Ag2(a):ltS a a=false:=Abq _
theorem Ae0{a b c}(h:ltS a b=true)(k:ltS b c=true):ltS a c=true:=Uw h k
theorem Amu{a b}(h:ltS a b=false)(k:ltS b a=false):a=b:=Fu.1 (Abr h k)
section
variable {α:Type}
def SM.Srt(m:SM α):Prop:=m.Pairwise fun p q=>ltS p.1 q.1=true
theorem SM.Srt.nil:SM.Srt ([]:SM α):=List.Pairwise.nil
theorem SM.get_none_of{m:SM α}{s}(h:∀p∈m,p.1≠s):m.get s=none:=by
 induction m with
 |nil=>rfl
 |cons p m ih=>
  obtain⟨k,v⟩:=p;simp only[SM.get];rw[if_neg (fun hh=>h (k,v) (ap_ ..) hh.symm)]
  exact ih fun q hq=>h q (aj_ _ hq)
theorem SM.Srt.head{k v}{m:SM α}(h:SM.Srt ((k,v)::m)){s}(hs:ltS k s=false)(hne:s≠k):SM.get ((k,v)::m) s=none:=by
 refine SM.get_none_of fun p hp hh=>?_
 rcases an_.1 hp with rfl|hp
 ·exact hne hh.symm
 ·have:=(bq_.1 h).1 p hp;rw[hh]at this;rw[this]at hs;cases hs
theorem SM.Srt.ext:∀{m n:SM α},SM.Srt m->SM.Srt n->(∀s,m.get s=n.get s)->m=n
 |[],[],_,_,_=>rfl
 |[],(k,v)::n,_,_,h=>by have:=h k;simp[SM.get]at this
 |(k,v)::m,[],_,_,h=>by have:=h k;simp[SM.get]at this
 |(k,v)::m,(k',v')::n,hm,hn,h=>by
  have e:k=k':=by
   by_cases hk:k=k'
   ·exact hk
   ·cases h1:ltS k k' with
    |false=>
     cases h2:ltS k' k with
     |false=>exact Amu h1 h2
     |true=>
      have:=h k';rw[hm.head h1 (gx_ hk)]at this
      simp[SM.get]at this
    |true=>
     have h2:ltS k' k=false:=bz_.2 fun hh=>by have:=Ae0 h1 hh;rw[Ag2]at this;cases this
     have:=h k;rw[hn.head h2 hk]at this
     simp[SM.get]at this
  subst e
  have e2:v=v':=by have:=h k;simpa[SM.get]using this
  subst e2
  have:=SM.Srt.ext (bq_.1 hm).2 (bq_.1 hn).2 fun s=>by
   by_cases hs:s=k
   ·subst hs
    have g:∀{q:SM α},SM.Srt ((s,v)::q)->q.get s=none:=fun hq=>SM.get_none_of fun p hp hh=>by
     have:=(bq_.1 hq).1 p hp;rw[hh,Ag2]at this;cases this
    rw[g hm,g hn]
   ·have:=h s;simp only[SM.get,if_neg hs]at this;exact this
  rw[this]
theorem SM.Srt.set:∀{m:SM α} {s:Str} {x:α},SM.Srt m->SM.Srt (m.set s x)
 |[],_,_,_=>List.Pairwise.nil
 |(k,v)::m,s,x,h=>by
  have mem:∀{m:SM α} {p:Str×α},p∈m.set s x->∃q∈m,q.1=p.1:=by
   intro m
   induction m with
   |nil=>intro p hp;cases hp
   |cons r m ih=>
    intro p hp;obtain⟨k,v⟩:=r;simp only[SM.set]at hp
    split at hp
    ·rcases an_.1 hp with rfl|hp
     ·exact⟨_,ap_ ..,rfl⟩
     ·exact⟨p,aj_ _ hp,rfl⟩
    ·rcases an_.1 hp with rfl|hp
     ·exact⟨_,ap_ ..,rfl⟩
     ·obtain⟨q,h1,h2⟩:=ih hp;exact⟨q,aj_ _ h1,h2⟩
  simp only[SM.set]
  split
  ·exact bq_.2 ⟨fun p hp=>(bq_.1 h).1 p hp,(bq_.1 h).2⟩
  ·refine bq_.2 ⟨fun p hp=>?_,SM.Srt.set (bq_.1 h).2⟩
   obtain⟨q,h1,h2⟩:=mem hp;rw[←h2];exact(bq_.1 h).1 q h1
theorem SM.Srt.ins:∀{m:SM α} {s:Str} {x:α},SM.Srt m->m.get s=none->SM.Srt (m.ins s x)
 |[],_,_,_,_=>List.pairwise_singleton _ _
 |(k,v)::m,s,x,h,hn=>by
  have mem:∀{m:SM α} {p:Str×α},p∈m.ins s x->p=(s,x)∨p∈m:=by
   intro m
   induction m with
   |nil=>intro p hp;exact .inl (ao_.1 hp)
   |cons r m ih=>
    intro p hp;obtain⟨k,v⟩:=r;simp only[SM.ins]at hp
    split at hp
    ·rcases an_.1 hp with rfl|hp
     ·exact .inl rfl
     ·exact .inr hp
    ·rcases an_.1 hp with rfl|hp
     ·exact .inr (ap_ ..)
     ·exact(ih hp).imp id (aj_ _)
  have hne:s≠k:=fun hh=>by subst hh;simp[SM.get]at hn
  cases hl:ltS s k with
  |true=>
   have e:SM.ins ((k,v)::m) s x=(s,x)::(k,v)::m:=by simp only[SM.ins,Av6,hl,if_true]
   rw[e];refine bq_.2 ⟨fun p hp=>?_,h⟩
   rcases an_.1 hp with rfl|hp
   ·exact hl
   ·exact Ae0 hl ((bq_.1 h).1 p hp)
  |false=>
   have e:SM.ins ((k,v)::m) s x=(k,v)::SM.ins m s x:=by simp[SM.ins,Av6,hl]
   rw[e]
   have hk:ltS k s=true:=by
    cases hh:ltS k s with
    |true=>rfl
    |false=>exact absurd (Amu hl hh) hne
   refine bq_.2 ⟨fun p hp=>?_,SM.Srt.ins (bq_.1 h).2 (by simpa[SM.get,hne]using hn)⟩
   rcases mem hp with rfl|hp
   ·exact hk
   ·exact(bq_.1 h).1 p hp
theorem SM.Srt.put{m s}{x:α}(h:SM.Srt m):SM.Srt (m.put s x):=by
 unfold SM.put
 split
 ·exact h.set
 ·rename_i hn;exact h.ins hn
def SM.over(n m:SM α):SM α:=n.foldl (fun m p=>m.put p.1 p.2) m
theorem SM.Srt.over:∀{n m:SM α},SM.Srt m->SM.Srt (SM.over n m)
 |[],_,h=>h
 |p::n,m,h=>SM.Srt.over (n:=n) (m:=m.put p.1 p.2) h.put
def SM.Key1(m:SM α):Prop:=m.Pairwise fun p q=>p.1≠q.1
theorem SM.Srt.key1{m:SM α}(h:SM.Srt m):SM.Key1 m:=h.imp fun{p q} hh=>fun e=>by rw[e,Ag2]at hh;cases hh
theorem SM.get_over:∀{n m:SM α} {s:Str},SM.Key1 n->(SM.over n m).get s=(n.get s).or (m.get s)
 |[],_,_,_=>by simp[SM.over,SM.get]
 |(k,v)::n,m,s,h=>by
  have ih:=SM.get_over (n:=n) (m:=m.put k v) (s:=s) (bq_.1 h).2
  show(SM.over n (m.put k v)).get s=_
  rw[ih,ch_];simp only[SM.get]
  by_cases hs:s=k
  ·subst hs;rw[SM.get_none_of fun p hp hh=>(bq_.1 h).1 p hp hh.symm];simp
  ·simp[hs]
theorem Abs:∀{m:SM α} {p:(Str×α)×SM α},SM.Key1 m->p∈Ht m->SM.Key1 p.2/\p.2.get p.1.1=none/\∀s,m.get s=if s=p.1.1 then some p.1.2 else p.2.get s
 |[],p,_,h=>by simp[Ht]at h
 |(k,v)::m,p,hk,h=>by
  simp only[Ht,an_,bt_]at h;obtain⟨h1,h2⟩:=bq_.1 hk
  rcases h with rfl|⟨q,hq,rfl⟩
  ·exact⟨h2,SM.get_none_of fun p hp hh=>h1 p hp hh.symm,fun s=>rfl⟩
  ·obtain⟨g1,g2,g3⟩:=Abs h2 hq;obtain⟨m1,m2,_⟩:=Rp hq;have hne:k≠q.1.1:=h1 q.1 m1;refine⟨bq_.2 ⟨fun p hp=>h1 p ((m2 p).2 (.inr hp)),g1⟩,?_,fun s=>?_⟩
   ·simp only[SM.get];rw[if_neg (gx_ hne)];exact g2
   ·simp only[SM.get,g3 s]
    by_cases hs:s=k
    ·subst hs;simp[hne]
    ·simp[hs]
end
end Go.AM
namespace Go.AM
open Go
def ItV(σ:Sto):Prop:=∀c r ver left cur,σ.get c=some (.iter (some r) ver left cur)->∀kt es ver',σ.get r=some (.map kt es ver')->ver<=ver'
theorem Sim.itv{P C w σ}(h:Sim P C w σ):ItV σ:=fun c r ver left cur hg kt es ver' hr=>by
 have ho:=h.obj c _ hg;obtain⟨_,_,_,_,_,_,_,_,k3⟩:=ho;exact(k3 _ _ _ hr).1
theorem T_itv{E nt B df Q ρ σ c}(h:ItV σ->T E nt df B c Q ρ σ):T E nt df B c Q ρ σ:=fun ro n hn C w tm a ht st hB=>h st.sim.itv ro n hn C w tm a ht st hB
theorem WFS.setMap{σ}(hw:WFS σ)(hi:ItV σ){r kt ver ver' es es'}(hm:σ.get r=some (.map kt es ver))(hu:Jc (nx σ) es'=true)(hv:ver<ver'∨(ver'=ver/\es'=es)):WFS (σ.set r (.map kt es' ver')):=by
 intro a O hg;rw[aa_]at hg;rw[Aq]
 split at hg
 ·rename_i ha;cases hg;subst ha;exact⟨(hw _ _ hm).1,hu,trivial⟩
 ·obtain⟨h1,h2,h3⟩:=hw a O hg;refine⟨h1,h2,?_⟩;cases O with
  |iter m v left cur=>
   cases m with
   |none=>trivial
   |some q=>
    intro kt2 es2 hr;rw[aa_]at hr
    split at hr
    ·rename_i hq
     subst hq
     rcases hv with hv|⟨rfl,rfl⟩
     ·have:=hi a q v left cur hg _ _ _ hm;cases hr;omega
     ·cases hr;rw[Aq];exact h3 _ _ hm
    ·rw[Aq];exact h3 _ _ hr
  |cells _=>trivial
  |map _ _ _=>trivial
  |stamp _ _ _=>trivial
  |loop _=>trivial
theorem Ds.setMap{σ τ}(hw:WFS σ)(hi:ItV σ){r kt ver ver' es es'}(hm:σ.get r=some (.map kt es ver))(hu:Jc (nx σ) es'=true)(hv:ver<ver'∨(ver'=ver/\es'=es))
  (hn:nx σ<=nx τ)(hg:∀c,c<nx σ->c≠r->τ.get c=σ.get c)(hr:τ.get r=some (.map kt es' ver')):Ds τ (σ.set r (.map kt es' ver')):=by
 refine a_ (hw.setMap hi hm hu hv) (by rw[Aq];exact hn) fun c hc=>?_
 rw[Aq]at hc;rw[aa_]
 split
 ·rename_i h;subst h;exact hr
 ·rename_i h;exact hg c hc (by intro hh;exact h Om)
theorem Ag3(s):Key.eq (kS s) (kS s)=true:=by rw[Abl];simp
theorem Ae1{k}(hk:Key.eq k k=true){v z}:∀{es:List (Key×AV)},D5 k es=none->Ph k v (Nx k z es)=Nx k v es
 |[],_=>by
  simp only[Nx,Ph,hk,cond_true]
 |(k',v')::r,h=>by
  simp only[D5]at h;cases h1:Key.eq k k' with
  |true=>rw[h1]at h;cases h
  |false=>
   rw[h1]at h;simp only[Nx];cases h2:Key.lt k k' with
   |true=>simp only[cond_true,Ph,hk]
   |false=>simp only[cond_false,Ph,h1];rw[Ae1 hk h]
section
variable {E:Env}{ρ:Ad}{σ:Sto}{Rr:Rec}{t ty n r a:Nat}{x y w:Operand}{α:Type}{enc:α->AV}{m:SM α}{s:Str}
def Td(enc:α->AV)(z:AV)(m:SM α)(s:Str):List (Key×AV):=match m.get s with|some _=>Cn enc m|none=>Nx (kS s) z (Cn enc m)
theorem Ait{z sz ver agg}(h9:Fs E.P 9=true)(hi:mpI E.P t=some (9,z,sz,agg))(hx:Ah E ρ x=some (.mp r))(hm:σ.get r=some (.map 9 (Cn enc m) ver))(hy:Ah E ρ y=some (sV s)):
  As E Rr (.mapEntry t x y) ρ σ (.tup [((m.get s).map enc).getD z,.stp (nx σ)]) ((σ.set r (.map 9 (Td enc z m s) (ver+1))).new (.stamp r (ver+1) (kS s))):=fun tm h=>by
 obtain⟨ti,et,te,h1,h2,h3,h4,h5,h6⟩:=Abe hi;simp only[opA,Aw,h1,h2,h3,h4,h.opd hx,h.opd hy,keyS h9,Q8,hm,aw_,Ak,Ih,Td];cases m.get s<;>rfl
theorem Ad1{z sz ver agg v}(hi:mpI E.P t=some (9,z,sz,agg))(hx:Ah E ρ x=some (.mp r))(hy:Ah E ρ y=some (.stp a))(hw:Ah E ρ w=some (enc v))(hf:∀te:TI,te.size=sz->te.isAgg=agg->Je te (enc v)=true)
  (ha:σ.get a=some (.stamp r ver (kS s)))(hm:σ.get r=some (.map 9 (Td enc z m s) ver)):As E Rr (.entryStore t x y w) ρ σ An (σ.set r (.map 9 (Cn enc (m.put s v)) (ver+1))):=fun tm h=>by
 obtain⟨ti,et,te,h1,h2,h3,h4,h5,h6⟩:=Abe hi
 have e1:∃u,D5 (kS s) (Td enc z m s)=some u:=by
  unfold Td
  split
  ·rename_i u hu;rw[Ih,hu];exact⟨_,rfl⟩
  ·rename_i hu
   have:∀es,D5 (kS s) (Nx (kS s) z es)=some z∨∃u,D5 (kS s) es=some u:=by
    intro es
    induction es with
    |nil=>left;simp[Nx,D5,Ag3]
    |cons p r ih=>
     obtain⟨k',v'⟩:=p;simp only[Nx];cases h2:Key.lt (kS s) k' with
     |true=>left;simp[D5,Ag3]
     |false=>
      simp only[cond_false,D5];cases h1:Key.eq (kS s) k' with
      |true=>exact .inr ⟨v',rfl⟩
      |false=>exact ih
   rcases this (Cn enc m)with h|⟨u,h⟩
   ·exact⟨_,h⟩
   ·rw[Ih,hu]at h;cases h
 have e2:Ph (kS s) (enc v) (Td enc z m s)=Cn enc (m.put s v):=by
  unfold Td SM.put
  split
  ·rename_i u hu;rw[Abm];try rw[hu]
  ·rename_i hu;rw[Ae1 (Ag3 s) (by rw[Ih,hu];rfl),Abn];try rw[hu]
 obtain⟨u,e1⟩:=e1;simp only[opA,Aw,h1,h2,h3,h.opd hx,h.opd hy,h.opd hw,Mf,ha,hm,aw_,hf te h5 h6,be_,Ak,e1,e2]
theorem G0{parts z cs sz len agg ps}(hz:(match Ay E.P t with|some ti=>ti.zero|none=>none)=some z)(hi:arI E.P t=some (len,sz,agg))
  (hp:W3 E ρ sz parts.toList=some ps)(hf:Si z ps=some cs):As E Rr (.build t parts) ρ σ (.agg cs) σ:=fun tm h=>by
 unfold arI at hi
 split at hi
 ·rename_i ti hti
  rw[hti]at hz;simp only at hz
  split at hi
  ·rename_i nn e he
   split at hi
   ·rename_i te hte
    simp only[af_,ba_]at hi;obtain⟨k1,k2,k3⟩:=hi;subst k1 k2;simp only[opA,Aw,hti,hz,he,hte,Abk h hp,M2,hf]
   ·cases hi
  ·cases hi
 ·cases hi
theorem Ao4{sz m agg k cs v}(hi:arI E.P t=some (m,sz,agg))(hx:Ah E ρ x=some (.agg cs))(hy:Ah E ρ y=some (.int k (.ofNat n)))
  (hn:n<m)(hv:Cz sz agg (cs.drop (n*sz))=some v):As E Rr (.index t x y) ρ σ v σ:=fun tm h=>by
 unfold arI at hi
 split at hi
 ·rename_i ti hti
  split at hi
  ·rename_i nn e he
   split at hi
   ·rename_i te hte
    simp only[af_,ba_]at hi;obtain⟨k1,k2,k3⟩:=hi;subst k1 k2 k3
    have hb:Nat.blt n nn=true:=by simpa using hn
    simp only[opA,Aw,hti,he,hte,h.opd hx,h.opd hy,Le,hb,cond_true,Ml,hv]
   ·cases hi
  ·cases hi
 ·cases hi
end
section
variable {E:Env}{nt B:Nat}{Q Q':Cc}{ρ ρ':Ad}{σ σ':Sto}
def TRd(E:Env)(nt B:Nat)(c:Code)(Q:Cc)(ρ:Ad)(σ:Sto):Prop:=
 ∀(l₀ n:Nat) (C:Ctx) (w:World) (tm:Tr AV) (a:Act),Has tm ρ->SSt E C w ⟨tm,nt,[],σ⟩ a->B<=nx σ->c.wpIn (Cy (some l₀)) n E.P (Sd E nt [] B Q C w) a w
theorem Ao5{id c}(h:TRd E nt B c (Qf id Q) ρ σ):TRd E nt B (.block id c) Q ρ σ:=by
 intro l₀ n C w tm a ht st hB;refine wpIn_block (wpIn_mono (h l₀ n C w tm a ht st hB) fun e a' w' he=>?_)
 obtain⟨x',tm',ρ',σ',C',h1,h2,h3,h4,hB',h5⟩:=he;subst h1;cases x' with
 |normal=>exact⟨.normal,tm',ρ',σ',C',rfl,h2,h3,h4,hB',h5⟩
 |ret=>exact⟨.ret,tm',ρ',σ',C',rfl,h2,h3,h4,hB',h5⟩
 |exit j=>
  simp only[Qf]at h3
  by_cases hj:j=id
  ·subst hj;rw[aw_]at h3;simp only[Jj,Exit.inBlock,if_true];exact⟨.normal,tm',ρ',σ',C',rfl,h2,h3,h4,hB',h5⟩
  ·have hb:Nat.beq j id=false:=by cases hb:Nat.beq j id with|true=>exact absurd (ac_ hb) hj|false=>rfl
   rw[hb]at h3;simp only[Jj,Exit.inBlock,if_neg hj];exact⟨.exit j,tm',ρ',σ',C',rfl,h2,h3,h4,hB',h5⟩
theorem Abt{id ops}(hn:D6 ops.toList=true)(h:TO E nt [] B ops.toList ops.toList (fun ρ σ=>Q .normal ρ σ) ρ σ):TRd E nt B (.region id ops false) Q ρ σ:=
 fun l₀ n=>B7 h (some l₀) n (.inr hn)
end
def YTo(E:Env)(L:RF)(args:List AV)(σ:Sto)(Post:Sto->Prop):Prop:=
 ∀(C:Ctx) (w:World) (vs:Array Value),Gk L C (nx σ) w->Sim E.P C w σ->Iw C (nx σ) w E->RL C (nx σ) w args vs.toList->
  ∃r,w.heap[(C.stm L.aY).toNat]? =some (.loop (C9 r .ready))/\vs.size=r.params.size/\∀n,RoundIn Fence.wide n E.P (C.stm L.aY).toNat r.fn ((r.params.zip vs).foldl (fun tmps (t,a)=>tmps.setIfInBounds t a) r.tmps) r.assign r.body w fun e w'=>
   e=.returned (.bool true)/\∃C' σ',Post σ'/\Sim E.P C' w' σ'/\Ext C (nx σ) w C' (nx σ') w'
def Amv:List Nat->List AV->Ad->Ad
 |p::ps,x::xs,ρ=>Amv ps xs ((p,x)::ρ)
 |_,_,ρ=>ρ
theorem Qk{C N w nt}:∀{ps:List Nat} {args:List AV} {vs:List Value} {tm:Tr AV} {ρ:Ad} {tmps:Array Value},args.length=ps.length->ps.all (fun p=>Nat.blt p nt)=true->Has tm ρ->TR C N w tm tmps->tmps.size=nt->RL C N w args vs->
  vs.length=ps.length/\∃tm',Has tm' (Amv ps args ρ)/\TR C N w tm' ((ps.zip vs).foldl (fun tmps (t,a)=>tmps.setIfInBounds t a) tmps)/\((ps.zip vs).foldl (fun tmps (t,a)=>tmps.setIfInBounds t a) tmps).size=nt
 |[],[],[],tm,ρ,tmps,_,_,ht,hT,hs,_=>⟨rfl,tm,ht,hT,hs⟩
 |[],[],_::_,_,_,_,_,_,_,_,_,h=>by unfold RL at h;exact h.elim
 |[],_::_,_,_,_,_,h,_,_,_,_,_=>by cases h
 |_::_,[],_,_,_,_,h,_,_,_,_,_=>by cases h
 |_::_,_::_,[],_,_,_,_,_,_,_,_,h=>by unfold RL at h;exact h.elim
 |p::ps,x::xs,v::vs,tm,ρ,tmps,hl,hb,ht,hT,hs,hr=>by
  unfold RL at hr;simp only[cs_,ad_]at hb;obtain⟨tm1,h1,h2⟩:=C6 (nt:=nt) (dst:=some p) hb.1 ht x;obtain⟨k1,k2,_⟩:=TR.put (a:={ tmps:=tmps,defers:=[] }) hT hs h1 hr.1
  have pz:(({ tmps:=tmps,defers:=[] }:Act).put (some p) v).tmps=tmps.setIfInBounds p v:=by simp[Act.put]
  rw[pz]at k1 k2
  obtain⟨q1,tm',q2,q3,q4⟩:=Qk (by simpa using hl) hb.2 h2 k1 k2 hr.2
  exact⟨by simp[q1],tm',q2,q3,q4⟩
theorem Aw5{E L ρL args σ Post}(hL:Has L.tm ρL)(hl:args.length=L.ps.toList.length)(hps:L.ps.toList.all (fun p=>Nat.blt p L.nt)=true)(hrd:σ.get L.aY=some (.loop .ready))(hY0:L.aY<nx σ)
  (h:TRd E L.nt (nx σ) L.assign (fun|.normal=>fun ρ₁ σ₁=>σ₁.get L.aY=some (.loop .ready)/\TRd E L.nt (nx σ) L.body (fun|.normal=>fun _ σ₂=>σ₂.get L.aY=some (.loop .busy)/\Post (σ₂.set L.aY (.loop .ready))|_=>fun _ _=>False) ρ₁ (σ₁.set L.aY (.loop .busy))|_=>fun _ _=>False) (Amv L.ps.toList args ρL) σ):
  YTo E L args σ Post:=by
 intro C w vs hi hs hg bp;obtain⟨hY1,hY2,r,hlr,hTR,hsz,hp,has,hbo⟩:=hi;obtain⟨c,r',h1,h2,h3⟩:=hs.obj _ _ hrd;rw[hlr]at h2;cases h2;have hc:=hY2 c 0 h1;subst hc;obtain⟨q1,tm',q0,q2,q3⟩:=Qk (nt:=L.nt) hl hps hL hTR hsz bp
 have jj:(L.ps.toList.zip vs.toList).foldl (fun tmps (t,a)=>tmps.setIfInBounds t a) r.tmps=(L.ps.zip vs).foldl (fun tmps (t,a)=>tmps.setIfInBounds t a) r.tmps:=by
  rw[←fv_,Array.toList_zip]
 rw[jj]at q2 q3
 refine⟨r,h3,by rw[hp];simpa using q1,fun n=>?_⟩
 refine roundIn_of_wpIn (F:=Fence.wide) trivial ?_;rw[has,hbo,hp]
 have st0:SSt E C w ⟨tm',L.nt,[],σ⟩ { tmps:=(L.ps.zip vs).foldl (fun tmps (t,a)=>tmps.setIfInBounds t a) r.tmps,defers:=[] }:=⟨hs,hg,q2,q3,by unfold DR;trivial⟩
 refine wpIn_mono (h (C.stm L.aY).toNat n C w tm' _ q0 st0 nl) fun e a₁ w₁ hq=>?_
 obtain⟨x₁,tm₁,ρ₁,σ₁,C₁,hye,ht₁,hq₁,st₁,hB₁,e₁⟩:=hq;subst hye;cases x₁ with
 |ret=>exact hq₁.elim
 |exit _=>exact hq₁.elim
 |normal=>
  obtain⟨hrd₁,ce⟩:=hq₁;obtain⟨c₁,r₁,j1,j2,j3,j4,j5⟩:=st₁.sim.turnLoop hrd₁ .busy
  have hr₁:r₁=r:=by
   have:=e₁.lr _ hY0;rw[j2,hlr]at this;exact by_ this
  subst hr₁;have hc₁:c₁=(C.stm L.aY).toNat:=hY2 c₁ 0 (e₁.loc _ hY0 _ j1);subst hc₁;refine⟨_,run_beginRound j3 rfl,?_⟩;have st₂:SSt E C₁ (w₁.putObj (C.stm L.aY).toNat (.loop (C9 r₁ .busy))) ⟨tm₁,L.nt,[],σ₁.set L.aY (.loop .busy)⟩ a₁:=
   ⟨j4,by show Iw _ (nx (σ₁.set _ _)) _ _;rw[Aq];exact st₁.glob.ext j5,by show TR _ (nx (σ₁.set _ _)) _ _ _;rw[Aq];exact st₁.tmps.ext j5,st₁.size,by show DR _ (nx (σ₁.set _ _)) _ _ _;rw[Aq];exact st₁.dfs.ext j5⟩
  refine wpIn_mono (ce (C.stm L.aY).toNat n C₁ _ tm₁ _ ht₁ st₂ (by rw[Aq];exact hB₁)) fun e a₃ w₃ hq=>?_
  obtain⟨x₃,tm₃,ρ₃,σ₃,C₂,hye,ht₃,hq₃,st₃,hB₃,e₂⟩:=hq;subst hye;cases x₃ with
  |ret=>exact hq₃.elim
  |exit _=>exact hq₃.elim
  |normal=>
   obtain⟨hbu,bh⟩:=hq₃;obtain⟨c₂,r₂,m1,m2,m3,m4,m5⟩:=st₃.sim.turnLoop hbu .ready
   have hr₂:r₂=r₁:=by
    have:=e₂.lr _ hY0;rw[m2,j2]at this;exact by_ this
   subst hr₂;have hc₂:c₂=(C.stm L.aY).toNat:=hY2 c₂ 0 (e₁.loc _ hY0 _ (e₂.loc _ hY0 _ m1));subst hc₂;have da:=run_endRound (P:=E.P) none m3;refine⟨_,_,da,rfl,C₂,_,bh,m4,?_⟩;rw[Aq];exact(((e₁.trans (j5.base hB₁)).trans e₂).trans (m5.base hB₃)).top hB₃
def TIt(E:Env)(L:RF)(nt B:Nat)(c:Code)(Q:Cc)(ρ:Ad)(σ:Sto):Prop:=
 ∀(C:Ctx) (w:World) (tm:Tr AV) (a:Act),Gk L C B w->Has tm ρ->SSt E C w ⟨tm,nt,[],σ⟩ a->B<=nx σ->c.wp E.P (Sd E nt [] B Q C w) a w
section
variable {E:Env}{L:RF}{nt B:Nat}{Q Q':Cc}{ρ ρ':Ad}{σ σ':Sto}
theorem Te{c}(h:T E nt [] B c Q ρ σ):TIt E L nt B c Q ρ σ:=fun C w tm a _ ht st hB=>(wpIn_wide (n:=0)).1 (h none 0 (.inl rfl) C w tm a ht st hB)
theorem TIt.mono{c}(h:TIt E L nt B c Q ρ σ)(hQ:∀x ρ σ,Q x ρ σ->Q' x ρ σ):TIt E L nt B c Q' ρ σ:=fun C w tm a hi ht st hB=>wp_mono (h C w tm a hi ht st hB) fun e a' w' he=>he.mono hQ
theorem Abu(h:Q .normal ρ σ):TIt E L nt B .skip Q ρ σ:=Te (Agu h)
theorem Are{n}(h:Q (.exit n) ρ σ):TIt E L nt B (.exit n) Q ρ σ:=Te (Agv h)
theorem Rq{x y}(h:TIt E L nt B x (Pa (TIt E L nt B y Q) Q) ρ σ):TIt E L nt B (.seq x y) Q ρ σ:=by
 intro C w tm a hi ht st hB;refine wp_seq (wp_mono (h C w tm a hi ht st hB) fun e a' w' he=>?_)
 obtain⟨x',tm',ρ',σ',C',h1,h2,h3,h4,hB',h5⟩:=he;subst h1;cases x' with
 |normal=>exact wp_mono (h3 C' w' tm' a' (hi.ext h5) h2 h4 hB') fun e a'' w'' he=>he.from h5
 |exit id=>exact⟨.exit id,tm',ρ',σ',C',rfl,h2,h3,h4,hB',h5⟩
 |ret=>exact⟨.ret,tm',ρ',σ',C',rfl,h2,h3,h4,hB',h5⟩
theorem Abv{c x y b}(hc:Ah E ρ c=some (.bool b))(h1:b=true->TIt E L nt B x Q ρ σ)(h2:b=false->TIt E L nt B y Q ρ σ):TIt E L nt B (.cond c x y) Q ρ σ:=by
 intro C w tm a hi ht st hB;have hv:=Be st.glob st.tmps c;rw[ht.opd hc]at hv;unfold R at hv;cases b with
 |true=>exact wp_cond_true hv (h1 rfl C w tm a hi ht st hB)
 |false=>exact wp_cond_false hv (h2 rfl C w tm a hi ht st hB)
theorem Ae2{id c}(h:TIt E L nt B c (Qf id Q) ρ σ):TIt E L nt B (.block id c) Q ρ σ:=by
 intro C w tm a hi ht st hB;refine wp_block (wp_mono (h C w tm a hi ht st hB) fun e a' w' he=>?_)
 obtain⟨x',tm',ρ',σ',C',h1,h2,h3,h4,hB',h5⟩:=he;subst h1;cases x' with
 |normal=>exact⟨.normal,tm',ρ',σ',C',rfl,h2,h3,h4,hB',h5⟩
 |ret=>exact⟨.ret,tm',ρ',σ',C',rfl,h2,h3,h4,hB',h5⟩
 |exit j=>
  simp only[Qf]at h3
  by_cases hj:j=id
  ·subst hj;rw[aw_]at h3;simp only[Jj,Exit.inBlock,if_true];exact⟨.normal,tm',ρ',σ',C',rfl,h2,h3,h4,hB',h5⟩
  ·have hb:Nat.beq j id=false:=by cases hb:Nat.beq j id with|true=>exact absurd (ac_ hb) hj|false=>rfl
   rw[hb]at h3;simp only[Jj,Exit.inBlock,if_neg hj];exact⟨.exit j,tm',ρ',σ',C',rfl,h2,h3,h4,hB',h5⟩
theorem Arf{c}(I:Nat->Ad->Sto->Prop)(n)(h0:∃ρ',Km ρ' ρ/\I n ρ' σ)
  (hs:∀n ρ σ,I n ρ σ->TIt E L nt B c (Pa (fun ρ' σ'=>∃m ρ'',m<n/\Km ρ'' ρ'/\I m ρ'' σ') Q) ρ σ):TIt E L nt B (.loop c) Q ρ σ:=by
 have key:∀(n:Nat) (ρ:Ad) (σ:Sto),I n ρ σ->∀(C:Ctx) (w:World) (tm:Tr AV) (a:Act),Gk L C B w->Has tm ρ->SSt E C w ⟨tm,nt,[],σ⟩ a->B<=nx σ->∀(b:Frame) (k:List Item) (cs:List Frame),
   ∃e a' w',Sd E nt [] B Q C w e a' w'/\Arrives E.P (lone (b.at a (.code c::.inLoop c::k)) cs w) b k cs e a' w':=by
  intro n
  induction n using Nat.strongRecOn with
  |_ n ih=>
   intro ρ σ hI C w tm a hi ht st hB b k cs;obtain⟨e,a₁,w₁,hq,br⟩:=hs n ρ σ hI C w tm a hi ht st hB b (.inLoop c::k) cs;obtain⟨x',tm',ρ',σ',C',h1,h2,h3,h4,hB',h5⟩:=hq;subst h1;cases x' with
   |normal=>
    obtain⟨m,ρ'',hm,cc,hI'⟩:=h3;obtain⟨e₂,a₂,w₂,hq₂,harr₂⟩:=ih m hm ρ'' σ' hI' C' w₁ tm' a₁ (hi.ext h5) (h2.subL cc) h4 hB' b k cs;exact⟨e₂,a₂,w₂,hq₂.from h5,.of_steps (Steps.trans br (.one step_inLoop)) harr₂⟩
   |exit id=>exact⟨.exit id,a₁,w₁,⟨_,tm',ρ',σ',C',rfl,h2,h3,h4,hB',h5⟩,.pass (x:=.inLoop c) rfl (fun _ _=>.inl (by simp)) br⟩
   |ret=>exact⟨.ret,a₁,w₁,⟨_,tm',ρ',σ',C',rfl,h2,h3,h4,hB',h5⟩,.pass (x:=.inLoop c) rfl (fun _ _=>.inl (by simp)) br⟩
 intro C w tm a hi ht st hB b k cs;obtain⟨ρ',cc,hI⟩:=h0;obtain⟨e,a',w',hq,br⟩:=key n ρ' σ hI C w tm a hi (ht.subL cc) st hB b k cs;exact⟨e,a',w',hq,.of_steps (.one step_loop) br⟩
theorem Ao6{α:Type}{c}(ρI:α->Ad)(P:α->Sto->Prop)(μ:α->Nat)(a₀)(h0:Km (ρI a₀) ρ)(h1:P a₀ σ)
  (hs:∀a σ,P a σ->TIt E L nt B c (Pa (fun ρ' σ'=>∃a',μ a'<μ a/\Km (ρI a') ρ'/\P a' σ') Q) (ρI a) σ):TIt E L nt B (.loop c) Q ρ σ:=by
 refine Arf (fun n ρ σ=>∃a,n=μ a/\ρ=ρI a/\P a σ) (μ a₀) ⟨ρI a₀,h0,a₀,rfl,rfl,h1⟩ ?_
 grind
def TOI(E:Env)(L:RF)(nt B:Nat)(ops r:List Oper)(K:Ad->Sto->Prop)(ρ:Ad)(σ:Sto):Prop:=
 ∀(C:Ctx) (w:World) (tm:Tr AV) (a:Act),Gk L C B w->Has tm ρ->SSt E C w ⟨tm,nt,[],σ⟩ a->B<=nx σ->∀(arr:Array Oper) (i n:Nat) (QQ:Exit->Act->World->Prop),arr.toList=ops->(∀j,j<r.length->r[j]? =arr[i+j]?)->
  (∀C' w' a' tm' ρ' σ',Has tm' ρ'->K ρ' σ'->SSt E C' w' ⟨tm',nt,[],σ'⟩ a'->B<=nx σ'->Ext C B w C' B w'->QQ .normal a' w')->wpOpsIn Fence.wide n E.P arr QQ (List.range' i r.length) a w
variable {K:Ad->Sto->Prop}{ops r:List Oper}
theorem Ak9{id ops}(h:TOI E L nt B ops.toList ops.toList (fun ρ σ=>Q .normal ρ σ) ρ σ):TIt E L nt B (.region id ops false) Q ρ σ:=by
 intro C w tm a hi ht st hB;refine(wpIn_wide (n:=0)).1 (wpIn_region ?_);rw[dr_,←cd_];exact h C w tm a hi ht st hB ops 0 0 (Sd E nt [] B Q C w) rfl gr fun C' w' a' tm' ρ' σ' h1 h2 h3 h4 h5=>⟨.normal,tm',ρ',σ',C',rfl,h1,h2,h3,h4,h5⟩
theorem Amw(h:K ρ σ):TOI E L nt B ops [] K ρ σ:=by
 intro C w tm a hi ht st hB arr i n QQ _ _ hQ;simp only[cu_,gr_,wpOpsIn];exact hQ C w a tm ρ σ ht h st hB (cf_ _ _ _)
theorem Ag4{o Rr}(hR:Bk E Rr)(hn:Ra o.op=false){ρ₁ σ₁}
  (h:∀tm,Has tm ρ->∃tm',Yi E ops o Rr ⟨tm,nt,[],σ⟩=some ⟨tm',nt,[],σ₁⟩/\Has tm' ρ₁)(k:TOI E L nt B ops r K ρ₁ σ₁):TOI E L nt B ops (o::r) K ρ σ:=by
 intro C w tm a hi ht st hB arr i n QQ br hr hQ;obtain⟨tm',h1,h2⟩:=h tm ht
 have ho:arr[i]? =some o:=by have:=hr 0 (by simp);grind
 simp only[as_,cj_,wpOpsIn,ho];have h1':Yi E arr.toList o Rr ⟨tm,nt,[],σ⟩=some ⟨tm',nt,[],σ₁⟩:=gr;have:=Aa3 (K:=wpOpsIn Fence.wide n E.P arr QQ (List.range' (i+1) r.length)) (Q:=QQ) hR st h1' (ro:=none) (n:=n) (hpl:=.inl rfl) fun C' w' a' st' e'=>
  k C' w' tm' a' (hi.ext (e'.base hB)) h2 st' (ai_ hB e'.next) arr (i+1) n QQ br (fun j hj=>by have:=hr (j+1) gr;grind)
   fun C2 w2 a2 tm2 ρ2 σ2 q1 q2 q3 qB q4=>hQ C2 w2 a2 tm2 ρ2 σ2 q1 q2 q3 qB ((e'.base hB).trans q4)
 rcases this with⟨h2,h3⟩|⟨h2,h3⟩
 ·rw[if_pos h2];exact h3
 ·rw[if_neg gr];exact⟨fun _ _=>trivial,h3⟩
theorem Tf{op}(h:Ga op=true):Ra op=false:=by cases op<;>first|rfl|cases h
theorem W5{op dst}{ty:Nat}{pos after Rr v σ₁}(hR:Bk E Rr)(hn:Ga op=true)(hd:B0 nt dst=true)(h:As E Rr op ρ σ v σ₁)
  (k:TOI E L nt B ops r K (Dt dst v ρ) σ₁):TOI E L nt B ops ({ dst:=dst,op:=op,type:=ty,pos:=pos,after:=after,guard:=none }::r) K ρ σ:=by
 refine Ag4 hR (Tf hn) (fun tm ht=>?_) k
 obtain⟨tm',h1,h2⟩:=C6 (dst:=dst) hd ht v;refine⟨tm',?_,h2⟩;rw[Rk (s:=⟨tm,nt,[],σ⟩) rfl hn];simp only[h tm ht,h1]
theorem Ala{o oj Rr v σ₁}{j d:Nat}{b want}(hg:o.guard=some (j,want))(hj:ops[j]? =some oj)(hdj:oj.dst=some d)(hb:Ad.at ρ d=some (.bool b))(hw:cond b want (!want)=true)
  (hR:Bk E Rr)(hn:Ga o.op=true)(hd:B0 nt o.dst=true)(h:As E Rr o.op ρ σ v σ₁)(k:TOI E L nt B ops r K (Dt o.dst v ρ) σ₁):TOI E L nt B ops (o::r) K ρ σ:=by
 refine Ag4 hR (Tf hn) (fun tm ht=>?_) k
 obtain⟨tm',h1,h2⟩:=C6 (dst:=o.dst) hd ht v;refine⟨tm',?_,h2⟩
 rw[Rk (s:=⟨tm,nt,[],σ⟩) (by rw[Hf ht hg hj hdj hb,hw]) hn]
 simp only[h tm ht,h1]
theorem Z0{o oj}{j d:Nat}{b want}(hn:Ga o.op=true)(hg:o.guard=some (j,want))(hj:ops[j]? =some oj)(hdj:oj.dst=some d)(hb:Ad.at ρ d=some (.bool b))(hw:cond b want (!want)=false)
  (hd:B0 nt o.dst=true)(k:TOI E L nt B ops r K (Dt o.dst An ρ) σ):TOI E L nt B ops (o::r) K ρ σ:=by
 refine Ag4 di_ (Tf hn) (fun tm ht=>?_) k
 obtain⟨tm',h1,h2⟩:=C6 (dst:=o.dst) hd ht An;refine⟨tm',?_,h2⟩;unfold Yi;rw[Hf ht hg hj hdj hb,hw]
 grind
theorem Ao7{o f args}{tys:Array Nat}{vs Post}(hg:∀tm,Has tm ρ->Bn ops o tm=some true)(hop:o.op=.call ⟨.value f,args,tys⟩)(hd:B0 nt o.dst=true)(hf:Ah E ρ f=some (.yl L.aY))(ha:Kc E ρ args.toList=some vs)
  (hy:YTo E L vs σ Post)(k:∀σ',Post σ'->nx σ<=nx σ'->TOI E L nt B ops r K (Dt o.dst (.bool true) ρ) σ'):TOI E L nt B ops (o::r) K ρ σ:=by
 intro C w tm a hi ht st hB arr i n QQ br hr hQ
 have ho:arr[i]? =some o:=by have:=hr 0 (by simp);grind
 simp only[as_,cj_,wpOpsIn,ho];have hw:Region.wanted o (yielded arr a.tmps)=true:=Dp st.tmps gr;rw[if_pos hw]
 have hnd:Ra o.op=false:=by rw[hop];rfl
 have hV:=Be st.glob st.tmps f;rw[ht.opd hf]at hV;unfold R at hV;obtain⟨hV,_⟩:=hV;have hA:=Dm st.glob st.tmps args.toList;rw[ht.opds ha]at hA
 have hA':RL C (nx σ) w vs (args.map a.eval).toList:=by simp only[c_];exact hA
 have hi':Gk L C (nx σ) w:=hi.ext ((cf_ C B w).top hB);obtain⟨r',fa,hsz,ca⟩:=hy C w _ hi' st.sim st.glob hA';have hyl:=run_yield (P:=E.P) (args:=args.map a.eval) fa hsz
 have bq:(execOp a.eval o).run E.P w=.ok (.round (C.stm L.aY).toNat r'.fn ((r'.params.zip (args.map a.eval)).foldl (fun tmps (t,a)=>tmps.setIfInBounds t a) r'.tmps) r'.assign r'.body) w:=by
  simp[execOp,hop,resolve,hV,Deferred.ofValue,invoke]
  simpa[C9]using hyl
 refine⟨fun _ _=>trivial,?_⟩
 rw[Oper.semAt_eq _ _ _ gr,bq,Oper.uponIn_round]
 refine⟨fun hh=>(by cases hh),(ca (n-1)).mono fun e w' he=>?_⟩
 obtain⟨rfl,C',σ',hp,k1,k2⟩:=he;obtain⟨tm',h1,h2⟩:=C6 (nt:=nt) (dst:=o.dst) hd ht (.bool true)
 have st':=st.put (x:=.bool true) k1 k2 (by unfold R;rfl) h1
 exact k σ' hp k2.next C' w' tm' _ (hi.ext (k2.base hB)) h2 st' (ai_ hB k2.next) arr (i+1) n QQ br (fun j hj=>by have:=hr (j+1) gr;grind)
  fun C2 w2 a2 tm2 ρ2 σ2 q1 q2 q3 qB q4=>hQ C2 w2 a2 tm2 ρ2 σ2 q1 q2 q3 qB ((k2.base hB).trans q4)
end
def Ql(E:Env)(L:RF)(f:Nat)(args:List AV)(σ:Sto)(Post:Sto->Prop):Prop:=
 ∀(C:Ctx) (w:World) (vs:Array Value),Gk L C (nx σ) w->Sim E.P C w σ->Iw C (nx σ) w E->RL C (nx σ) w args vs.toList->
  Calls E.P f vs w fun
   |.returned _,w'=>∃σ' C',Post σ'/\Sim E.P C' w' σ'/\Ext C (nx σ) w C' (nx σ') w'
   |_,_=>False
theorem Aw6{E L f fn c args σ Post}(hfn:E.P.funcs[f]? =some fn)(hc:fn.body=some c)(hle:Nat.ble args.length fn.ntmps=true)(dk:fn.results=#[])
  (h:WFS σ->AV.unds (nx σ) args=true->TIt E L fn.ntmps (nx σ) c (Aox fun _ σ'=>Post σ') (Hg args 0) σ):Ql E L f args σ Post:=by
 intro C w vs hi hs hg bp;refine calls_of_wp_defers hfn hc ?_;have hle:=al_ hle;have st:=Ur (E:=E) (fn:=fn) hs hg bp hle
 have ht:Has (Kz args 0 .e) (Hg args 0):=fun i v hv=>by
  rw[Ig];rw[L3]at hv
  grind
 refine wp_mono (h hs.wfs (RL.unds _ _ bp) C w _ _ hi ht st nl) fun e a' w' he=>?_
 obtain⟨x,tm',ρ',σ₁,C',h1,h2,h3,h4,hB,h5⟩:=he;subst h1;have fin:Post σ₁->Leaves E.P fn a'.tmps (fun
   |.returned _,w'=>∃σ' C',Post σ'/\Sim E.P C' w' σ'/\Ext C (nx σ) w C' (nx σ') w'
   |_,_=>False) a'.defers .returning w':=by
  intro hx
  have hds:a'.defers=[]:=by
   have hd:=h4.dfs;cases hds:a'.defers with
   |nil=>rfl
   |cons d ds=>rw[hds]at hd;unfold DR at hd;exact hd.elim
  have r1:Us E ρ' σ₁ fn.results.toList=some []:=by rw[dk];rfl
  obtain⟨x,k1,k2⟩:=Hx (fn:=fn) h4.sim h4.tmps (S8 h2 r1);rw[hds];exact⟨x,k1,σ₁,C',hx,h4.sim,h5.top hB⟩
 cases x with
 |normal=>exact fin h3
 |ret=>exact fin h3
 |exit id=>exact h3.elim
section
variable {E:Env}{L:RF}{nt B:Nat}{ρ:Ad}{σ:Sto}{K:Ad->Sto->Prop}
end
theorem Aw7{E}(hm:E.P.follows .mixedOrders=true){Rr}(hR:Bk E Rr){ops s d C w a}(st:SSt E C w s a)
  (c1:Eu ops (Region.before ops).toList=true)(c2:Fo ops=true)(c3:Mg (Region.before ops).toList (A8 E ops.toList 0)=true)(hd:T9 E ops.toList Rr ops.toList ⟨s,[s.sto],[]⟩=some d)
  (hb:∀(j:Nat) (o:Oper) (t:Tr AV) (v:AV),ops[j]? =some o->d.log.reverse[j]? =some (t,v)->Bc E o.op=.read->Agn E ops.toList o t v
   ((d.eps.reverse.drop (Bl (fun e=>((Region.before ops).getD j 0).testBit e) (A8 E ops.toList 0))).take (Bl (fun e=> !((Region.before ops).getD e 0).testBit j) (A8 E ops.toList 0)+1-Bl (fun e=>((Region.before ops).getD j 0).testBit e) (A8 E ops.toList 0)))){ro n Q}(hQ:∀a' w',Aej E C (nx s.sto) w [(.normal,d.s)] .normal a' w'->Q .normal a' w'):
  wpAnyIn (Cy ro) n E.P .any ops Q ops.size (Array.replicate ops.size false) a { w with drawn:=w.drawn+1 }:=by
 obtain⟨log,eps,lex,k2,k3,k4,k5⟩:=Lz hd;simp only[dy_,bd_,d_]at k2 k3;obtain⟨x1,x2,x3,x4,x5⟩:=Wq lex
 have bl:ops.toList.length=ops.size:=by simp
 have hT:∀k,k<ops.size->∃o,ops[k]? =some o/\Ka o.dst (((log.map (·.1)++[d.s.tm])[k]?).getD .e) s.nt (((log[k]?).map (·.2)).getD .any)=some (((log.map (·.1)++[d.s.tm])[k+1]?).getD .e):=by
  intro k hk
  have ho:ops.toList[k]? =some ops[k]:=by simp[hk]
  grind
 have lx:Aer E ops Rr s.nt s.tm (A8 E ops.toList 0) (fun k=>((log.map (·.1)++[d.s.tm])[k]?).getD .e) (fun k=>((log[k]?).map (·.2)).getD .any) (s.sto::eps):=by
  refine⟨c1,rfl,by simp only[as_,x2,Nj ops.toList 0],c3,fun j o ho=>?_,fun j hj t=>?_,fun j o ho hc=>?_⟩
  ·obtain⟨t,v,t₁,σk,σ₁,y1,y2,y3,y4,y5,y6⟩:=x5 j o gr
   grind
  ·exact Ni (n:=ops.size) gr hT j hj t
  grind
 obtain⟨t1,t2⟩:=st.sim.same (w':={ w with drawn:=w.drawn+1 }) nl (fun _ _=>rfl) ⟨rfl,rfl⟩
 have cz:∀i,(Array.replicate ops.size false).getD i false=false:=fun i=>by
  rw[bo_,Array.getElem?_replicate];grind
 refine Wt (C₀:=C) (N₀:=nx s.sto) (w₀:=w) (df:=s.df) hR lx c2 (fun L m σ C' w' a' iv bs=>?_) ops.size _ 0 s.sto C _ a (by simp) (Ri cz) ?_
 ·obtain⟨z1,z2⟩:=iv.last lx bs
  have hσ:σ=d.s.sto:=by
   rw[←Nj,←x2,x4]at z1;grind
  subst hσ;refine hQ _ _ ⟨(.normal,d.s),ev_ _,C',rfl,?_,iv.ext⟩;have hTn:((log.map (·.1)++[d.s.tm])[ops.size]?).getD .e=d.s.tm:=gr;simp only[hTn]at z2
  exact⟨z2.sim,z2.glob,z2.tmps,by rw[k4];exact z2.size,by rw[k5];exact z2.dfs⟩
 ·refine⟨fun j hj=>?_,fun k e _=>?_,rfl,t1,st.glob.ext t2,fun t x hx=>?_,st.size,st.dfs.ext t2,t2⟩
  ·grind
  ·grind
  ·refine R.ext t2 _ _ (st.tmps t x ?_);rw[←hx,He (k:=0) (aq_ _) fun i _ _ _=>cz i];rfl
theorem Arg{α:Type}{l:List α}{i}(h:i<l.length):∃a,l[i]? =some a:=⟨_,az_ h⟩
def Qm:Nat->List (List Bool)
 |0=>[[]]
 |n+1=>(Qm n).flatMap fun l=>[false::l,true::l]
theorem Abw:∀l:List Bool,l∈Qm l.length
 |[]=>by simp[Qm]
 |b::l=>by
  have:=Abw l;simp only[as_,Qm,List.mem_flatMap]
  exact⟨l,this,by cases b<;>simp⟩
def Dq(ops:List Oper):List Bool:=ops.map fun _=>false
def Jp(ops:List Oper):List Bool:=ops.map fun _=>true
def Aiu(ops:List Oper)(l:List Bool):Bool:=(List.range ops.length).all fun i=> !(l[i]?).getD false||(match ops[i]? with|some o=>o.after.all fun e=> !Region.binds .any e||(l[e.on]?).getD false|none=>true)
def Alb(ops1 ops2:List Oper)(l:List Bool):Bool:=
 l.all id||((!(Region.ready .any ops1.toArray l.toArray).isEmpty)&&decide (Region.ready .any (ops1++ops2).toArray (l++Dq ops2).toArray=Region.ready .any ops1.toArray l.toArray)&&(Region.ready .any ops1.toArray l.toArray).all fun i=>Aiu ops1 (l.set i true))
def X8(ops2:List Oper)(j:Nat):List Bool:=List.replicate j true++List.replicate (ops2.length-j) false
def K6(ops1 ops2:List Oper):Bool:=
 ((ops1++ops2).all fun o=>o.guard.isNone)&&Aiu ops1 (Dq ops1)&&((Qm ops1.length).all fun l=> !Aiu ops1 l||Alb ops1 ops2 l)
  &&((List.range (ops2.length+1)).all fun j=>decide (Region.ready .any (ops1++ops2).toArray (Jp ops1++X8 ops2 j).toArray=if j<ops2.length then[ops1.length+j]else[]))
theorem Ao8{F n P}{o:Oper}{a w K K' Q Q'}(h:∀a w,K a w->K' a w)(hq:∀e a w,e≠.normal->Q e a w->Q' e a w)
  (hh:o.wpIn F n P a w K Q):o.wpIn F n P a w K' Q':=by
 have hL:LetsOut Q->LetsOut Q':=fun⟨a,w,h⟩=>⟨a,w,hq _ _ _ gr h⟩
 unfold Oper.wpIn at *;refine⟨hh.1,?_⟩;have hh:=hh.2
 generalize (o.semAt F.round a.eval).run P w=r at *
 cases r with
 |ok x w'=>
  cases x<;>simp only[Oper.uponIn]at hh⊢<;>
   first
    |exact h _ _ hh
    |exact⟨hh.1,CallsIn.mono hh.2 gr⟩
    |exact⟨hh.1,RowsIn.mono hh.2 (fun _ _ he=>h _ _ he)⟩
    |exact⟨hh.1,RoundIn.mono hh.2 gr⟩
    |exact hh
 |halt x w'=>cases x<;>simp only[Oper.uponIn]at hh⊢<;>first|exact hh.elim|exact hq _ _ _ gr hh|exact hh
section
variable {F:Fence}{n:Nat}{P:Program}{ops1 ops2:List Oper}{Q Q1:Exit->Act->World->Prop}
theorem Ao9{ops:List Oper}{l:List Bool}{i}(h:i∈Region.ready .any ops.toArray l.toArray):i<ops.length/\∃o,ops[i]? =some o:=by
 unfold Region.ready at h
 grind
theorem Alc(hok:K6 ops1 ops2=true)(hn:∀a w,Q1 .normal a w->wpAnyIn F n P .any (ops1++ops2).toArray Q ops2.length (Jp ops1++Dq ops2).toArray a w)(hx:∀e a w,e≠.normal->Q1 e a w->Q e a w):
  ∀(k:Nat) (l:List Bool) (a:Act) (w:World),l.length=ops1.length->Aiu ops1 l=true->(l.filter (!·)).length=k->wpAnyIn F n P .any ops1.toArray Q1 k l.toArray a w->wpAnyIn F n P .any (ops1++ops2).toArray Q (k+ops2.length) (l++Dq ops2).toArray a w:=by
 unfold K6 at hok;simp only[ad_]at hok;obtain⟨⟨⟨hg,_⟩,hs⟩,_⟩:=hok;intro k
 induction k with
 |zero=>
  intro l a w hl hc hk h
  have bs:l=Jp ops1:=by
   refine List.ext_getElem? fun i=>?_
   unfold Jp;rw[br_]
   by_cases hi:i<l.length
   ·obtain⟨b,hb⟩:=Arg hi
    obtain⟨o,ho⟩:=Arg (show i<ops1.length by omega)
    rw[hb,ho];have:l.filter (!·)=[]:=ey_.1 hk;rw[List.filter_eq_nil_iff]at this;have:=this b (ab_ hb)
    grind
   grind
  subst bs;rw[bn_];exact hn a w h.2
 |succ k ih=>
  intro l a w hl hc hk h
  have hst:=b_.1 hs l (by rw[←hl];exact Abw l)
  rw[hc]at hst;simp only[Bool.not_true,Bool.false_or]at hst;unfold Alb at hst
  have hna:l.all id=false:=by
   cases hb:l.all id with
   |false=>rfl
   |true=>
    rw[b_]at hb;have:l.filter (!·)=[]:=List.filter_eq_nil_iff.2 gr;rw[this]at hk;cases hk
  rw[hna]at hst;simp only[Bool.false_or,ad_,bi_,decide_eq_true_eq,b_]at hst;obtain⟨⟨s1,s2⟩,s3⟩:=hst;rw[Nat.succ_add];obtain⟨_,h1⟩:=h;refine⟨fun he=>?_,fun i hi=>?_⟩
  ·grind
  ·rw[s2]at hi;obtain⟨hil,o,ho⟩:=Ao9 hi;have h2:=h1 i hi
   have hgo:o.guard=none:=by
    have:=b_.1 hg o (dg_ _ (ab_ ho))
    simpa using this
   have hwa:∀y,Region.wanted o y=true:=fun y=>by unfold Region.wanted;rw[hgo]
   have hlf:l[i]? =some false:=by
    unfold Region.ready at hi;have:=(cp_.1 hi).2
    obtain⟨b,hb⟩:=Arg (show i<l.length by omega)
    simp only[ad_,bi_]at this;have:=this.1;rw[hb];rw[bo_,List.getElem?_toArray,hb]at this
    grind
   unfold wpOpIn at h2⊢;rw[List.getElem?_toArray]at h2⊢;rw[cg_ hil,ho];rw[ho]at h2;simp only[hwa,if_true]at h2⊢;refine Ao8 (fun a w hh=>?_) hx h2
   have e1:(l++Dq ops2).toArray.setIfInBounds i true=(l.set i true++Dq ops2).toArray:=gr;have e2:l.toArray.setIfInBounds i true=(l.set i true).toArray:=gr;rw[e1];rw[e2]at hh;refine ih (l.set i true) a w gr (s3 i hi) ?_ hh
   have key:∀(l:List Bool) (i:Nat),l[i]? =some false->((l.set i true).filter (!·)).length+1=(l.filter (!·)).length:=fun l=>by
    induction l with
    |nil=>intro i h;simp at h
    |cons b l ihl=>
     intro i h;cases i with
     |zero=>simp at h;subst h;simp
     |succ i=>
      have:=ihl i gr;cases b<;>simp[List.set_cons_succ]<;>simpa using this
   grind
theorem Arh(hok:K6 ops1 ops2=true):∀(k j:Nat) (a:Act) (w:World),j+k=ops2.length->wpOpsIn F n P (ops1++ops2).toArray Q (List.range' (ops1.length+j) k) a w->wpAnyIn F n P .any (ops1++ops2).toArray Q k (Jp ops1++X8 ops2 j).toArray a w:=by
 have hok':=hok;unfold K6 at hok;simp only[ad_]at hok;obtain⟨_,ht⟩:=hok;have ht:=fun j (hj:j<ops2.length+1)=>of_decide_eq_true (b_.1 ht j (cw_.2 hj))
 intro k
 induction k with
 |zero=>
  intro j a w hj h;refine⟨?_,h⟩;rw[ht j Om,if_neg Om]
 |succ k ih=>
  intro j a w hj h;have hr:=ht j Om;rw[if_pos Om]at hr;refine⟨fun he=>gr,fun i hi=>?_⟩
  rw[hr,ao_]at hi;subst hi;rw[cj_,wpOpsIn_cons]at h;refine wpOpIn_mono (fun a w hh=>?_) h
  have e1:(Jp ops1++X8 ops2 j).toArray.setIfInBounds (ops1.length+j) true=(Jp ops1++X8 ops2 (j+1)).toArray:=by
   have hl:(Jp ops1).length=ops1.length:=by unfold Jp;grind
   rw[List.setIfInBounds_toArray,List.set_append_right _ _ Om,hl,show ops1.length+j-ops1.length=j by omega]
   congr 2
   unfold X8
   rw[List.set_append_right _ _ (by simp),fi_,Nat.sub_self,show ops2.length-j=(ops2.length-(j+1))+1 by omega,List.replicate_succ,List.set_cons_zero,List.replicate_succ',ca_]
   rfl
  rw[e1];exact ih (j+1) a w Om hh
end
end Go.AM
