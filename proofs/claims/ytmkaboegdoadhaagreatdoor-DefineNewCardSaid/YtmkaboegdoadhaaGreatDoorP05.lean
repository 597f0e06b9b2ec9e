/- A part of the proof; shortened by program. -/
import Derived.Scope
import Derived.Defers
import Derived.RangeFuncIn
import Derived.RangeFuncRecord
import Derived.RangeFuncLeaves
import Derived.OrdersIn
import Derived.TacticsIn
import Derived.Test.YtmkaboegdoadhaaGreatDoorP04
set_option maxRecDepth 100000
set_option maxHeartbeats 4000000
set_option linter.unusedSimpArgs false
set_option linter.unusedVariables false
namespace Go.AM
open Go
section
variable {P:Program}{C C':Ctx}{N N':Nat}{w w':World}{σ σ':Sto}
def S5(P:Program)(C:Ctx)(w:World)(σ:Sto)(s:Sem Next)(v:AV)(σ':Sto):Prop:=
 ∃x w' C',(s.run P w=.ok (.value x) w'∨(s.run P w=.ok .skip w'/\x=undef))/\R C' (nx σ') w' v x/\Sim P C' w' σ'/\Ext C (nx σ) w C' (nx σ') w'
theorem S5.ofRuns{s v}(h:Iv P C w σ s v σ'):S5 P C w σ (do pure (.value (←s))) v σ':=by
 obtain⟨y,x,w',C',h1,rfl,h3,h4,h5⟩:=h
 exact⟨y,w',C',.inl (by simp[h1]),h5,h3,h4⟩
theorem S5.ofPure(hs:Sim P C w σ){s v}(h:σ'=σ/\Dz P C (nx σ) w s v):S5 P C w σ (do pure (.value (←s))) v σ':=by
 obtain⟨rfl,h⟩:=h;exact .ofRuns (h.runs hs)
theorem S5.ofUnit{s v}(h:v=An/\∃w',s.run P w=.ok () w'/\Sim P C w' σ'/\Ext C (nx σ) w C (nx σ') w'):S5 P C w σ (do s;pure .skip) v σ':=by
 obtain⟨rfl,w',h1,h2,h3⟩:=h
 refine⟨undef,w',C,.inr ⟨by simp[h1],rfl⟩,?_,h2,h3⟩
 unfold An R;exact⟨#[],rfl,by unfold RL;trivial⟩
theorem S5.ofTuple{s v}(h:v=An/\∃w',s.run P w=.ok (.tuple #[]) w'/\Sim P C w' σ'/\Ext C (nx σ) w C (nx σ') w'):S5 P C w σ (do pure (.value (←s))) v σ':=by
 obtain⟨rfl,w',h1,h2,h3⟩:=h
 refine⟨.tuple #[],w',C,.inl (by simp[h1]),?_,h2,h3⟩
 unfold An R;exact⟨#[],rfl,by unfold RL;trivial⟩
theorem Aky{E tm}{a:Act}(hg:Iw C N w E)(ht:TR C N w tm a.tmps)(x):RO C N w (opdO E tm x) (x.map a.eval):=by
 cases x with
 |none=>simp only[opdO,gt_];unfold RO;trivial
 |some x=>simp only[opdO,ds_];unfold RO;exact Be hg ht x
theorem Aa1(hs:Sim P C w σ){E}(hE:E.P=P){b}{t:TypeId}{ti}(hti:Ay P t=some ti){ts:List TypeId}{x X xs Xs}
  (hx:R C (nx σ) w x X)(hxs:RL C (nx σ) w xs Xs){v}(h:Ee E b ti ts x xs σ=some (v,σ'))(ty consts):
  S5 P C w σ (builtin b (t::ts).toArray ty consts (X::Xs).toArray) v σ':=by
 subst hE;obtain⟨i,d,g1,g2,g3,g4,_⟩:=Ap hti
 have arg0:∀(s s':Sem Value),(∀w,s.run E.P w=s'.run E.P w)->S5 E.P C w σ (do pure (.value (←s'))) v σ'->S5 E.P C w σ (do pure (.value (←s))) v σ':=by
  rintro s s' he ⟨y,w',C',h1,h2⟩;refine⟨y,w',C',?_,h2⟩;simp only[Sem.run_bind]at h1⊢
  grind
 cases b<;>simp only[Ee]at h
 case len=>
  split at h
  ·rename_i e hd
   refine .ofPure hs ?_
   have hu:=g2.trans (by rw[←g3,hd])
   unfold sLen at h
   split at h
   ·cases h;unfold R at hx;obtain⟨ad,k,rfl,_⟩:=hx
    exact⟨rfl,_,by simp[Builtin.len_,Aa hu];rfl,by unfold goInt R;rfl⟩
   ·cases h;unfold R at hx;obtain⟨ad,k,rfl,_⟩:=hx
    exact⟨rfl,_,by simp[Builtin.len_,Aa hu];rfl,by unfold goInt R;rfl⟩
   ·cases h;unfold R at hx;obtain⟨rfl,_⟩:=hx
    exact⟨rfl,_,by simp[Builtin.len_,Aa hu];rfl,by unfold goInt R;rfl⟩
   grind
  ·rename_i hd
   refine .ofPure hs ?_
   have hu:=g2.trans (by rw[←g3,hd])
   unfold Zt at h
   split at h
   ·rw[Ak]at h;cases h;unfold R at hx;obtain⟨s,rfl,rfl⟩:=hx
    exact⟨rfl,_,by simp[Builtin.len_,Aa hu];rfl,by unfold goInt R;rw[Fg];rfl⟩
   grind
  ·rename_i kt et hd
   have:=Adr (ty:=ty) hs hti hd hx h;refine arg0 _ (Builtin.len_ #[t] ty #[X]) (fun w=>?_) (.ofPure hs this)
   simp[Builtin.len_]
  ·rename_i n e hd
   refine .ofPure hs ?_
   have hu:=g2.trans (by rw[←g3,hd])
   cases h
   exact⟨rfl,_,by simp[Builtin.len_,Aa hu];rfl,by unfold goInt R;rfl⟩
  ·cases h
 case cap=>
  split at h
  ·rename_i e hd
   refine .ofPure hs ?_
   have hu:=g2.trans (by rw[←g3,hd])
   unfold Kj at h
   split at h
   ·rename_i q
    cases h;unfold R at hx;obtain⟨ad,k,rfl,_,_,hq,_⟩:=hx;have:=hq _ rfl;subst this
    exact⟨rfl,_,by simp[Builtin.cap_,Aa hu];rfl,by unfold goInt R;rfl⟩
   ·cases h;unfold R at hx;obtain⟨ad,k,rfl,_,hq,_⟩:=hx;have:=hq _ rfl;subst this
    exact⟨rfl,_,by simp[Builtin.cap_,Aa hu];rfl,by unfold goInt R;rfl⟩
   ·cases h;unfold R at hx;obtain⟨rfl,_⟩:=hx
    exact⟨rfl,_,by simp[Builtin.cap_,Aa hu];rfl,by unfold goInt R;rfl⟩
   grind
  ·cases h
 case clear=>
  split at h
  ·rename_i kt et hd
   have:=Yq (ty:=ty) hs hti hd hx h;refine arg0 _ (Builtin.clear_ #[t] ty #[X]) (fun w=>?_) (.ofTuple this)
   simp[Builtin.clear_]
  ·rename_i e hd
   split at h
   ·rename_i te hte
    split at h
    ·rename_i z hz
     split at h
     ·rename_i hl
      have:=Age (ty:=ty) hs hti hd hte hz (ac_ hl) hx h;refine arg0 _ (Builtin.clear_ #[t] ty #[X]) (fun w=>?_) (.ofTuple this)
      simp[Builtin.clear_]
     grind
    grind
   grind
  ·cases h
 case append=>
  split at h
  ·rename_i e t2 ts' y ys hd
   have hu:=g2.trans (by rw[←g3,hd])
   cases Xs with
   |nil=>unfold RL at hxs;exact hxs.elim
   |cons Y Ys=>
    unfold RL at hxs
    have hre:∀w,(Builtin.append_ (t::t2::ts').toArray ty (X::Y::Ys).toArray).run E.P w=(Builtin.append_ #[t,t2] ty #[X,Y]).run E.P w:=fun w=>by simp[Builtin.append_]
    split at h
    ·rename_i te tx hte htx
     obtain⟨_,dx,_,gx,gx3,_⟩:=Ap htx
     split at h
     ·rename_i z hz
      split at h
      ·rename_i hl
       have hl:=ac_ hl
       split at h
       ·rename_i e2 hd2
        exact arg0 _ _ hre (.ofRuns (So hs hu hte hz hl (gx.trans (by rw[←gx3,hd2])) gr hx hxs.1 h))
       ·rename_i hd2
        exact arg0 _ _ hre (.ofRuns (So hs hu hte hz hl (gx.trans (by rw[←gx3,hd2])) gr hx hxs.1 h))
       ·rename_i k hd2
        exact arg0 _ _ hre (.ofRuns (Aau hs hu hte hz hl (gx.trans (by rw[←gx3,hd2])) hx hxs.1 h))
       grind
      grind
     grind
    ·cases h
  ·cases h
 case copy=>
  split at h
  ·rename_i e y ys hd
   have hu:=g2.trans (by rw[←g3,hd])
   cases Xs with
   |nil=>unfold RL at hxs;exact hxs.elim
   |cons Y Ys=>
    unfold RL at hxs
    split at h
    ·rename_i te hte
     refine arg0 _ (Builtin.copy_ #[t,t] ty #[X,Y]) (fun w=>?_) (.ofRuns (Ah3 hs hu hte hx hxs.1 h))
     simp[Builtin.copy_]
    ·cases h
  ·cases h
 case delete=>
  split at h
  ·rename_i kt et y ys hd
   cases Xs with
   |nil=>unfold RL at hxs;exact hxs.elim
   |cons Y Ys=>
    unfold RL at hxs;refine arg0 _ (Builtin.delete_ #[t,t] ty #[X,Y]) (fun w=>?_) (.ofTuple (Adq hs hti hd hxs.1 hx h))
    simp[Builtin.delete_]
  ·cases h
 case min=>
  split at h
  ·rename_i y
   cases Xs with
   |nil=>unfold RL at hxs;exact hxs.elim
   |cons Y Ys=>
    unfold RL at hxs;have hY:Ys=[]:=gi_ hxs.2;subst hY;unfold Xm at h
    split at h
    ·rename_i k a k' b
     cases hb:Ed k k'
     ·grind
     ·simp only[hb,cond_true,af_,ba_]at h;obtain⟨rfl,rfl⟩:=h;unfold R at hx;subst hx;have h1:=hxs.1;unfold R at h1;subst h1
      refine .ofPure hs ⟨rfl,.int k (Aag a b),?_,by unfold R;rfl⟩
      simp only[Builtin.min_,List.foldlM_cons,List.foldlM_nil,Sem.run_bind];simp only[Builtin.min2,Sem.run_pure,Result.andThen_ok,Aag,Ec]
      grind
    ·cases h
  ·cases h
 case max=>
  split at h
  ·rename_i y
   cases Xs with
   |nil=>unfold RL at hxs;exact hxs.elim
   |cons Y Ys=>
    unfold RL at hxs;have hY:Ys=[]:=gi_ hxs.2;subst hY;unfold Xm at h
    split at h
    ·rename_i k a k' b
     cases hb:Ed k k'
     ·grind
     ·simp only[hb,cond_true,af_,ba_]at h;obtain⟨rfl,rfl⟩:=h;unfold R at hx;subst hx;have h1:=hxs.1;unfold R at h1;subst h1
      refine .ofPure hs ⟨rfl,.int k (Ll a b),?_,by unfold R;rfl⟩
      simp only[Builtin.max_,List.foldlM_cons,List.foldlM_nil,Sem.run_bind];simp only[Builtin.max2,Sem.run_pure,Result.andThen_ok,Ll,Ec]
      grind
    ·cases h
  ·rename_i y z
   cases Xs with
   |nil=>unfold RL at hxs;exact hxs.elim
   |cons Y Ys=>
    unfold RL at hxs;cases Ys with
    |nil=>have h2:=hxs.2;unfold RL at h2;exact h2.elim
    |cons Z Zs=>
    have h3:=hxs.2;unfold RL at h3;have hZ:Zs=[]:=gi_ h3.2;subst hZ;unfold Al5 at h
    split at h
    ·rename_i k a k' b k'' c
     cases hb:(Ed k k'&&Ed k k'')
     ·grind
     ·simp only[hb,cond_true,af_,ba_]at h;obtain⟨rfl,rfl⟩:=h;unfold R at hx;subst hx;have h1:=hxs.1;unfold R at h1;subst h1;have h4:=h3.1;unfold R at h4;subst h4
      refine .ofPure hs ⟨rfl,.int k (Ll (Ll a b) c),?_,by unfold R;rfl⟩
      simp only[Builtin.max_,List.foldlM_cons,List.foldlM_nil,Sem.run_bind]
      have m2:∀(q:IntKind) (x y:Int) (u:World),Sem.run E.P (Builtin.max2 (.int k x) (.int q y)) u=.ok (.int k (Ll x y)) u:=fun q x y u=>by
       simp only[Builtin.max2,Ll,Ec]
       by_cases hab:y<=x
       ·rw[if_neg Om];simp[hab]
       ·rw[if_pos Om];simp[hab]
      simp only[m2,Result.andThen_ok,Sem.run_pure]
    ·cases h
  ·cases h
 all_goals (cases h)
theorem Kl(a:Act)(ps:Array (Nat×Operand)):(ps.map fun(i,x)=>(i,a.eval x)).toList=ps.toList.map fun(i,x)=>(i,a.eval x):=by simp
theorem Ah6(hs:Sim P C w σ){E}(hE:E.P=P){tm}{a:Act}(hg:Iw C (nx σ) w E)(ht:TR C (nx σ) w tm a.tmps){o v}(h:Aw E o.op tm σ=some (v,σ')):
  S5 P C w σ (execOp a.eval o) v σ'/\(∀x w',(execOp a.eval o).run P w≠.ok x w'∨(∃y,x=.value y)∨x=.skip):=by
 have key:S5 P C w σ (execOp a.eval o) v σ':=by
  subst hE;obtain⟨dst,op,ty,pos,after,guard⟩:=o;have O:=fun x=>Be hg ht x
  have OO:=fun x=>Aky hg ht x
  cases op<;>simp only[Aw]at h<;>try (cases h;done)
  case move x=>unfold Aad at h;cases h;exact⟨_,w,C,.inl rfl,O x,hs,cf_ _ _ _⟩
  case assign x=>unfold Aad at h;cases h;exact⟨_,w,C,.inl rfl,O x,hs,cf_ _ _ _⟩
  case pick c x y=>
   have hc:=O c;unfold Ad8 at h
   split at h
   ·rename_i heq;rw[heq]at hc;unfold R at hc
    cases h
    exact⟨_,w,C,.inl (by simp[execOp,hc,asBool]),O x,hs,cf_ _ _ _⟩
   ·rename_i heq;rw[heq]at hc;unfold R at hc
    cases h
    exact⟨_,w,C,.inl (by simp[execOp,hc,asBool]),O y,hs,cf_ _ _ _⟩
   ·cases h
  case nilCheck x=>
   obtain⟨rfl,h1,h2⟩:=Ym (O x) h dst x a.eval rfl ty pos after guard;exact⟨_,w,C,.inl h1,h2,hs,cf_ _ _ _⟩
  case alloc t=>
   split at h
   ·rename_i ti hti
    split at h
    ·rename_i z hz;exact .ofRuns (Agc hs hti hz h)
    grind
   ·cases h
  case box t x=>
   split at h
   ·rename_i ti hti;exact .ofRuns (Aku hs (O x) h)
   ·cases h
  case build t parts=>
   split at h
   ·rename_i ti hti
    split at h
    ·rename_i z fs hz hd
     split at h
     ·rename_i ps hi hps
      obtain⟨pl,hpl,hat⟩:=N8 hi;refine .ofPure hs (Uf hti hd hz hi (place:=(pl.toArray[·]?)) gr (ps:=ps) ?_ h);rw[Kl];exact Sk rfl hg ht gr hps
     grind
    ·rename_i z n e hz hd
     split at h
     ·rename_i te hte
      refine .ofPure hs (Aaq hti hd hte hz ?_ h);rw[Kl];exact M3 hg ht _ _
     grind
    grind
   ·cases h
  case buildSlice t len parts=>
   split at h
   ·rename_i ti hti
    split at h
    ·rename_i e hd
     split at h
     ·rename_i te hte
      split at h
      ·rename_i z hz
       split at h
       ·rename_i hb
        rw[ad_]at hb;refine .ofRuns (Ug hs hti hd hte hz (ac_ hb.2) (al_ hb.1) ?_ h).1;rw[Kl];exact M3 hg ht _ _
       grind
      grind
     grind
    grind
   ·cases h
  case load t x=>
   split at h
   ·rename_i ti hti;exact .ofPure hs (P1 hs hti (O x) h)
   ·cases h
  case store t x y=>
   split at h
   ·rename_i ti hti
    obtain⟨h1,w',h2,h3,h4⟩:=Agd hs hti (O x) (O y) h;exact .ofUnit ⟨h1,w',h2,h3,gr⟩
   ·cases h
  case binOp op t x y _=>
   unfold Sx at h
   split at h
   ·rename_i u hu;cases h;exact .ofPure hs ⟨rfl,Aks (O x) (O y) hu⟩
   ·cases h
  case unOp op t x=>
   unfold Sx at h
   split at h
   ·rename_i u hu;cases h;exact .ofPure hs ⟨rfl,Aol (O x) hu⟩
   ·cases h
  case convert s d x=>
   split at h
   ·rename_i ts td hts htd
    obtain⟨_,ds,_,s2,s3,_⟩:=Ap hts;obtain⟨_,dd,_,d2,d3,_⟩:=Ap htd
    split at h
    ·rename_i k hd;exact .ofPure hs (Aar s2 (d2.trans gr) (O x) h)
    ·rename_i k hd;exact .ofPure hs (Aas s2 (d2.trans gr) (O x) h)
    ·rename_i hd
     split at h
     ·rename_i hd';exact .ofPure hs (Aat s2 (d2.trans gr) (O x) h)
     ·rename_i e hd'
      split at h
      ·rename_i te hte
       obtain⟨_,de,_,e2,e3,_⟩:=Ap hte
       split at h
       ·rename_i hde;exact .ofPure hs (S2 hs (s2.trans gr) (d2.trans gr) (e2.trans gr) (O x) h)
       grind
      grind
     grind
    ·rename_i e hd
     split at h
     ·rename_i te hd' hte
      obtain⟨_,de,_,e2,e3,_⟩:=Ap hte
      split at h
      ·rename_i hde;exact .ofRuns (S3 hs (s2.trans gr) (d2.trans gr) (e2.trans gr) (O x) h).2
      grind
     grind
    grind
   ·cases h
  case makeInterface t x=>
   split at h
   ·rename_i ti hti
    obtain⟨_,d,_,g2,g3,_⟩:=Ap hti
    split at h
    ·cases h
    ·rename_i hd
     unfold sIfc at h;cases h
     refine .ofPure hs ⟨rfl,.iface t (a.eval x),?_,by unfold R;grind⟩
     have hnd:∀m,d≠.interface m:=fun m hm=>hd m (g3.trans hm)
     unfold Instr.makeInterface;simp only[Sem.run_bind,Aa g2,Result.andThen_ok]
     cases d<;>first|rfl|exact absurd rfl (hnd _)
   ·cases h
  case makeFunc f first cap=>
   unfold Al4 at h;cases h;refine .ofPure hs ⟨rfl,.func f (first.map a.eval) (cap.map a.eval),rfl,?_⟩;unfold R;refine⟨_,_,rfl,?_,?_⟩
   ·rw[c_];exact Dm hg ht _
   ·rw[c_];exact Dm hg ht _
  case makeMap t r=>
   split at h
   ·rename_i ti hti
    split at h
    ·rename_i hd;exact .ofRuns (Aa0 hs h)
    ·rename_i hd;exact .ofRuns (Yt hs hti hd (O _) h)
    grind
   ·cases h
  case makeSlice t l c=>
   split at h
   ·rename_i ti hti
    split at h
    ·rename_i e hd
     split at h
     ·rename_i te hte
      split at h
      ·rename_i z hz
       split at h
       ·rename_i hb;exact .ofRuns (Wm hs hti hd hte hz (ac_ hb) (O l) (O c) h)
       grind
      grind
     grind
    grind
   ·cases h
  case slice t x lo hi mx=>
   split at h
   ·rename_i ti hti
    split at h
    ·rename_i hd
     split at h
     ·exact .ofPure hs (Yl hti hd (O x) (OO lo) (OO hi) h)
     grind
    ·rename_i e hd
     split at h
     ·rename_i te hte;exact .ofPure hs (Agb hti hd hte (O x) (OO lo) (OO hi) (OO mx) h)
     grind
    ·rename_i n e hd
     split at h
     ·rename_i te hte
      refine .ofPure hs (Yn hti hd hte (O x) (fun b vs hb hne=>?_) (OO lo) (OO hi) (OO mx) h)
      obtain⟨c,o',cs,T,k1,k2,k3⟩:=hs.obj b _ hb;exact⟨c,o',k1,k3.room hne⟩
     grind
    grind
   ·cases h
  case fieldAddr t x i=>
   split at h
   ·rename_i ti hti
    split at h
    ·rename_i fs hd
     split at h
     ·rename_i f hf
      split at h
      ·rename_i tf htf
       split at h
       ·cases h
       ·rename_i n hn
        unfold Aqj at h
        split at h
        ·rename_i u hu;cases h;exact .ofPure hs ⟨rfl,Adm hti hd hf htf gr (O x) hu⟩
        grind
      grind
     grind
    grind
   ·cases h
  case field t x i=>
   split at h
   ·rename_i ti hti
    split at h
    ·rename_i fs hd
     split at h
     ·rename_i f hf
      split at h
      ·rename_i tf htf
       have hx:=O x;unfold Af4 at h
       split at h
       ·rename_i cs heq
        rw[heq]at hx
        split at h
        ·rename_i u hu;cases h;exact .ofPure hs ⟨rfl,Ah1 hti hd hf htf hx hu⟩
        grind
       grind
      grind
     grind
    grind
   ·cases h
  case indexAddr t x i=>
   split at h
   ·rename_i ti hti
    split at h
    ·rename_i e hd
     split at h
     ·rename_i te hte;exact .ofPure hs (Wl hti hd hte (O x) (O i) h)
     grind
    ·rename_i len e hd
     split at h
     ·rename_i te hte;exact .ofPure hs (Sa hti hd hte (O x) (O i) h)
     grind
    grind
   ·cases h
  case index t x i=>
   split at h
   ·rename_i ti hti
    split at h
    ·rename_i hd;exact .ofPure hs (Yj hti hd (O x) (O i) h)
    ·rename_i len e hd
     split at h
     ·rename_i te hte;exact .ofPure hs (Yo hti hd hte (O x) (O i) h)
     grind
    grind
   ·cases h
  case lookup t m k ok=>
   split at h
   ·rename_i ti hti
    split at h
    ·rename_i kt et hd
     split at h
     ·rename_i te hte
      split at h
      ·rename_i z hz;exact .ofPure hs (Adp hs hti hd hte hz (O k) (O m) h)
      grind
     grind
    grind
   ·cases h
  case mapUpdate t m k x=>
   split at h
   ·rename_i ti hti
    split at h
    ·rename_i kt et hd
     split at h
     ·rename_i te hte;exact .ofUnit (Wo hs hti hd (O k) (O m) (O x) h)
     grind
    grind
   ·cases h
  case mapEntry t m k=>
   split at h
   ·rename_i ti hti
    split at h
    ·rename_i kt et hd
     split at h
     ·rename_i te hte
      split at h
      ·rename_i z hz;exact .ofRuns (Yr hs hti hd hte hz (O k) (O m) h)
      grind
     grind
    grind
   ·cases h
  case entryStore t m st x=>
   split at h
   ·rename_i ti hti
    split at h
    ·rename_i kt et hd
     split at h
     ·rename_i te hte;exact .ofUnit (Uj hs (O m) (O st) (O x) h)
     grind
    grind
   ·cases h
  case range t x=>
   split at h
   ·rename_i ti hti
    split at h
    ·rename_i kt et hd;exact .ofRuns (Agi hs hti hd (O x) h)
    grind
   ·cases h
  case entry x=>exact .ofPure hs (Agj hs (O x) h)
  case extract x i=>exact .ofPure hs (Aap (O x) h)
  case typeAssert x xt t ok=>
   split at h
   ·rename_i ti hti
    split at h
    ·cases h
    ·rename_i hd;exact .ofPure hs (Adn hti (fun m hm=>hd m hm) (O x) h)
   ·cases h
  case call c=>
   split at h
   ·rename_i b hb
    split at h
    ·rename_i t ts x xs hts hxs
     split at h
     ·rename_i ti hti
      obtain⟨cs,e⟩:∃cs,execOp a.eval ⟨dst,.call c,ty,pos,after,guard⟩=builtin b c.argTypes ty cs (c.args.map a.eval):=⟨_,by simp only[execOp,resolve,hb];rfl⟩
      rw[e];have:=Aa1 hs rfl hti (O x) (Dm hg ht xs) h ty cs;have e1:(t::ts).toArray=c.argTypes:=gr
      have e2:(a.eval x::xs.map a.eval).toArray=c.args.map a.eval:=by apply Wp;rw[c_,hxs];rfl
      grind
     grind
    grind
   ·cases h
 refine⟨key,fun x w'=>?_⟩
 obtain⟨y,w₂,_,h1,_⟩:=key
 grind
end
def MB(C:Ctx)(N:Nat)(r:List (Nat×List AV))(m:Nat):Prop:=∀x∈r,x.1=Ks->∀a b,x.2=[.yl a,.yl b]->a<N/\(C.stm a).toNat<m
def DR(C:Ctx)(N:Nat)(w:World):List (Nat×List AV)->List Deferred->Prop
 |[],[]=>True
 |x::r,d::s=>((x.1≠Ks/\∃cap,d.target=.fn (.func x.1) cap/\RL C N w x.2 (d.args++cap).toList)∨
   (x.1=Ks/\∃a b,x.2=[.yl a,.yl b]/\(a<N/\b<N/\(C.stm b).toNat<=(C.stm a).toNat)/\d={ target:=.collected (C.stm a).toNat,args:=#[] }/\¬C.own (C.stm a).toNat/\w.heap[(C.stm a).toNat]? =some (.deferred (some []))/\MB C N r (C.stm a).toNat))/\DR C N w r s
 |_,_=>False
structure SSt (E:Env)(C:Ctx)(w:World)(s:St)(a:Act):Prop where
 sim:Sim E.P C w s.sto
 glob:Iw C (nx s.sto) w E
 tmps:TR C (nx s.sto) w s.tm a.tmps
 size:a.tmps.size=s.nt
 dfs:DR C (nx s.sto) w s.df a.defers
def Aa2(P:Program)(f:FuncId):Prop:=∃fn, P.funcs[f]? =some fn/\(fn.name== "runtime.NumGoroutine")=false/\fn.body.isNone=false
def Gives(P:Program)(C:Ctx)(N:Nat)(w:World)(v:AV)(σ':Sto):Ending->World->Prop
 |.returned x,w'=>∃C',Sim P C' w' σ'/\Ext C N w C' (nx σ') w'/\R C' (nx σ') w' v x
 |_,_=>False
def Akz(E:Env)(f:Nat)(g:List AV->Sto->Res):Prop:=
 ∀(C:Ctx) (w:World) (σ:Sto) (args:List AV) (vs:Array Value) (v:AV) (σ':Sto),Sim E.P C w σ->Iw C (nx σ) w E->RL C (nx σ) w args vs.toList->g args σ=some (v,σ')->
  Aa2 E.P f/\Calls E.P f vs w (Gives E.P C (nx σ) w v σ')
def Cy(ro:Option Nat):Fence:={ Fence.wide with round:=ro }
def Awv(E:Env)(a:Nat)(g:Hnd):Prop:=
 ∀(C:Ctx) (w:World) (σ:Sto) (args:List AV) (vs:Array Value) (v:AV) (σ':Sto),Sim E.P C w σ->Iw C (nx σ) w E->RL C (nx σ) w args vs.toList->g args σ=some (v,σ')->
  ∃r b,v=.bool b/\w.heap[(C.stm a).toNat]? =some (.loop (C9 r .ready))/\vs.size=r.params.size/\∀ro n,RoundIn (Cy ro) n E.P (C.stm a).toNat r.fn ((r.params.zip vs).foldl (fun tmps (t,a)=>tmps.setIfInBounds t a) r.tmps) r.assign r.body w fun e w'=>
   e=.returned (.bool b)/\∃C',Sim E.P C' w' σ'/\Ext C (nx σ) w C' (nx σ') w'
def Fk(f:Sto->Res):Prop:=∀σ σ' v,f σ=some (v,σ')->σ'=σ/\∀τ,f τ=some (v,τ)
structure Bk (E:Env)(Rr:Rec):Prop where
 fn:∀f,Akz E f (Rr (.fn f))
 yl:∀a,Awv E a (Rr (.yl a))
 pu:∀f,E.pu f=true->∀args,Fk (Rr (.fn f) args)
theorem Aww{ro n P f args w R}(h:Calls P f args w R):CallsIn (Cy ro) n P f args w R:=
 (callsIn_wide (n:=n)).2 h
theorem rowsR{ro n P row args w R}(h:Rows P row args w R):RowsIn (Cy ro) n P row args w R:=
 fun c cs _=>let⟨v,w',r,s⟩:=h c cs;⟨v,w',r,stepsIn_wide.2 s⟩
def Aqr(ro:Option Nat)(op:Op):Prop:=ro=none∨Ra op=false
theorem Ev{ro n P}{o:Oper}{a w next Q}(hd:Aqr ro o.op)(h:o.wp P a w next Q):
  o.wpIn (Cy ro) n P a w next Q:=by
 refine⟨fun _ _=>trivial,?_⟩
 have hs:o.semAt (Cy ro).round a.eval=execOp a.eval o:=by
  rcases hd with rfl|hd
  ·exact Oper.semAt_none _ _
  ·exact Oper.semAt_eq _ _ _ (fun c hc=>by rw[hc]at hd;cases hd)
 rw[hs];unfold Oper.wp at h
 generalize (execOp a.eval o).run P w=r at h
 cases r with
 |ok x w'=>
  cases x with
  |value v=>exact h
  |skip=>exact h
  |defer d=>exact h
  |enter f args=>exact⟨fun hh=>(by cases hh),Aww h⟩
  |row row args=>exact⟨fun hh=>(by cases hh),rowsR h⟩
  |round _ _ _ _ _=>exact h.elim
  |_=>exact h.elim
 |halt x w'=>
  cases x with
  |panic v=>exact h
  |_=>exact h.elim
section
variable {E:Env}{C C':Ctx}{N N':Nat}{w w':World}{Rr:Rec}
theorem DR.ext(e:Ext C N w C' N' w'):∀{l:List (Nat×List AV)} {ds:List Deferred},DR C N w l ds->DR C' N' w' l ds
 |[],[],_=>by unfold DR;trivial
 |x::r,d::s,h=>by
  unfold DR at *;obtain⟨h,h3⟩:=h;refine⟨?_,DR.ext e h3⟩
  rcases h with⟨h0,cap,h1,h2⟩|⟨h0,a,b,h1,⟨h2,hb,hle⟩,h3,h4,h5,h6⟩
  ·exact .inl ⟨h0,cap,h1,h2.ext e⟩
  ·obtain⟨k1,k2⟩:=e.keep _ (bc_.1 h5).1 h4;refine .inr ⟨h0,a,b,h1,?_⟩;rw[e.stm a h2,e.stm b hb]
   exact⟨⟨ak_ h2 e.next,ak_ hb e.next,hle⟩,h3,k1,k2.trans h5,fun y hy hk c d hcd=>let⟨q1,q2⟩:=h6 y hy hk c d hcd;⟨ak_ q1 e.next,by rw[e.stm c q1];exact q2⟩⟩
 |[],_::_,h=>by unfold DR at h;exact h.elim
 |_::_,[],h=>by unfold DR at h;exact h.elim
theorem Adt(a:Act)(v):(a.put none v)=a:=rfl
theorem TR.put{tm tm'}{a:Act}{nt dst v x}(ht:TR C N w tm a.tmps)(hsz:a.tmps.size=nt)(h:Ka dst tm nt v=some tm')(hx:R C N w v x):
  TR C N w tm' (a.put dst x).tmps/\(a.put dst x).tmps.size=nt/\(a.put dst x).defers=a.defers:=by
 cases dst with
 |none=>simp only[Ka,af_]at h;subst h;exact⟨ht,hsz,rfl⟩
 |some d=>
  simp only[Ka,Ef]at h;cases hb:Nat.blt d nt
  ·simp[hb]at h
  ·simp only[hb,cond_true,af_]at h;subst h;have hlt:d<nt:=al_ hb
   refine⟨fun i y hy=>?_,by simp[Act.put,hsz],rfl⟩
   rw[dd_]at hy;simp only[Act.put]
   by_cases hi:i=d
   ·subst hi;rw[if_pos rfl]at hy;cases hy
    simp[hsz,hlt];exact hx
   ·rw[if_neg hi]at hy;have:=ht i y hy
    simpa[cr_ (gx_ hi)]using this
theorem SSt.put{s a σ' dst v x tm'}(st:SSt E C w s a)(hs:Sim E.P C' w' σ')(e:Ext C (nx s.sto) w C' (nx σ') w')(hx:R C' (nx σ') w' v x)(h:Ka dst s.tm s.nt v=some tm'):
  SSt E C' w' ⟨tm',s.nt,s.df,σ'⟩ (a.put dst x):=by
 obtain⟨h1,h2,h3⟩:=TR.put (st.tmps.ext e) st.size h hx
 exact⟨hs,st.glob.ext e,h1,h2,by rw[h3];exact st.dfs.ext e⟩
theorem P8:R C N w An undef:=by unfold An R;exact⟨#[],rfl,by unfold RL;trivial⟩
theorem Aqs{x v}(h:R C N w x v)(h1:x≠.any)(h2:∀b,x≠.bool b)(b):v≠.bool b:=by
 intro hv;subst hv;cases x<;>unfold R at h
 case any=>exact h1 rfl
 case bool b'=>exact h2 _ rfl
 case nil y=>obtain⟨rfl,h⟩:=h;simp[Xl]at h
 all_goals first
  |(cases h;done)
  |(obtain⟨_,h,_⟩:=h;cases h;done)
  |(obtain⟨_,_,h,_⟩:=h;cases h;done)
  |(obtain⟨h,_⟩:=h;cases h;done)
theorem Dp{ops o tm}{a:Act}(ht:TR C N w tm a.tmps){b}(h:Bn ops.toList o tm=some b):Region.wanted o (yielded ops a.tmps)=b:=by
 unfold Bn at h;unfold Region.wanted
 split at h
 ·grind
 ·rename_i j want hg
  rw[hg];simp only
  split at h
  ·rename_i oj hoj
   have hoj':ops[j]? =some oj:=gr
   split at h
   ·rename_i d hd
    have hy1:∀b,a.tmps[d]? =some (.bool b)->yielded ops a.tmps j=some b:=fun b hh=>by
     unfold yielded;grind
    have hy2:(∀b,a.tmps[d]? ≠some (.bool b))->yielded ops a.tmps j=none:=fun hh=>by
     unfold yielded
     grind
    split at h
    ·rename_i b' cr
     cases h;have:=ht d _ cr;unfold R at this
     have hh:a.tmps[d]? =some (.bool b'):=by
      cases hh:a.tmps[d]? with
      |none=>simp[hh,undef]at this
      |some z=>simp[hh]at this;rw[this]
     grind
    ·cases h
    ·rename_i x hx1 hx2 cr
     cases h;have hr:=ht d _ cr;have hnb:=Aqs hr (fun hh=>hx2 hh) (fun b hh=>hx1 b hh)
     rw[hy2 fun b hh=>by
      have:=hnb b;rw[bo_,hh]at this;exact this rfl]
     rfl
    ·cases h
   ·cases h
  ·cases h
theorem Adu(m x args):invoke (.fn (.method m) #[]) (#[x]++args)=callMethod x m args:=by
 have cr:(#[x]++args)[0]? =some x:=gr;have hex:(#[x]++args).extract 1 (#[x]++args).size=args:=gr;simp only[invoke,cr,hex]
theorem Aom(a t ad name):Builtin.ssaWrapNilChk_ a t #[.pointer (some ad), strVal "", strVal name]=pure (.pointer (some ad)):=rfl
theorem Adv{σ}(hs:Sim E.P C w σ){t:TypeId}{name x X}(hx:R C (nx σ) w x X){f y}(h:Af9 E t name x σ=some (f,y)):
  ∃Y,(method (E.P.types.size+Made.depth) t X name).run E.P w=.ok (f,Y) w/\R C (nx σ) w y Y:=by
 obtain⟨fl,md⟩:∃fl,E.P.types.size+Made.depth=fl+1:=⟨_,rfl⟩;rw[md];unfold Af9 at h
 split at h
 ·rename_i i hi
  split at h
  ·rename_i m hm
   split at h
   ·rename_i mf
    have hpe:m.path.isEmpty=true:=by
     have:m.path=#[]:=gr;rw[this];rfl
    split at h
    ·rename_i g ptr hg
     split at h
     ·rename_i d hd
      have start:∀r:Sem Value, ∀Y, r.run E.P w=.ok Y w->(r=receiverAt t (.val X) ptr (some ((name.splitOn ".").getLastD name)))->
        (method (fl+1) t X name).run E.P w=.ok (g,Y) w:=by
       intro r Y hr he;subst he;simp only[method,typeInfo,Sem.run_bind,run_program,Result.andThen_ok,hi,Sem.run_pure,hm,mf,follow,hg,hpe,if_true,hr]
      split at h
      ·rename_i e
       split at h
       ·cases h;refine⟨X,start _ X ?_ rfl,hx⟩;simp only[receiverAt,Sem.run_bind,Aa hd,Result.andThen_ok,Place.get,Sem.run_pure]
       ·split at h
        ·rename_i te hte
         split at h
         ·rename_i u σ' hu
          cases h;obtain⟨_,Y,h1,h2⟩:=P1 hs hte hx hu
          have hX:∃ad,X=.pointer (some ad):=by
           unfold Na at hu
           split at hu
           ·unfold R at hx;grind
           ·unfold R at hx;grind
           ·cases hu
          obtain⟨ad,rfl⟩:=hX;refine⟨Y,start _ Y ?_ rfl,h2⟩;simp only[receiverAt,Sem.run_bind,Aa hd,Result.andThen_ok,Place.get,Sem.run_pure,Aom];have e1:(Instr.loadAt e (.pointer (some ad)))=loadVar e ad:=rfl;have e2:(asAddr (.pointer (some ad)))=pure ad:=rfl;rw[e1]at h1;simp only[e2,Sem.run_pure,Result.andThen_ok,h1]
         ·cases h
        ·cases h
      ·rename_i hnp
       split at h
       ·cases h
       ·cases h;refine⟨X,start _ X ?_ rfl,hx⟩;cases d with
        |pointer e=>exact absurd rfl (hnp e)
        |_=>simp only[receiverAt,Sem.run_bind,Aa hd,Result.andThen_ok,Place.get,Sem.run_pure]
     ·cases h
    ·cases h
   ·cases h
  ·cases h
 ·cases h
theorem Rg(hR:Bk E Rr){s a}(st:SSt E C w s a){o:Oper}{v σ'}(h:opA E o.op Rr s.tm s.sto=some (v,σ')){K Q}
  (hK:∀C' w' x,Sim E.P C' w' σ'->Ext C (nx s.sto) w C' (nx σ') w'->R C' (nx σ') w' v x->K (a.put o.dst x) w'){ro n}:o.wpIn (Cy ro) n E.P a w K Q:=by
 have viaStep:Aw E o.op s.tm s.sto=some (v,σ')->o.wpIn (Cy ro) n E.P a w K Q:=by
  intro h;refine Ev (.inr ?_) ?_
  ·cases hop:o.op<;>first|rfl|(rw[hop]at h;simp[Aw]at h;done)
  obtain⟨x,w',C',h1,h2,h3,h4⟩:=(Ah6 st.sim rfl st.glob st.tmps h).1;unfold Oper.wp
  rcases h1 with h1|⟨h1,rfl⟩
  ·rw[h1,Oper.upon_value];grind
  ·rw[h1,Oper.upon_skip];grind
 cases hop:o.op with
 |call c=>
  cases hc:c.callee with
  |value f=>
   rw[hop]at h;simp only[opA,hc]at h
   split at h
   ·rename_i a' hv
    have hV:=Be st.glob st.tmps f;rw[hv]at hV;unfold R at hV;obtain⟨hV,_⟩:=hV
    have hA':RL C (nx s.sto) w (opds E s.tm c.args.toList) (c.args.map a.eval).toList:=by
     simp only[c_];exact Dm st.glob st.tmps c.args.toList
    obtain⟨r,bb,rfl,fa,hsz,ca⟩:=hR.yl a' C w s.sto _ _ v σ' st.sim st.glob hA' h;have hy:=run_yield (P:=E.P) (args:=c.args.map a.eval) fa hsz
    have bq:(execOp a.eval o).run E.P w=.ok (.round (C.stm a').toNat r.fn ((r.params.zip (c.args.map a.eval)).foldl (fun tmps (t,a)=>tmps.setIfInBounds t a) r.tmps) r.assign r.body) w:=by
     simp[execOp,hop,resolve,hc,hV,Deferred.ofValue,invoke]
     simpa[C9]using hy
    refine⟨fun _ _=>trivial,?_⟩
    rw[Oper.semAt_eq _ _ _ gr,bq,Oper.uponIn_round]
    refine⟨fun hh=>(by cases hh),(ca ro (n-1)).mono fun e w' he=>?_⟩
    obtain⟨rfl,C',k1,k2⟩:=he
    exact hK C' w' _ k1 k2 (by unfold R;rfl)
   split at h
   ·rename_i k args hk
    refine Ev (.inr (by rw[hop];rfl)) ?_
    unfold Rb at hk
    split at hk
    ·rename_i k' first cap hf
     cases hk;have hV:=Be st.glob st.tmps f;rw[hf]at hV;unfold R at hV;obtain⟨p,q,hV,hp,hq⟩:=hV;have bp:=Dm st.glob st.tmps c.args.toList
     have bs:RL C (nx s.sto) w (first++opds E s.tm c.args.toList++cap) (p++c.args.map a.eval++q).toList:=by
      simp only[cv_,c_];exact(hp.append bp).append hq
     obtain⟨⟨fn,g1,g2,g3⟩,b8⟩:=hR.fn k C w s.sto _ _ v σ' st.sim st.glob bs h
     have bq:(execOp a.eval o).run E.P w=.ok (.enter k (p++c.args.map a.eval++q)) w:=by
      have g2':fn.name≠ "runtime.NumGoroutine" :=gr;have g3':fn.body≠none:=gr
      simp[execOp,hop,resolve,hc,hV,Deferred.ofValue,invoke,callFunc,g1,g2',g3']
     unfold Oper.wp;rw[bq,Oper.upon_enter];refine b8.mono fun e w' he=>?_
     cases e with
     |returned x=>obtain⟨C',k1,k2,k3⟩:=he;exact hK C' w' x k1 k2 k3
     |panicked _=>exact he.elim
     |outgrown=>exact he.elim
    ·cases hk
   ·cases h
  |invoke r m=>
   rw[hop]at h;simp only[opA,hc]at h
   split at h
   ·rename_i t v' hr
    split at h
    ·rename_i f rv hm
     refine Ev (.inr (by rw[hop];rfl)) ?_
     have hV:=Be st.glob st.tmps r;rw[hr]at hV;unfold R at hV;obtain⟨X,hV,hX⟩:=hV;obtain⟨Y,h1,h2⟩:=Adv st.sim hX hm;have bp:=Dm st.glob st.tmps c.args.toList
     have bs:RL C (nx s.sto) w (rv::opds E s.tm c.args.toList) (#[Y]++c.args.map a.eval).toList:=by
      simp only[cv_,c_]
      show RL _ _ _ _ (Y::_)
      unfold RL;exact⟨h2,bp⟩
     obtain⟨⟨fn,g1,g2,g3⟩,b8⟩:=hR.fn f C w s.sto _ _ v σ' st.sim st.glob bs h
     have bq:(execOp a.eval o).run E.P w=.ok (.enter f (#[Y]++c.args.map a.eval)) w:=by
      have g2':fn.name≠ "runtime.NumGoroutine" :=gr;have g3':fn.body≠none:=gr
      have e1:execOp a.eval o=callMethod (a.eval r) m (c.args.map a.eval):=by
       have:execOp a.eval o=invoke (.fn (.method m) #[]) (#[a.eval r]++c.args.map a.eval):=by
        simp only[execOp,hop,resolve,hc,pure_bind]
       rw[this,Adu]
      rw[e1,hV];simp only[callMethod,Sem.run_bind,run_program,Result.andThen_ok,h1,callFunc,g1]
      simp[g2',g3']
     unfold Oper.wp;rw[bq,Oper.upon_enter];refine b8.mono fun e w' he=>?_
     cases e with
     |returned x=>obtain⟨C',k1,k2,k3⟩:=he;exact hK C' w' x k1 k2 k3
     |panicked _=>exact he.elim
     |outgrown=>exact he.elim
    ·cases h
   ·cases h
  |builtin b=>refine viaStep ?_;rw[hop]at h⊢;simpa only[opA,hc]using h
 |_=>refine viaStep ?_;rw[hop]at h⊢;exact h
theorem Aa3(hR:Bk E Rr){s s' a}(st:SSt E C w s a){ops o}(h:Yi E ops.toList o Rr s=some s'){K Q}
  (hK:∀C' w' a',SSt E C' w' s' a'->Ext C (nx s.sto) w C' (nx s'.sto) w'->K a' w'){ro n}(hpl:Aqr ro o.op):
  (Region.wanted o (yielded ops a.tmps)=true/\o.wpIn (Cy ro) n E.P a w K Q)∨(Region.wanted o (yielded ops a.tmps)=false/\K (a.put o.dst undef) w):=by
 unfold Yi at h
 split at h
 ·rename_i hg
  refine .inl ⟨Dp st.tmps hg,?_⟩
  split at h
  ·rename_i c hop
   split at h
   ·rename_i f hc hd
    split at h
    ·rename_i ka hk
     cases iy:Nat.beq ka.1 Ks
     case true=>simp[iy]at h
     simp only[iy,cond_false,af_]at h;subst h
     have pg:ka.1≠Ks:=fun hh=>by rw[hh]at iy;cases iy
     unfold Rb at hk
     split at hk
     ·rename_i k' first cap hf
      cases hk;have hV:=Be st.glob st.tmps f;rw[hf]at hV;unfold R at hV;obtain⟨p,q,hV,hp,hq⟩:=hV;have bp:=Dm st.glob st.tmps c.args.toList
      have bq:(execOp a.eval o).run E.P w=.ok (.defer { target:=.fn (.func k') q,args:=p++c.args.map a.eval }) w:=by
       simp[execOp,hop,resolve,hc,hV,Deferred.ofValue]
      refine Ev hpl ?_;unfold Oper.wp;rw[bq,Oper.upon_defer,hd,Adt];refine hK C w _ ⟨st.sim,st.glob,st.tmps,st.size,?_⟩ (cf_ _ _ _);unfold DR;refine⟨.inl ⟨pg,q,rfl,?_⟩,st.dfs⟩;simp only[cv_,c_];exact(hp.append bp).append hq
     ·cases hk
    ·cases h
   ·cases h
  ·split at h
   ·rename_i v σ' hv
    split at h
    ·rename_i tm htm
     cases h;exact Rg hR st hv fun C' w' x k1 k2 k3=>hK C' w' _ (st.put k1 k2 k3 htm) k2
    ·cases h
   ·cases h
 ·rename_i hg
  refine .inr ⟨Dp st.tmps hg,?_⟩
  split at h
  ·rename_i tm htm
   cases h;exact hK C w _ (st.put st.sim (cf_ _ _ _) P8 htm) (cf_ _ _ _)
  ·cases h
 ·cases h
end
section
theorem Aon{a b}(h:Fm a b=true):a=b:=(Gu a b).1 h
theorem Aqt{a b}(h:Tz a b=true):a=b:=by rw[Jg]at h;grind
theorem Ame{a b}(h:Af8 a b=true):a=b:=by
 cases a<;>cases b<;>simp only[Af8]at h
 ·rfl
 ·cases h
 ·cases h
 ·rw[ac_ h]
theorem Aoo{a b}(h:Akp a b=true):a=b:=by
 unfold Akp at h
 grind
theorem Aqu{a b}(h:Aql a b=true):a=b:=by
 unfold Aql at h
 split at h
 ·rw[ac_ h]
 grind
mutual
theorem AV.beq_eq:∀(x y:AV),AV.beq x y=true->x=y
 |.any,y,h=>by cases y<;>simp only[AV.beq]at h<;>first|rfl|cases h
 |.bool a,y,h=>by
  cases y<;>simp only[AV.beq]at h<;>first|(cases h;done)|skip
  grind
 |.int k n,y,h=>by
  cases y<;>simp only[AV.beq]at h<;>first|(cases h;done)|skip
  rw[ad_]at h;rw[(N4 _ _).1 h.1,Aqt h.2]
 |.str l,y,h=>by
  cases y<;>simp only[AV.beq]at h<;>first|(cases h;done)|skip
  rw[Aon h]
 |.nil v,y,h=>by
  cases y<;>simp only[AV.beq]at h<;>first|(cases h;done)|skip
  rw[Aoo h]
 |.pr a o,y,h=>by
  cases y<;>simp only[AV.beq]at h<;>first|(cases h;done)|skip
  rw[ad_]at h;rw[ac_ h.1,ac_ h.2]
 |.pv l,y,h=>by
  cases y<;>simp only[AV.beq]at h<;>first|(cases h;done)|skip
  rw[AV.beqs_eq _ _ h]
 |.sr a o s n c,y,h=>by
  cases y<;>simp only[AV.beq]at h<;>first|(cases h;done)|skip
  simp only[ad_]at h;rw[ac_ h.1.1.1.1,ac_ h.1.1.1.2,ac_ h.1.1.2,ac_ h.1.2,Ame h.2]
 |.sv l s n c,y,h=>by
  cases y<;>simp only[AV.beq]at h<;>first|(cases h;done)|skip
  simp only[ad_]at h;rw[AV.beqs_eq _ _ h.1.1.1,ac_ h.1.1.2,ac_ h.1.2,Ame h.2]
 |.mp a,y,h=>by
  cases y<;>simp only[AV.beq]at h<;>first|(cases h;done)|skip
  rw[ac_ h]
 |.it a,y,h=>by
  cases y<;>simp only[AV.beq]at h<;>first|(cases h;done)|skip
  rw[ac_ h]
 |.stp a,y,h=>by
  cases y<;>simp only[AV.beq]at h<;>first|(cases h;done)|skip
  rw[ac_ h]
 |.flt k a,y,h=>by
  cases y<;>simp only[AV.beq]at h<;>first|(cases h;done)|skip
  simp only[ad_,decide_eq_true_eq]at h;rw[h.1,ac_ h.2]
 |.yl a,y,h=>by
  cases y<;>simp only[AV.beq]at h<;>first|(cases h;done)|skip
  rw[ac_ h]
 |.fn f a b,y,h=>by
  cases y<;>simp only[AV.beq]at h<;>first|(cases h;done)|skip
  simp only[ad_]at h;rw[Aqu h.1.1,AV.beqs_eq _ _ h.1.2,AV.beqs_eq _ _ h.2]
 |.ifc t a,y,h=>by
  cases y<;>simp only[AV.beq]at h<;>first|(cases h;done)|skip
  rw[ad_]at h;rw[ac_ h.1,AV.beq_eq _ _ h.2]
 |.agg l,y,h=>by
  cases y<;>simp only[AV.beq]at h<;>first|(cases h;done)|skip
  rw[AV.beqs_eq _ _ h]
 |.tup l,y,h=>by
  cases y<;>simp only[AV.beq]at h<;>first|(cases h;done)|skip
  rw[AV.beqs_eq _ _ h]
theorem AV.beqs_eq:∀(l m:List AV),AV.beqs l m=true->l=m
 |[],m,h=>by cases m<;>simp only[AV.beqs]at h<;>first|rfl|cases h
 |x::r,m,h=>by
  cases m<;>simp only[AV.beqs]at h<;>first|(cases h;done)|skip
  rw[ad_]at h;rw[AV.beq_eq _ _ h.1,AV.beqs_eq _ _ h.2]
end
section
variable {C C':Ctx}{N N':Nat}{w w':World}{P:Program}
def Ctx.keep(C:Ctx)(τ:Sto):Ctx:={ C with loc:=fun a=>if(τ.get a).isSome then C.loc a else none }
end
end
def Jj:XE->Exit
 |.normal=>.normal
 |.exit id=>.exit id
 |.ret=>.ret
def Aej(E:Env)(C:Ctx)(N:Nat)(w:World)(l:List (XE×St)):Exit->Act->World->Prop:=fun e a' w'=>
 ∃y∈l,∃C',Jj y.1=e/\SSt E C' w' y.2 a'/\Ext C N w C' (nx y.2.sto) w'
theorem Gw{P}{b:Frame}{a k cs w c}:step P (lone (b.atR a (.code (.scope c)::k)) cs w)=.next (lone (b.atR a (.code c::.inScope c::k)) cs w):=
 step_lone_go (by simp[stepG,stepG.exec,Frame.atR])
theorem Adw{P}{b:Frame}{a k cs w c}:step P (lone (b.atR a (.inScope c::k)) cs w)=.next (lone (b.atR a k) cs w):=
 step_lone_go (by simp[stepG,stepG.exec,Frame.atR])
theorem Sc{F n P Q a w c}(h:c.wpIn F n P (Exit.noGoto Q) a w):(Code.scope c).wpIn F n P Q a w:=by
 intro b k cs hro hb hr;have h0:(lone (b.atR a (.code (.scope c)::k)) cs w).fenced P F:=fenced_calm hb hr rfl;obtain⟨e,a₁,w₁,hq,br⟩:=h b (.inScope c::k) cs hro hb hr;cases e with
 |normal=>exact⟨.normal,a₁,w₁,hq,.head h0 Gw (StepsIn.trans br (.one (fenced_calm hb hr rfl) Adw))⟩
 |exit id=>
  have hx:exitTo id (.inScope c::k)=exitTo id k:=by simp[exitTo]
  exact⟨.exit id,a₁,w₁,hq,fun k' hk=>.head h0 Gw (br.1 k' gr),
   fun hr' hk=>let⟨k₁,h1,h2⟩:=br.2 hr' gr;⟨k₁,h1,.head h0 Gw h2⟩⟩
 |goto l=>exact hq.elim
 |ret=>exact⟨_,a₁,w₁,hq,fun hn=>let⟨k₁,s₁⟩:=br.1 hn;⟨k₁,.head h0 Gw s₁⟩,fun hr'=>let⟨k₁,s₁⟩:=br.2 hr';⟨k₁,.head h0 Gw s₁⟩⟩
 |panic ch=>exact⟨_,a₁,w₁,hq,.of_steps (.one h0 Gw) br⟩
 |outgrown=>exact⟨_,a₁,w₁,hq,.of_steps (.one h0 Gw) br⟩
section
variable {E:Env}{C C':Ctx}{N N':Nat}{w w':World}{Rr:Rec}
theorem Bk.none:Bk E (fun _ _ _=>Option.none):=⟨fun _ _ _ _ _ _ _ _ _ _ _ h=>by(cases h),fun _ _ _ _ _ _ _ _ _ _ _ h=>by(cases h),fun _ _ _ _ _ _ h=>by(cases h)⟩
abbrev di_:=@Bk.none
end
section
variable {E:Env}{tm tm':Tr AV}{σ σ':Sto}
theorem Jk:∀{l:List Operand},(∀x∈l,opd E tm x=opd E tm' x)->opds E tm l=opds E tm' l
 |[],_=>rfl
 |x::r,h=>by simp only[opds,h x (by simp),Jk fun y hy=>h y (aj_ _ hy)]
theorem Sq{P fs}:∀{l:List (Nat×Operand)},(∀x∈l.map (·.2),opd E tm x=opd E tm' x)->Js P E tm fs l=Js P E tm' fs l
 |[],_=>rfl
 |(i,x)::r,h=>by
  simp only[Js,h x (by simp),Sq (l:=r) fun y hy=>h y (aj_ _ hy)]
theorem M5{n}:∀{l:List (Nat×Operand)},(∀x∈l.map (·.2),opd E tm x=opd E tm' x)->Is E tm n l=Is E tm' n l
 |[],_=>rfl
 |(i,x)::r,h=>by
  simp only[Is,h x (by simp),M5 (l:=r) fun y hy=>h y (aj_ _ hy)]
theorem Xt{op}(h:∀x∈op.operands,opd E tm x=opd E tm' x):Aw E op tm σ=Aw E op tm' σ:=by
 cases op<;>simp only[Op.operands]at h<;>simp only[Aw]
 case build t ps=>
  have h':∀x∈ps.toList.map (·.2),opd E tm x=opd E tm' x:=fun x hx=>h x (by simpa using hx)
  simp only[Sq h',M5 h']
 case buildSlice t n ps=>
  have h':∀x∈ps.toList.map (·.2),opd E tm x=opd E tm' x:=fun x hx=>h x (by simpa using hx)
  simp only[M5 h']
 case makeFunc f first cap=>
  rw[Jk (l:=first.toList) fun x hx=>h x (by simp at hx;simp[hx]),Jk (l:=cap.toList) fun x hx=>h x (by simp at hx;simp[hx])]
 case makeMap t r=>
  cases hti:Ay E.P t with
  |none=>rfl
  |some ti=>
   obtain⟨d,n,b,z,g⟩:=ti;cases r with
   |none=>cases d<;>rfl
   |some x=>cases d<;>first|rfl|simp only[h x (by simp)]
 case slice t x lo hi mx=>cases lo<;>cases hi<;>cases mx<;>simp_all [opdO]
 case call c=>
  have h':opds E tm c.args.toList=opds E tm' c.args.toList:=Jk fun x hx=>h x (by simp[Call.operands];right;simpa using hx)
  cases hc:c.callee with
  |builtin b=>
   simp only;cases hx:c.args.toList with
   |nil=>cases c.argTypes.toList<;>rfl
   |cons y ys=>
    rw[hx]at h';simp only[opds,dl_]at h';cases c.argTypes.toList with
    |nil=>rfl
    |cons t ts=>simp only[h'.1,h'.2]
  |value f=>rfl
  |invoke r m=>rfl
 all_goals (first|rfl|(simp_all;done))
theorem Aek{Rr op}(h:∀x∈op.operands,opd E tm x=opd E tm' x):opA E op Rr tm σ=opA E op Rr tm' σ:=by
 cases op
 case call c=>
  cases hc:c.callee with
  |value f=>
   simp only[opA,hc]
   rw[h f (by simp[Op.operands,Call.operands,hc]),Jk (l:=c.args.toList) fun x hx=>h x (by simp[Op.operands,Call.operands,hc];right;simpa using hx)]
  |builtin b=>simp only[opA,hc];exact Xt h
  |invoke r m=>
   simp only[opA,hc]
   rw[h r (by simp[Op.operands,Call.operands,hc]),Jk (l:=c.args.toList) fun x hx=>h x (by simp[Op.operands,Call.operands,hc];right;simpa using hx)]
 all_goals (simp only[opA];exact Xt h)
theorem Fk.const(r:Option AV):Fk fun σ=>match r with|some v=>some (v,σ)|none=>none:=by
 intro σ σ' v h;cases r with
 |none=>cases h
 |some u=>cases h;exact⟨rfl,fun _=>rfl⟩
theorem Fk.none:Fk fun _=>Option.none:=fun _ _ _ h=>by cases h
abbrev ax_:=@Fk.none
theorem Fk.some(v):Fk fun σ=>Option.some (v,σ):=fun _ _ _ h=>by cases h;exact⟨rfl,fun _=>rfl⟩
abbrev ck_:=@Fk.some
theorem Ael(x):Fk (Aad x):=ck_ x
theorem Aqv(t x):Fk (sIfc t x):=ck_ _
theorem Aop(f a b):Fk (Al4 f a b):=ck_ _
theorem Aoq(c a b):Fk (Ad8 c a b):=by
 unfold Ad8;split
 ·exact ck_ _
 ·exact ck_ _
 ·exact ax_
theorem Adx(x):Fk (Jf x):=by
 unfold Jf;split
 ·exact ck_ _
 ·exact ck_ _
 ·exact ck_ _
 ·exact ax_
theorem Ah7(r):Fk (Sx r):=by
 unfold Sx;split
 ·exact ck_ _
 ·exact ax_
theorem Aa4(z ps):Fk (M2 z ps):=by
 unfold M2;split
 ·exact ck_ _
 ·exact ax_
theorem Yu(z size len ps):Fk (Id z size len false ps):=by
 unfold Id;split
 ·exact ck_ _
 ·exact ax_
theorem Aqw(n x):Fk (Aqj n x):=by
 unfold Aqj;split
 ·exact ck_ _
 ·exact ax_
theorem Ak0(ti n x):Fk (Af4 ti n x):=by
 unfold Af4;split
 ·split
  ·exact ck_ _
  ·exact ax_
 ·exact ax_
theorem Lf(b){f g}(hf:Fk f)(hg:Fk g):Fk fun σ=>cond b (f σ) (g σ):=by
 cases b
 ·exact hg
 ·exact hf
theorem Aa5(n x i):Fk (Gt n x i):=by
 unfold Gt;split
 ·split
  ·simp only[Ak];exact Lf _ (ck_ _) ax_
  ·exact Lf _ (ck_ _) ax_
  ·exact ax_
 ·exact ax_
theorem Uk(l n x i):Fk (E6 l n x i):=by
 unfold E6;split
 ·exact Lf _ (Fk.const _) ax_
 ·exact ax_
theorem Ady(x i):Fk (Lc x i):=by
 unfold Lc;split
 ·split
  ·exact ck_ _
  ·exact ax_
 ·exact ax_
theorem Adz(te l x i):Fk (Le te l x i):=by
 unfold Le;split
 ·exact Lf _ (Fk.const _) ax_
 ·exact ax_
theorem Sr(x lo hi):Fk (Nb x lo hi):=by
 unfold Nb;split
 ·split
  ·exact ck_ _
  ·exact ax_
 ·exact ax_
theorem Aa6(n x lo hi mx):Fk (Lj n x lo hi mx):=by
 unfold Lj;split
 ·split
  ·split
   ·simp only[Ak];exact ck_ _
   ·exact ax_
  ·exact ax_
 ·split
  ·split
   ·split
    ·simp only[Ak];exact ck_ _
    ·exact ax_
   ·exact ax_
  ·exact ax_
 ·split
  ·exact ck_ _
  ·exact ax_
 ·exact ax_
theorem Agl(i x):Fk (Nc i x):=by
 unfold Nc;split
 ·split
  ·exact ck_ _
  ·exact ax_
 ·exact ax_
theorem Ah8(t z ok x):Fk (Zr t z ok x):=by
 intro σ σ' v h;cases h
theorem Aqx(x):Fk (Kj x):=by
 unfold Kj;split
 ·exact ck_ _
 ·exact ck_ _
 ·exact ck_ _
 ·exact ax_
theorem Ah9(f x y):Fk (Xm f x y):=by
 unfold Xm;split
 ·exact Lf _ (ck_ _) ax_
 ·exact ax_
theorem Aor(x y z):Fk (Al5 x y z):=by
 unfold Al5;split
 ·exact Lf _ (ck_ _) ax_
 ·exact ax_
theorem Aos{op}(hc:Bc E op=.pure):Fk (Aw E op tm):=by
 show Fk fun σ=>Aw E op tm σ
 cases op<;>simp only[Bc]at hc<;>try (cases hc;done)
 case move x=>exact Ael _
 case assign x=>exact Ael _
 case pick c a b=>exact Aoq _ _ _
 case nilCheck x=>exact Adx _
 case build t ps=>
  simp only[Aw];split
  ·split
   ·split
    ·exact Aa4 _ _
    ·exact ax_
   ·split
    ·exact Aa4 _ _
    ·exact ax_
   ·exact ax_
  ·exact ax_
 case buildSlice t n ps=>
  simp only[Aw]
  split at hc
  ·rename_i ti hti
   split at hc
   ·rename_i e hd
    split at hc
    ·cases hc
    ·rename_i hb
     split
     ·split
      ·split
       ·rw[hb];exact Yu _ _ _ _
       ·exact ax_
      ·exact ax_
     ·exact ax_
   ·cases hc
  ·cases hc
 case binOp op t x y _=>exact Ah7 _
 case unOp op t x=>exact Ah7 _
 case makeInterface t x=>
  simp only[Aw];split
  ·split
   ·exact ax_
   ·exact Aqv _ _
  ·exact ax_
 case makeFunc f a b=>exact Aop _ _ _
 case slice t x lo hi mx=>
  simp only[Aw]
  split at hc
  ·rename_i ti hti
   split at hc
   ·cases hc
   ·rename_i hd
    split
    ·split
     ·exact Sr _ _ _
     ·exact ax_
    ·split
     ·exact Aa6 _ _ _ _ _
     ·exact ax_
    ·rename_i n e hd';exact absurd hd' (hd n e)
    ·exact ax_
  ·cases hc
 case fieldAddr t x i=>
  simp only[Aw];split
  ·split
   ·split
    ·split
     ·split
      ·exact ax_
      ·exact Aqw _ _
     ·exact ax_
    ·exact ax_
   ·exact ax_
  ·exact ax_
 case field t x i=>
  simp only[Aw];split
  ·split
   ·split
    ·split
     ·exact Ak0 _ _ _
     ·exact ax_
    ·exact ax_
   ·exact ax_
  ·exact ax_
 case indexAddr t x i=>
  simp only[Aw];split
  ·split
   ·split
    ·exact Aa5 _ _ _
    ·exact ax_
   ·split
    ·exact Uk _ _ _ _
    ·exact ax_
   ·exact ax_
  ·exact ax_
 case index t x i=>
  simp only[Aw];split
  ·split
   ·exact Ady _ _
   ·split
    ·exact Adz _ _ _ _
    ·exact ax_
   ·exact ax_
  ·exact ax_
 case extract x i=>exact Agl _ _
 case typeAssert x xt t ok=>
  simp only[Aw];split
  ·split
   ·exact ax_
   ·exact Ah8 _ _ _ _
  ·exact ax_
 case call c=>
  simp only[Aw]
  split at hc<;>try (cases hc;done)
  all_goals first|(rename_i hb;simp only[hb];exact ax_)|skip
  all_goals rename_i hb
  all_goals simp only[hb]
  all_goals split<;>try exact ax_
  all_goals split<;>try exact ax_
  all_goals simp only[Ee]
  ·split
   ·exact Aqx _
   ·exact ax_
  ·split
   ·exact Ah9 _ _ _
   ·exact ax_
  ·split
   ·exact Ah9 _ _ _
   ·exact Aor _ _ _
   ·exact ax_
theorem S6{op}(hc:Bc E op=.read){v}(h:Aw E op tm σ=some (v,σ')):σ'=σ:=by
 cases op<;>simp only[Bc]at hc<;>try (cases hc;done)
 case load t x=>
  simp only[Aw]at h
  split at h
  ·unfold Na at h
   (repeat' (split at h))<;>first|(cases h;done)|(cases h;rfl)
  ·cases h
 case lookup t m k ok=>
  simp only[Aw]at h
  (repeat' (split at h))<;>try (cases h;done)
  unfold Ky at h
  (repeat' (split at h))<;>first|(cases h;done)|(cases h;rfl)
 case entry x=>
  simp only[Aw]at h;unfold Aaf at h
  split at h
  ·split at h
   ·split at h
    ·unfold cond at h
     split at h
     ·cases h;rfl
     ·cases h
    ·cases h
   ·cases h
  ·cases h
 case convert s d x=>
  simp only[Aw]at h
  (repeat' (split at h))<;>try (cases h;done)
  ·unfold Pp at h
   (repeat' (split at h))<;>first|(cases h;done)|(cases h;rfl)
  ·unfold T4 at h
   (repeat' (split at h))<;>first|(cases h;done)|(cases h;rfl)
  ·unfold Kx at h
   (repeat' (split at h))<;>first|(cases h;done)|(cases h;rfl)
 case slice t x lo hi mx=>
  simp only[Aw]at h
  (repeat' (split at h))<;>try (cases h;done)
  ·exact(Sr _ _ _ _ _ _ h).1
  ·exact(Aa6 _ _ _ _ _ _ _ _ h).1
 case call c=>
  simp only[Aw]at h
  split at hc<;>try (cases hc;done)
  all_goals first|(rename_i hb;simp only[hb]at h;done)|(rename_i hb;simp only[hb]at h;cases h;done)|skip
  rename_i hb
  simp only[hb]at h
  (repeat' (split at h))<;>try (cases h;done)
  simp only[Ee]at h
  (repeat' (split at h))<;>try (cases h;done)
  ·unfold sLen at h
   (repeat' (split at h))<;>first|(cases h;done)|(cases h;rfl)
  ·unfold Zt at h;simp only[Ak]at h
   (repeat' (split at h))<;>first|(cases h;done)|(cases h;rfl)
  ·unfold T6 at h;simp only[Ak]at h
   (repeat' (split at h))<;>first|(cases h;done)|(cases h;rfl)
  ·cases h;rfl
 all_goals (split at hc<;>first|(cases hc;done)|(split at hc<;>first|(cases hc;done)|(split at hc<;>cases hc)))
end
theorem Aem(A:Nat->Nat)(i):∀(l:List Edge) (s:Nat),(l.foldl (fun s e=>if Region.binds .any e then s|||2 ^ e.on|||A e.on else s) s).testBit i=true->
  s.testBit i=true∨∃e∈l,Region.binds .any e=true/\(i=e.on∨(A e.on).testBit i=true)
 |[],s,h=>.inl h
 |e::l,s,h=>by
  simp only[ct_]at h
  rcases Aem A i l _ h with h1|⟨f,h1,h2⟩
  ·grind
  grind
theorem Aen(val:Array Nat->Oper->Nat):∀(l:List Oper) (acc:Array Nat),
  (l.foldl (fun acc o=>acc.push (val acc o)) acc).size=acc.size+l.length/\(∀k,k<acc.size->(l.foldl (fun acc o=>acc.push (val acc o)) acc)[k]? =acc[k]?)/\
  ∀(k:Nat) (o:Oper),l[k]? =some o->∃A:Array Nat,A.size=acc.size+k/\(∀m,m<A.size->(l.foldl (fun acc o=>acc.push (val acc o)) acc)[m]? =A[m]?)/\(l.foldl (fun acc o=>acc.push (val acc o)) acc)[acc.size+k]? =some (val A o)
 |[],acc=>⟨by simp,fun k _=>rfl,gr⟩
 |x::l,acc=>by
  obtain⟨h1,h2,h3⟩:=Aen val l (acc.push (val acc x))
  grind
theorem Xu{ops j o}(ho:ops[j]? =some o){i}(h:((Region.before ops).getD j 0).testBit i=true):
  ∃e∈o.after,Region.binds .any e=true/\(i=e.on∨((Region.before ops).getD e.on 0).testBit i=true):=by
 obtain⟨f,hf⟩:∃f:Array Nat->Oper->Nat,(∀A o,f A o=o.after.toList.foldl (fun s e=>if Region.binds .any e then s|||2 ^ e.on|||A.getD e.on 0 else s) 0)/\
   Region.before ops=ops.toList.foldl (fun acc o=>acc.push (f acc o)) #[]:=by
  refine⟨fun A o=>o.after.foldl (fun s e=>if Region.binds .any e then s|||2 ^ e.on|||A.getD e.on 0 else s) 0,gr,?_⟩
  unfold Region.before
  grind
 obtain⟨hf1,hf2⟩:=hf;obtain⟨_,_,h3⟩:=Aen f ops.toList #[];obtain⟨A,a1,a2,a3⟩:=h3 j o gr;rw[←hf2]at a2 a3
 have hv:(Region.before ops).getD j 0=f A o:=by
  rw[bo_]
  grind
 rw[hv,hf1]at h
 rcases Aem (fun k=>A.getD k 0) i _ 0 h with h0|⟨e,h4,h5,h6⟩
 ·simp at h0
 ·refine⟨e,gr,h5,h6.imp id fun h7=>?_⟩
  by_cases hk:e.on<A.size
  ·rw[bo_,a2 _ hk,←bo_];exact h7
  grind
end Go.AM
