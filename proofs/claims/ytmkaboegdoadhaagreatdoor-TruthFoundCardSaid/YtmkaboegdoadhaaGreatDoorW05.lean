/- A part of the proof; shortened by program. -/
import Derived.Scope
import Derived.Defers
import Derived.RangeFuncIn
import Derived.RangeFuncRecord
import Derived.RangeFuncLeaves
import Derived.OrdersIn
import Derived.TacticsIn
import Derived.Test.YtmkaboegdoadhaaGreatDoorW00
set_option maxRecDepth 100000
set_option maxHeartbeats 4000000
set_option linter.unusedSimpArgs false
set_option linter.unusedVariables false
namespace Go.AM
open Go
section
variable {P:Program}{C C':Ctx}{N N':Nat}{w w':World}{J J':Sto}
def S5(P:Program)(C:Ctx)(w:World)(J:Sto)(s:Sem Next)(v:AV)(J':Sto):Prop:=
 ∃x w' C',(s.run P w=.ok (.value x) w'∨(s.run P w=.ok .skip w'/\x=undef))/\R C' (nx J') w' v x/\Sim P C' w' J'/\Ext C (nx J) w C' (nx J') w'
theorem S5.ofRuns{s v}(h:Iv P C w J s v J'):S5 P C w J (do pure (.value (←s))) v J':=by
 obtain⟨y,x,w',C',h1,rfl,h3,h4,h5⟩:=h
 exact⟨y,w',C',.inl (by simp[h1]),h5,h3,h4⟩
theorem S5.ofPure(hs:Sim P C w J){s v}(h:J'=J/\Dz P C (nx J) w s v):S5 P C w J (do pure (.value (←s))) v J':=by
 obtain⟨rfl,h⟩:=h;exact .ofRuns (h.runs hs)
theorem S5.ofUnit{s v}(h:v=An/\∃w',s.run P w=.ok () w'/\Sim P C w' J'/\Ext C (nx J) w C (nx J') w'):S5 P C w J (do s;pure .skip) v J':=by
 obtain⟨rfl,w',h1,h2,h3⟩:=h
 refine⟨undef,w',C,.inr ⟨by simp[h1],rfl⟩,?_,h2,h3⟩
 unfold An R;exact⟨#[],rfl,by unfold RL;trivial⟩
theorem S5.ofTuple{s v}(h:v=An/\∃w',s.run P w=.ok (.tuple #[]) w'/\Sim P C w' J'/\Ext C (nx J) w C (nx J') w'):S5 P C w J (do pure (.value (←s))) v J':=by
 obtain⟨rfl,w',h1,h2,h3⟩:=h
 refine⟨.tuple #[],w',C,.inl (by simp[h1]),?_,h2,h3⟩
 unfold An R;exact⟨#[],rfl,by unfold RL;trivial⟩
theorem Aky{E tm}{a:Act}(hg:Iw C N w E)(ht:TR C N w tm a.tmps)(x):RO C N w (opdO E tm x) (x.map a.eval):=by
 cases x with
 |none=>simp only[opdO,gt_];unfold RO;trivial
 |some x=>simp only[opdO,ds_];unfold RO;exact Be hg ht x
theorem Aa1(hs:Sim P C w J){E}(hE:E.P=P){b}{t:TypeId}{ti}(hti:Ay P t=some ti){ts:List TypeId}{x X xs Xs}
  (hx:R C (nx J) w x X)(hxs:RL C (nx J) w xs Xs){v}(h:Ee E b ti ts x xs J=some (v,J'))(ty consts):
  S5 P C w J (builtin b (t::ts).toArray ty consts (X::Xs).toArray) v J':=by
 subst hE;obtain⟨i,d,g1,g2,g3,g4,_⟩:=Ap hti
 have arg0:∀(s s':Sem Value),(∀w,s.run E.P w=s'.run E.P w)->S5 E.P C w J (do pure (.value (←s'))) v J'->S5 E.P C w J (do pure (.value (←s))) v J':=by
  rintro s s' he ⟨y,w',C',h1,h2⟩;refine⟨y,w',C',?_,h2⟩;simp only[Sem.run_bind]at h1⊢
  grind
 cases b<;>simp only[Ee]at h
 case len=>
  split at h
  ·rename_i e hd
   refine .ofPure hs ?_
   have hu:=g2.trans (by rw[←g3,hd])
   unfold sLen at h
   split at h
   ·cases h;unfold R at hx;obtain⟨ad,k,rfl,_⟩:=hx
    exact⟨rfl,_,by simp[Builtin.len_,Aa hu];rfl,by unfold goInt R;rfl⟩
   ·cases h;unfold R at hx;obtain⟨ad,k,rfl,_⟩:=hx
    exact⟨rfl,_,by simp[Builtin.len_,Aa hu];rfl,by unfold goInt R;rfl⟩
   ·cases h;unfold R at hx;obtain⟨rfl,_⟩:=hx
    exact⟨rfl,_,by simp[Builtin.len_,Aa hu];rfl,by unfold goInt R;rfl⟩
   grind
  ·rename_i hd
   refine .ofPure hs ?_
   have hu:=g2.trans (by rw[←g3,hd])
   unfold Zt at h
   split at h
   ·rw[Ak]at h;cases h;unfold R at hx;obtain⟨s,rfl,rfl⟩:=hx
    exact⟨rfl,_,by simp[Builtin.len_,Aa hu];rfl,by unfold goInt R;rw[Fg];rfl⟩
   grind
  ·rename_i kt et hd
   have:=Adr (ty:=ty) hs hti hd hx h;refine arg0 _ (Builtin.len_ #[t] ty #[X]) (fun w=>?_) (.ofPure hs this)
   simp[Builtin.len_]
  ·rename_i n e hd
   refine .ofPure hs ?_
   have hu:=g2.trans (by rw[←g3,hd])
   cases h
   exact⟨rfl,_,by simp[Builtin.len_,Aa hu];rfl,by unfold goInt R;rfl⟩
  ·cases h
 case cap=>
  split at h
  ·rename_i e hd
   refine .ofPure hs ?_
   have hu:=g2.trans (by rw[←g3,hd])
   unfold Kj at h
   split at h
   ·rename_i q
    cases h;unfold R at hx;obtain⟨ad,k,rfl,_,_,hq,_⟩:=hx;have:=hq _ rfl;subst this
    exact⟨rfl,_,by simp[Builtin.cap_,Aa hu];rfl,by unfold goInt R;rfl⟩
   ·cases h;unfold R at hx;obtain⟨ad,k,rfl,_,hq,_⟩:=hx;have:=hq _ rfl;subst this
    exact⟨rfl,_,by simp[Builtin.cap_,Aa hu];rfl,by unfold goInt R;rfl⟩
   ·cases h;unfold R at hx;obtain⟨rfl,_⟩:=hx
    exact⟨rfl,_,by simp[Builtin.cap_,Aa hu];rfl,by unfold goInt R;rfl⟩
   grind
  ·cases h
 case clear=>
  split at h
  ·rename_i kt et hd
   have:=Yq (ty:=ty) hs hti hd hx h;refine arg0 _ (Builtin.clear_ #[t] ty #[X]) (fun w=>?_) (.ofTuple this)
   simp[Builtin.clear_]
  ·rename_i e hd
   split at h
   ·rename_i te hte
    split at h
    ·rename_i z hz
     split at h
     ·rename_i hl
      have:=Age (ty:=ty) hs hti hd hte hz (ac_ hl) hx h;refine arg0 _ (Builtin.clear_ #[t] ty #[X]) (fun w=>?_) (.ofTuple this)
      simp[Builtin.clear_]
     grind
    grind
   grind
  ·cases h
 case append=>
  split at h
  ·rename_i e t2 ts' y ys hd
   have hu:=g2.trans (by rw[←g3,hd])
   cases Xs with
   |nil=>unfold RL at hxs;exact hxs.elim
   |cons Y Ys=>
    unfold RL at hxs
    have hre:∀w,(Builtin.append_ (t::t2::ts').toArray ty (X::Y::Ys).toArray).run E.P w=(Builtin.append_ #[t,t2] ty #[X,Y]).run E.P w:=fun w=>by simp[Builtin.append_]
    split at h
    ·rename_i te tx hte htx
     obtain⟨_,dx,_,gx,gx3,_⟩:=Ap htx
     split at h
     ·rename_i z hz
      split at h
      ·rename_i hl
       have hl:=ac_ hl
       split at h
       ·rename_i e2 hd2
        exact arg0 _ _ hre (.ofRuns (So hs hu hte hz hl (gx.trans (by rw[←gx3,hd2])) gr hx hxs.1 h))
       ·rename_i hd2
        exact arg0 _ _ hre (.ofRuns (So hs hu hte hz hl (gx.trans (by rw[←gx3,hd2])) gr hx hxs.1 h))
       ·rename_i k hd2
        exact arg0 _ _ hre (.ofRuns (Aau hs hu hte hz hl (gx.trans (by rw[←gx3,hd2])) hx hxs.1 h))
       grind
      grind
     grind
    ·cases h
  ·cases h
 case copy=>
  split at h
  ·rename_i e y ys hd
   have hu:=g2.trans (by rw[←g3,hd])
   cases Xs with
   |nil=>unfold RL at hxs;exact hxs.elim
   |cons Y Ys=>
    unfold RL at hxs
    split at h
    ·rename_i te hte
     refine arg0 _ (Builtin.copy_ #[t,t] ty #[X,Y]) (fun w=>?_) (.ofRuns (Ah3 hs hu hte hx hxs.1 h))
     simp[Builtin.copy_]
    ·cases h
  ·cases h
 case delete=>
  split at h
  ·rename_i kt et y ys hd
   cases Xs with
   |nil=>unfold RL at hxs;exact hxs.elim
   |cons Y Ys=>
    unfold RL at hxs;refine arg0 _ (Builtin.delete_ #[t,t] ty #[X,Y]) (fun w=>?_) (.ofTuple (Adq hs hti hd hxs.1 hx h))
    simp[Builtin.delete_]
  ·cases h
 case min=>
  split at h
  ·rename_i y
   cases Xs with
   |nil=>unfold RL at hxs;exact hxs.elim
   |cons Y Ys=>
    unfold RL at hxs;have hY:Ys=[]:=gi_ hxs.2;subst hY;unfold Xm at h
    split at h
    ·rename_i k a k' b
     cases hb:Ed k k'
     ·grind
     ·simp only[hb,cond_true,af_,ba_]at h;obtain⟨rfl,rfl⟩:=h;unfold R at hx;subst hx;have h1:=hxs.1;unfold R at h1;subst h1
      refine .ofPure hs ⟨rfl,.int k (Aag a b),?_,by unfold R;rfl⟩
      simp only[Builtin.min_,List.foldlM_cons,List.foldlM_nil,Sem.run_bind];simp only[Builtin.min2,Sem.run_pure,Result.andThen_ok,Aag,Ec]
      grind
    ·cases h
  ·cases h
 case max=>
  split at h
  ·rename_i y
   cases Xs with
   |nil=>unfold RL at hxs;exact hxs.elim
   |cons Y Ys=>
    unfold RL at hxs;have hY:Ys=[]:=gi_ hxs.2;subst hY;unfold Xm at h
    split at h
    ·rename_i k a k' b
     cases hb:Ed k k'
     ·grind
     ·simp only[hb,cond_true,af_,ba_]at h;obtain⟨rfl,rfl⟩:=h;unfold R at hx;subst hx;have h1:=hxs.1;unfold R at h1;subst h1
      refine .ofPure hs ⟨rfl,.int k (Ll a b),?_,by unfold R;rfl⟩
      simp only[Builtin.max_,List.foldlM_cons,List.foldlM_nil,Sem.run_bind];simp only[Builtin.max2,Sem.run_pure,Result.andThen_ok,Ll,Ec]
      grind
    ·cases h
  ·rename_i y z
   cases Xs with
   |nil=>unfold RL at hxs;exact hxs.elim
   |cons Y Ys=>
    unfold RL at hxs;cases Ys with
    |nil=>have h2:=hxs.2;unfold RL at h2;exact h2.elim
    |cons Z Zs=>
    have h3:=hxs.2;unfold RL at h3;have hZ:Zs=[]:=gi_ h3.2;subst hZ;unfold Al5 at h
    split at h
    ·rename_i k a k' b k'' c
     cases hb:(Ed k k'&&Ed k k'')
     ·grind
     ·simp only[hb,cond_true,af_,ba_]at h;obtain⟨rfl,rfl⟩:=h;unfold R at hx;subst hx;have h1:=hxs.1;unfold R at h1;subst h1;have h4:=h3.1;unfold R at h4;subst h4
      refine .ofPure hs ⟨rfl,.int k (Ll (Ll a b) c),?_,by unfold R;rfl⟩
      simp only[Builtin.max_,List.foldlM_cons,List.foldlM_nil,Sem.run_bind]
      have m2:∀(q:IntKind) (x y:Int) (u:World),Sem.run E.P (Builtin.max2 (.int k x) (.int q y)) u=.ok (.int k (Ll x y)) u:=fun q x y u=>by
       simp only[Builtin.max2,Ll,Ec]
       by_cases hab:y<=x
       ·rw[if_neg Om];simp[hab]
       ·rw[if_pos Om];simp[hab]
      simp only[m2,Result.andThen_ok,Sem.run_pure]
    ·cases h
  ·cases h
 all_goals (cases h)
theorem Kl(a:Act)(ps:Array (Nat×Operand)):(ps.map fun(i,x)=>(i,a.eval x)).toList=ps.toList.map fun(i,x)=>(i,a.eval x):=by simp
theorem Ah6(hs:Sim P C w J){E}(hE:E.P=P){tm}{a:Act}(hg:Iw C (nx J) w E)(ht:TR C (nx J) w tm a.tmps){o v}(h:Aw E o.op tm J=some (v,J')):
  S5 P C w J (execOp a.eval o) v J'/\(∀x w',(execOp a.eval o).run P w≠.ok x w'∨(∃y,x=.value y)∨x=.skip):=by
 have key:S5 P C w J (execOp a.eval o) v J':=by
  subst hE;obtain⟨dst,op,ty,pos,after,guard⟩:=o;have O:=fun x=>Be hg ht x
  have OO:=fun x=>Aky hg ht x
  cases op<;>simp only[Aw]at h<;>try (cases h;done)
  case move x=>unfold Aad at h;cases h;exact⟨_,w,C,.inl rfl,O x,hs,cf_ _ _ _⟩
  case assign x=>unfold Aad at h;cases h;exact⟨_,w,C,.inl rfl,O x,hs,cf_ _ _ _⟩
  case pick c x y=>
   have hc:=O c;unfold Ad8 at h
   split at h
   ·rename_i heq;rw[heq]at hc;unfold R at hc
    cases h
    exact⟨_,w,C,.inl (by simp[execOp,hc,asBool]),O x,hs,cf_ _ _ _⟩
   ·rename_i heq;rw[heq]at hc;unfold R at hc
    cases h
    exact⟨_,w,C,.inl (by simp[execOp,hc,asBool]),O y,hs,cf_ _ _ _⟩
   ·cases h
  case nilCheck x=>
   obtain⟨rfl,h1,h2⟩:=Ym (O x) h dst x a.eval rfl ty pos after guard;exact⟨_,w,C,.inl h1,h2,hs,cf_ _ _ _⟩
  case alloc t=>
   split at h
   ·rename_i ti hti
    split at h
    ·rename_i z hz;exact .ofRuns (Agc hs hti hz h)
    grind
   ·cases h
  case box t x=>
   split at h
   ·rename_i ti hti;exact .ofRuns (Aku hs (O x) h)
   ·cases h
  case build t parts=>
   split at h
   ·rename_i ti hti
    split at h
    ·rename_i z fs hz hd
     split at h
     ·rename_i ps hi hps
      obtain⟨pl,hpl,hat⟩:=N8 hi;refine .ofPure hs (Uf hti hd hz hi (place:=(pl.toArray[·]?)) gr (ps:=ps) ?_ h);rw[Kl];exact Sk rfl hg ht gr hps
     grind
    ·rename_i z n e hz hd
     split at h
     ·rename_i te hte
      refine .ofPure hs (Aaq hti hd hte hz ?_ h);rw[Kl];exact M3 hg ht _ _
     grind
    grind
   ·cases h
  case buildSlice t len parts=>
   split at h
   ·rename_i ti hti
    split at h
    ·rename_i e hd
     split at h
     ·rename_i te hte
      split at h
      ·rename_i z hz
       split at h
       ·rename_i hb
        rw[ad_]at hb;refine .ofRuns (Ug hs hti hd hte hz (ac_ hb.2) (al_ hb.1) ?_ h).1;rw[Kl];exact M3 hg ht _ _
       grind
      grind
     grind
    grind
   ·cases h
  case load t x=>
   split at h
   ·rename_i ti hti;exact .ofPure hs (P1 hs hti (O x) h)
   ·cases h
  case store t x y=>
   split at h
   ·rename_i ti hti
    obtain⟨h1,w',h2,h3,h4⟩:=Agd hs hti (O x) (O y) h;exact .ofUnit ⟨h1,w',h2,h3,gr⟩
   ·cases h
  case binOp op t x y _=>
   unfold Sx at h
   split at h
   ·rename_i u hu;cases h;exact .ofPure hs ⟨rfl,Aks (O x) (O y) hu⟩
   ·cases h
  case unOp op t x=>
   unfold Sx at h
   split at h
   ·rename_i u hu;cases h;exact .ofPure hs ⟨rfl,Aol (O x) hu⟩
   ·cases h
  case convert s d x=>
   split at h
   ·rename_i ts td hts htd
    obtain⟨_,ds,_,s2,s3,_⟩:=Ap hts;obtain⟨_,dd,_,d2,d3,_⟩:=Ap htd
    split at h
    ·rename_i k hd;exact .ofPure hs (Aar s2 (d2.trans gr) (O x) h)
    ·rename_i k hd;exact .ofPure hs (Aas s2 (d2.trans gr) (O x) h)
    ·rename_i hd
     split at h
     ·rename_i hd';exact .ofPure hs (Aat s2 (d2.trans gr) (O x) h)
     ·rename_i e hd'
      split at h
      ·rename_i te hte
       obtain⟨_,de,_,e2,e3,_⟩:=Ap hte
       split at h
       ·rename_i hde;exact .ofPure hs (S2 hs (s2.trans gr) (d2.trans gr) (e2.trans gr) (O x) h)
       grind
      grind
     grind
    ·rename_i e hd
     split at h
     ·rename_i te hd' hte
      obtain⟨_,de,_,e2,e3,_⟩:=Ap hte
      split at h
      ·rename_i hde;exact .ofRuns (S3 hs (s2.trans gr) (d2.trans gr) (e2.trans gr) (O x) h).2
      grind
     grind
    grind
   ·cases h
  case makeInterface t x=>
   split at h
   ·rename_i ti hti
    obtain⟨_,d,_,g2,g3,_⟩:=Ap hti
    split at h
    ·cases h
    ·rename_i hd
     unfold sIfc at h;cases h
     refine .ofPure hs ⟨rfl,.iface t (a.eval x),?_,by unfold R;grind⟩
     have hnd:∀m,d≠.interface m:=fun m hm=>hd m (g3.trans hm)
     unfold Instr.makeInterface;simp only[Sem.run_bind,Aa g2,Result.andThen_ok]
     cases d<;>first|rfl|exact absurd rfl (hnd _)
   ·cases h
  case makeFunc f first cap=>
   unfold Al4 at h;cases h;refine .ofPure hs ⟨rfl,.func f (first.map a.eval) (cap.map a.eval),rfl,?_⟩;unfold R;refine⟨_,_,rfl,?_,?_⟩
   ·rw[c_];exact Dm hg ht _
   ·rw[c_];exact Dm hg ht _
  case makeMap t r=>
   split at h
   ·rename_i ti hti
    split at h
    ·rename_i hd;exact .ofRuns (Aa0 hs h)
    ·rename_i hd;exact .ofRuns (Yt hs hti hd (O _) h)
    grind
   ·cases h
  case makeSlice t l c=>
   split at h
   ·rename_i ti hti
    split at h
    ·rename_i e hd
     split at h
     ·rename_i te hte
      split at h
      ·rename_i z hz
       split at h
       ·rename_i hb;exact .ofRuns (Wm hs hti hd hte hz (ac_ hb) (O l) (O c) h)
       grind
      grind
     grind
    grind
   ·cases h
  case slice t x lo hi mx=>
   split at h
   ·rename_i ti hti
    split at h
    ·rename_i hd
     split at h
     ·exact .ofPure hs (Yl hti hd (O x) (OO lo) (OO hi) h)
     grind
    ·rename_i e hd
     split at h
     ·rename_i te hte;exact .ofPure hs (Agb hti hd hte (O x) (OO lo) (OO hi) (OO mx) h)
     grind
    ·rename_i n e hd
     split at h
     ·rename_i te hte
      refine .ofPure hs (Yn hti hd hte (O x) (fun b vs hb hne=>?_) (OO lo) (OO hi) (OO mx) h)
      obtain⟨c,o',cs,T,k1,k2,k3⟩:=hs.obj b _ hb;exact⟨c,o',k1,k3.room hne⟩
     grind
    grind
   ·cases h
  case fieldAddr t x i=>
   split at h
   ·rename_i ti hti
    split at h
    ·rename_i fs hd
     split at h
     ·rename_i f hf
      split at h
      ·rename_i tf htf
       split at h
       ·cases h
       ·rename_i n hn
        unfold Aqj at h
        split at h
        ·rename_i u hu;cases h;exact .ofPure hs ⟨rfl,Adm hti hd hf htf gr (O x) hu⟩
        grind
      grind
     grind
    grind
   ·cases h
  case field t x i=>
   split at h
   ·rename_i ti hti
    split at h
    ·rename_i fs hd
     split at h
     ·rename_i f hf
      split at h
      ·rename_i tf htf
       have hx:=O x;unfold Af4 at h
       split at h
       ·rename_i cs heq
        rw[heq]at hx
        split at h
        ·rename_i u hu;cases h;exact .ofPure hs ⟨rfl,Ah1 hti hd hf htf hx hu⟩
        grind
       grind
      grind
     grind
    grind
   ·cases h
  case indexAddr t x i=>
   split at h
   ·rename_i ti hti
    split at h
    ·rename_i e hd
     split at h
     ·rename_i te hte;exact .ofPure hs (Wl hti hd hte (O x) (O i) h)
     grind
    ·rename_i len e hd
     split at h
     ·rename_i te hte;exact .ofPure hs (Sa hti hd hte (O x) (O i) h)
     grind
    grind
   ·cases h
  case index t x i=>
   split at h
   ·rename_i ti hti
    split at h
    ·rename_i hd;exact .ofPure hs (Yj hti hd (O x) (O i) h)
    ·rename_i len e hd
     split at h
     ·rename_i te hte;exact .ofPure hs (Yo hti hd hte (O x) (O i) h)
     grind
    grind
   ·cases h
  case lookup t m k ok=>
   split at h
   ·rename_i ti hti
    split at h
    ·rename_i kt et hd
     split at h
     ·rename_i te hte
      split at h
      ·rename_i z hz;exact .ofPure hs (Adp hs hti hd hte hz (O k) (O m) h)
      grind
     grind
    grind
   ·cases h
  case mapUpdate t m k x=>
   split at h
   ·rename_i ti hti
    split at h
    ·rename_i kt et hd
     split at h
     ·rename_i te hte;exact .ofUnit (Wo hs hti hd (O k) (O m) (O x) h)
     grind
    grind
   ·cases h
  case mapEntry t m k=>
   split at h
   ·rename_i ti hti
    split at h
    ·rename_i kt et hd
     split at h
     ·rename_i te hte
      split at h
      ·rename_i z hz;exact .ofRuns (Yr hs hti hd hte hz (O k) (O m) h)
      grind
     grind
    grind
   ·cases h
  case entryStore t m st x=>
   split at h
   ·rename_i ti hti
    split at h
    ·rename_i kt et hd
     split at h
     ·rename_i te hte;exact .ofUnit (Uj hs (O m) (O st) (O x) h)
     grind
    grind
   ·cases h
  case range t x=>
   split at h
   ·rename_i ti hti
    split at h
    ·rename_i kt et hd;exact .ofRuns (Agi hs hti hd (O x) h)
    grind
   ·cases h
  case entry x=>exact .ofPure hs (Agj hs (O x) h)
  case extract x i=>exact .ofPure hs (Aap (O x) h)
  case typeAssert x xt t ok=>
   split at h
   ·rename_i ti hti
    split at h
    ·cases h
    ·rename_i hd;exact .ofPure hs (Adn hti (fun m hm=>hd m hm) (O x) h)
   ·cases h
  case call c=>
   split at h
   ·rename_i b hb
    split at h
    ·rename_i t ts x xs hts hxs
     split at h
     ·rename_i ti hti
      obtain⟨cs,e⟩:∃cs,execOp a.eval ⟨dst,.call c,ty,pos,after,guard⟩=builtin b c.argTypes ty cs (c.args.map a.eval):=⟨_,by simp only[execOp,resolve,hb];rfl⟩
      rw[e];have:=Aa1 hs rfl hti (O x) (Dm hg ht xs) h ty cs;have e1:(t::ts).toArray=c.argTypes:=gr
      have e2:(a.eval x::xs.map a.eval).toArray=c.args.map a.eval:=by apply Wp;rw[c_,hxs];rfl
      grind
     grind
    grind
   ·cases h
 refine⟨key,fun x w'=>?_⟩
 obtain⟨y,w₂,_,h1,_⟩:=key
 grind
end
def MB(C:Ctx)(N:Nat)(r:List (Nat×List AV))(m:Nat):Prop:=∀x∈r,x.1=Ks->∀a b,x.2=[.yl a,.yl b]->a<N/\(C.stm a).toNat<m
def DR(C:Ctx)(N:Nat)(w:World):List (Nat×List AV)->List Deferred->Prop
 |[],[]=>True
 |x::r,d::s=>((x.1≠Ks/\∃cap,d.target=.fn (.func x.1) cap/\RL C N w x.2 (d.args++cap).toList)∨
   (x.1=Ks/\∃a b,x.2=[.yl a,.yl b]/\(a<N/\b<N/\(C.stm b).toNat<=(C.stm a).toNat)/\d={ target:=.collected (C.stm a).toNat,args:=#[] }/\¬C.own (C.stm a).toNat/\w.heap[(C.stm a).toNat]? =some (.deferred (some []))/\MB C N r (C.stm a).toNat))/\DR C N w r s
 |_,_=>False
structure SSt (E:Env)(C:Ctx)(w:World)(s:St)(a:Act):Prop where
 sim:Sim E.P C w s.sto
 glob:Iw C (nx s.sto) w E
 tmps:TR C (nx s.sto) w s.tm a.tmps
 size:a.tmps.size=s.nt
 dfs:DR C (nx s.sto) w s.df a.defers
def Aa2(P:Program)(f:FuncId):Prop:=∃fn, P.funcs[f]? =some fn/\(fn.name== "runtime.NumGoroutine")=false/\fn.body.isNone=false
def Gives(P:Program)(C:Ctx)(N:Nat)(w:World)(v:AV)(J':Sto):Ending->World->Prop
 |.returned x,w'=>∃C',Sim P C' w' J'/\Ext C N w C' (nx J') w'/\R C' (nx J') w' v x
 |_,_=>False
def Akz(E:Env)(f:Nat)(g:List AV->Sto->Res):Prop:=
 ∀(C:Ctx) (w:World) (J:Sto) (args:List AV) (vs:Array Value) (v:AV) (J':Sto),Sim E.P C w J->Iw C (nx J) w E->RL C (nx J) w args vs.toList->g args J=some (v,J')->
  Aa2 E.P f/\Calls E.P f vs w (Gives E.P C (nx J) w v J')
def Cy(ro:Option Nat):Fence:={ Fence.wide with round:=ro }
def Awv(E:Env)(a:Nat)(g:Hnd):Prop:=
 ∀(C:Ctx) (w:World) (J:Sto) (args:List AV) (vs:Array Value) (v:AV) (J':Sto),Sim E.P C w J->Iw C (nx J) w E->RL C (nx J) w args vs.toList->g args J=some (v,J')->
  ∃r b,v=.bool b/\w.heap[(C.stm a).toNat]? =some (.loop (C9 r .ready))/\vs.size=r.params.size/\∀ro n,RoundIn (Cy ro) n E.P (C.stm a).toNat r.fn ((r.params.zip vs).foldl (fun tmps (t,a)=>tmps.setIfInBounds t a) r.tmps) r.assign r.body w fun e w'=>
   e=.returned (.bool b)/\∃C',Sim E.P C' w' J'/\Ext C (nx J) w C' (nx J') w'
def Fk(f:Sto->Res):Prop:=∀J J' v,f J=some (v,J')->J'=J/\∀U,f U=some (v,U)
structure Bk (E:Env)(Rr:Rec):Prop where
 fn:∀f,Akz E f (Rr (.fn f))
 yl:∀a,Awv E a (Rr (.yl a))
 pu:∀f,E.pu f=true->∀args,Fk (Rr (.fn f) args)
theorem Aww{ro n P f args w R}(h:Calls P f args w R):CallsIn (Cy ro) n P f args w R:=
 (callsIn_wide (n:=n)).2 h
theorem rowsR{ro n P row args w R}(h:Rows P row args w R):RowsIn (Cy ro) n P row args w R:=
 fun c cs _=>let⟨v,w',r,s⟩:=h c cs;⟨v,w',r,stepsIn_wide.2 s⟩
def Aqr(ro:Option Nat)(op:Op):Prop:=ro=none∨Ra op=false
theorem Ev{ro n P}{o:Oper}{a w next Q}(hd:Aqr ro o.op)(h:o.wp P a w next Q):
  o.wpIn (Cy ro) n P a w next Q:=by
 refine⟨fun _ _=>trivial,?_⟩
 have hs:o.semAt (Cy ro).round a.eval=execOp a.eval o:=by
  rcases hd with rfl|hd
  ·exact Oper.semAt_none _ _
  ·exact Oper.semAt_eq _ _ _ (fun c hc=>by rw[hc]at hd;cases hd)
 rw[hs];unfold Oper.wp at h
 generalize (execOp a.eval o).run P w=r at h
 cases r with
 |ok x w'=>
  cases x with
  |value v=>exact h
  |skip=>exact h
  |defer d=>exact h
  |enter f args=>exact⟨fun hh=>(by cases hh),Aww h⟩
  |row row args=>exact⟨fun hh=>(by cases hh),rowsR h⟩
  |round _ _ _ _ _=>exact h.elim
  |_=>exact h.elim
 |halt x w'=>
  cases x with
  |panic v=>exact h
  |_=>exact h.elim
section
variable {E:Env}{C C':Ctx}{N N':Nat}{w w':World}{Rr:Rec}
theorem DR.ext(e:Ext C N w C' N' w'):∀{l:List (Nat×List AV)} {ds:List Deferred},DR C N w l ds->DR C' N' w' l ds
 |[],[],_=>by unfold DR;trivial
 |x::r,d::s,h=>by
  unfold DR at *;obtain⟨h,h3⟩:=h;refine⟨?_,DR.ext e h3⟩
  rcases h with⟨h0,cap,h1,h2⟩|⟨h0,a,b,h1,⟨h2,hb,hle⟩,h3,h4,h5,h6⟩
  ·exact .inl ⟨h0,cap,h1,h2.ext e⟩
  ·obtain⟨k1,k2⟩:=e.keep _ (bc_.1 h5).1 h4;refine .inr ⟨h0,a,b,h1,?_⟩;rw[e.stm a h2,e.stm b hb]
   exact⟨⟨ak_ h2 e.next,ak_ hb e.next,hle⟩,h3,k1,k2.trans h5,fun y hy hk c d hcd=>let⟨q1,q2⟩:=h6 y hy hk c d hcd;⟨ak_ q1 e.next,by rw[e.stm c q1];exact q2⟩⟩
 |[],_::_,h=>by unfold DR at h;exact h.elim
 |_::_,[],h=>by unfold DR at h;exact h.elim
theorem Adt(a:Act)(v):(a.put none v)=a:=rfl
theorem TR.put{tm tm'}{a:Act}{nt dst v x}(ht:TR C N w tm a.tmps)(hsz:a.tmps.size=nt)(h:Ka dst tm nt v=some tm')(hx:R C N w v x):
  TR C N w tm' (a.put dst x).tmps/\(a.put dst x).tmps.size=nt/\(a.put dst x).defers=a.defers:=by
 cases dst with
 |none=>simp only[Ka,af_]at h;subst h;exact⟨ht,hsz,rfl⟩
 |some d=>
  simp only[Ka,Ef]at h;cases hb:Nat.blt d nt
  ·simp[hb]at h
  ·simp only[hb,cond_true,af_]at h;subst h;have hlt:d<nt:=al_ hb
   refine⟨fun i y hy=>?_,by simp[Act.put,hsz],rfl⟩
   rw[dd_]at hy;simp only[Act.put]
   by_cases hi:i=d
   ·subst hi;rw[if_pos rfl]at hy;cases hy
    simp[hsz,hlt];exact hx
   ·rw[if_neg hi]at hy;have:=ht i y hy
    simpa[cr_ (gx_ hi)]using this
theorem SSt.put{s a J' dst v x tm'}(st:SSt E C w s a)(hs:Sim E.P C' w' J')(e:Ext C (nx s.sto) w C' (nx J') w')(hx:R C' (nx J') w' v x)(h:Ka dst s.tm s.nt v=some tm'):
  SSt E C' w' ⟨tm',s.nt,s.df,J'⟩ (a.put dst x):=by
 obtain⟨h1,h2,h3⟩:=TR.put (st.tmps.ext e) st.size h hx
 exact⟨hs,st.glob.ext e,h1,h2,by rw[h3];exact st.dfs.ext e⟩
theorem P8:R C N w An undef:=by unfold An R;exact⟨#[],rfl,by unfold RL;trivial⟩
theorem Aqs{x v}(h:R C N w x v)(h1:x≠.any)(h2:∀b,x≠.bool b)(b):v≠.bool b:=by
 intro hv;subst hv;cases x<;>unfold R at h
 case any=>exact h1 rfl
 case bool b'=>exact h2 _ rfl
 case nil y=>obtain⟨rfl,h⟩:=h;simp[Xl]at h
 all_goals first
  |(cases h;done)
  |(obtain⟨_,h,_⟩:=h;cases h;done)
  |(obtain⟨_,_,h,_⟩:=h;cases h;done)
  |(obtain⟨h,_⟩:=h;cases h;done)
theorem Dp{ops o tm}{a:Act}(ht:TR C N w tm a.tmps){b}(h:Bn ops.toList o tm=some b):Region.wanted o (yielded ops a.tmps)=b:=by
 unfold Bn at h;unfold Region.wanted
 split at h
 ·grind
 ·rename_i j want hg
  rw[hg];simp only
  split at h
  ·rename_i oj hoj
   have hoj':ops[j]? =some oj:=gr
   split at h
   ·rename_i d hd
    have hy1:∀b,a.tmps[d]? =some (.bool b)->yielded ops a.tmps j=some b:=fun b hh=>by
     unfold yielded;grind
    have hy2:(∀b,a.tmps[d]? ≠some (.bool b))->yielded ops a.tmps j=none:=fun hh=>by
     unfold yielded
     grind
    split at h
    ·rename_i b' cr
     cases h;have:=ht d _ cr;unfold R at this
     have hh:a.tmps[d]? =some (.bool b'):=by
      cases hh:a.tmps[d]? with
      |none=>simp[hh,undef]at this
      |some z=>simp[hh]at this;rw[this]
     grind
    ·cases h
    ·rename_i x hx1 hx2 cr
     cases h;have hr:=ht d _ cr;have hnb:=Aqs hr (fun hh=>hx2 hh) (fun b hh=>hx1 b hh)
     rw[hy2 fun b hh=>by
      have:=hnb b;rw[bo_,hh]at this;exact this rfl]
     rfl
    ·cases h
   ·cases h
  ·cases h
theorem Adu(m x args):invoke (.fn (.method m) #[]) (#[x]++args)=callMethod x m args:=by
 have cr:(#[x]++args)[0]? =some x:=gr;have hex:(#[x]++args).extract 1 (#[x]++args).size=args:=gr;simp only[invoke,cr,hex]
theorem Aom(a t ad name):Builtin.ssaWrapNilChk_ a t #[.pointer (some ad), strVal "", strVal name]=pure (.pointer (some ad)):=rfl
theorem Adv{J}(hs:Sim E.P C w J){t:TypeId}{name x X}(hx:R C (nx J) w x X){f y}(h:Af9 E t name x J=some (f,y)):
  ∃Y,(method (E.P.types.size+Made.depth) t X name).run E.P w=.ok (f,Y) w/\R C (nx J) w y Y:=by
 obtain⟨fl,md⟩:∃fl,E.P.types.size+Made.depth=fl+1:=⟨_,rfl⟩;rw[md];unfold Af9 at h
 split at h
 ·rename_i i hi
  split at h
  ·rename_i m hm
   split at h
   ·rename_i mf
    have hpe:m.path.isEmpty=true:=by
     have:m.path=#[]:=gr;rw[this];rfl
    split at h
    ·rename_i g ptr hg
     split at h
     ·rename_i d hd
      have start:∀r:Sem Value, ∀Y, r.run E.P w=.ok Y w->(r=receiverAt t (.val X) ptr (some ((name.splitOn ".").getLastD name)))->
        (method (fl+1) t X name).run E.P w=.ok (g,Y) w:=by
       intro r Y hr he;subst he;simp only[method,typeInfo,Sem.run_bind,run_program,Result.andThen_ok,hi,Sem.run_pure,hm,mf,follow,hg,hpe,if_true,hr]
      split at h
      ·rename_i e
       split at h
       ·cases h;refine⟨X,start _ X ?_ rfl,hx⟩;simp only[receiverAt,Sem.run_bind,Aa hd,Result.andThen_ok,Place.get,Sem.run_pure]
       ·split at h
        ·rename_i te hte
         split at h
         ·rename_i u J' hu
          cases h;obtain⟨_,Y,h1,h2⟩:=P1 hs hte hx hu
          have hX:∃ad,X=.pointer (some ad):=by
           unfold Na at hu
           split at hu
           ·unfold R at hx;grind
           ·unfold R at hx;grind
           ·cases hu
          obtain⟨ad,rfl⟩:=hX;refine⟨Y,start _ Y ?_ rfl,h2⟩;simp only[receiverAt,Sem.run_bind,Aa hd,Result.andThen_ok,Place.get,Sem.run_pure,Aom];have e1:(Instr.loadAt e (.pointer (some ad)))=loadVar e ad:=rfl;have e2:(asAddr (.pointer (some ad)))=pure ad:=rfl;rw[e1]at h1;simp only[e2,Sem.run_pure,Result.andThen_ok,h1]
         ·cases h
        ·cases h
      ·rename_i hnp
       split at h
       ·cases h
       ·cases h;refine⟨X,start _ X ?_ rfl,hx⟩;cases d with
        |pointer e=>exact absurd rfl (hnp e)
        |_=>simp only[receiverAt,Sem.run_bind,Aa hd,Result.andThen_ok,Place.get,Sem.run_pure]
     ·cases h
    ·cases h
   ·cases h
  ·cases h
 ·cases h
theorem Rg(hR:Bk E Rr){s a}(st:SSt E C w s a){o:Oper}{v J'}(h:opA E o.op Rr s.tm s.sto=some (v,J')){K Q}
  (hK:∀C' w' x,Sim E.P C' w' J'->Ext C (nx s.sto) w C' (nx J') w'->R C' (nx J') w' v x->K (a.put o.dst x) w'){ro n}:o.wpIn (Cy ro) n E.P a w K Q:=by
 have viaStep:Aw E o.op s.tm s.sto=some (v,J')->o.wpIn (Cy ro) n E.P a w K Q:=by
  intro h;refine Ev (.inr ?_) ?_
  ·cases hop:o.op<;>first|rfl|(rw[hop]at h;simp[Aw]at h;done)
  obtain⟨x,w',C',h1,h2,h3,h4⟩:=(Ah6 st.sim rfl st.glob st.tmps h).1;unfold Oper.wp
  rcases h1 with h1|⟨h1,rfl⟩
  ·rw[h1,Oper.upon_value];grind
  ·rw[h1,Oper.upon_skip];grind
 cases hop:o.op with
 |call c=>
  cases hc:c.callee with
  |value f=>
   rw[hop]at h;simp only[opA,hc]at h
   split at h
   ·rename_i a' hv
    have hV:=Be st.glob st.tmps f;rw[hv]at hV;unfold R at hV;obtain⟨hV,_⟩:=hV
    have hA':RL C (nx s.sto) w (opds E s.tm c.args.toList) (c.args.map a.eval).toList:=by
     simp only[c_];exact Dm st.glob st.tmps c.args.toList
    obtain⟨r,bb,rfl,fa,hsz,ca⟩:=hR.yl a' C w s.sto _ _ v J' st.sim st.glob hA' h;have hy:=run_yield (P:=E.P) (args:=c.args.map a.eval) fa hsz
    have bq:(execOp a.eval o).run E.P w=.ok (.round (C.stm a').toNat r.fn ((r.params.zip (c.args.map a.eval)).foldl (fun tmps (t,a)=>tmps.setIfInBounds t a) r.tmps) r.assign r.body) w:=by
     simp[execOp,hop,resolve,hc,hV,Deferred.ofValue,invoke]
     simpa[C9]using hy
    refine⟨fun _ _=>trivial,?_⟩
    rw[Oper.semAt_eq _ _ _ gr,bq,Oper.uponIn_round]
    refine⟨fun hh=>(by cases hh),(ca ro (n-1)).mono fun e w' he=>?_⟩
    obtain⟨rfl,C',k1,k2⟩:=he
    exact hK C' w' _ k1 k2 (by unfold R;rfl)
   split at h
   ·rename_i k args hk
    refine Ev (.inr (by rw[hop];rfl)) ?_
    unfold Rb at hk
    split at hk
    ·rename_i k' first cap hf
     cases hk;have hV:=Be st.glob st.tmps f;rw[hf]at hV;unfold R at hV;obtain⟨p,q,hV,hp,hq⟩:=hV;have bp:=Dm st.glob st.tmps c.args.toList
     have bs:RL C (nx s.sto) w (first++opds E s.tm c.args.toList++cap) (p++c.args.map a.eval++q).toList:=by
      simp only[cv_,c_];exact(hp.append bp).append hq
     obtain⟨⟨fn,g1,g2,g3⟩,b8⟩:=hR.fn k C w s.sto _ _ v J' st.sim st.glob bs h
     have bq:(execOp a.eval o).run E.P w=.ok (.enter k (p++c.args.map a.eval++q)) w:=by
      have g2':fn.name≠ "runtime.NumGoroutine" :=gr;have g3':fn.body≠none:=gr
      simp[execOp,hop,resolve,hc,hV,Deferred.ofValue,invoke,callFunc,g1,g2',g3']
     unfold Oper.wp;rw[bq,Oper.upon_enter];refine b8.mono fun e w' he=>?_
     cases e with
     |returned x=>obtain⟨C',k1,k2,k3⟩:=he;exact hK C' w' x k1 k2 k3
     |panicked _=>exact he.elim
     |outgrown=>exact he.elim
    ·cases hk
   ·cases h
  |invoke r m=>
   rw[hop]at h;simp only[opA,hc]at h
   split at h
   ·rename_i t v' hr
    split at h
    ·rename_i f rv hm
     refine Ev (.inr (by rw[hop];rfl)) ?_
     have hV:=Be st.glob st.tmps r;rw[hr]at hV;unfold R at hV;obtain⟨X,hV,hX⟩:=hV;obtain⟨Y,h1,h2⟩:=Adv st.sim hX hm;have bp:=Dm st.glob st.tmps c.args.toList
     have bs:RL C (nx s.sto) w (rv::opds E s.tm c.args.toList) (#[Y]++c.args.map a.eval).toList:=by
      simp only[cv_,c_]
      show RL _ _ _ _ (Y::_)
      unfold RL;exact⟨h2,bp⟩
     obtain⟨⟨fn,g1,g2,g3⟩,b8⟩:=hR.fn f C w s.sto _ _ v J' st.sim st.glob bs h
     have bq:(execOp a.eval o).run E.P w=.ok (.enter f (#[Y]++c.args.map a.eval)) w:=by
      have g2':fn.name≠ "runtime.NumGoroutine" :=gr;have g3':fn.body≠none:=gr
      have e1:execOp a.eval o=callMethod (a.eval r) m (c.args.map a.eval):=by
       have:execOp a.eval o=invoke (.fn (.method m) #[]) (#[a.eval r]++c.args.map a.eval):=by
        simp only[execOp,hop,resolve,hc,pure_bind]
       rw[this,Adu]
      rw[e1,hV];simp only[callMethod,Sem.run_bind,run_program,Result.andThen_ok,h1,callFunc,g1]
      simp[g2',g3']
     unfold Oper.wp;rw[bq,Oper.upon_enter];refine b8.mono fun e w' he=>?_
     cases e with
     |returned x=>obtain⟨C',k1,k2,k3⟩:=he;exact hK C' w' x k1 k2 k3
     |panicked _=>exact he.elim
     |outgrown=>exact he.elim
    ·cases h
   ·cases h
  |builtin b=>refine viaStep ?_;rw[hop]at h⊢;simpa only[opA,hc]using h
 |_=>refine viaStep ?_;rw[hop]at h⊢;exact h
theorem Aa3(hR:Bk E Rr){s s' a}(st:SSt E C w s a){ops o}(h:Yi E ops.toList o Rr s=some s'){K Q}
  (hK:∀C' w' a',SSt E C' w' s' a'->Ext C (nx s.sto) w C' (nx s'.sto) w'->K a' w'){ro n}(hpl:Aqr ro o.op):
  (Region.wanted o (yielded ops a.tmps)=true/\o.wpIn (Cy ro) n E.P a w K Q)∨(Region.wanted o (yielded ops a.tmps)=false/\K (a.put o.dst undef) w):=by
 unfold Yi at h
 split at h
 ·rename_i hg
  refine .inl ⟨Dp st.tmps hg,?_⟩
  split at h
  ·rename_i c hop
   split at h
   ·rename_i f hc hd
    split at h
    ·rename_i ka hk
     cases iy:Nat.beq ka.1 Ks
     case true=>simp[iy]at h
     simp only[iy,cond_false,af_]at h;subst h
     have pg:ka.1≠Ks:=fun hh=>by rw[hh]at iy;cases iy
     unfold Rb at hk
     split at hk
     ·rename_i k' first cap hf
      cases hk;have hV:=Be st.glob st.tmps f;rw[hf]at hV;unfold R at hV;obtain⟨p,q,hV,hp,hq⟩:=hV;have bp:=Dm st.glob st.tmps c.args.toList
      have bq:(execOp a.eval o).run E.P w=.ok (.defer { target:=.fn (.func k') q,args:=p++c.args.map a.eval }) w:=by
       simp[execOp,hop,resolve,hc,hV,Deferred.ofValue]
      refine Ev hpl ?_;unfold Oper.wp;rw[bq,Oper.upon_defer,hd,Adt];refine hK C w _ ⟨st.sim,st.glob,st.tmps,st.size,?_⟩ (cf_ _ _ _);unfold DR;refine⟨.inl ⟨pg,q,rfl,?_⟩,st.dfs⟩;simp only[cv_,c_];exact(hp.append bp).append hq
     ·cases hk
    ·cases h
   ·cases h
  ·split at h
   ·rename_i v J' hv
    split at h
    ·rename_i tm htm
     cases h;exact Rg hR st hv fun C' w' x k1 k2 k3=>hK C' w' _ (st.put k1 k2 k3 htm) k2
    ·cases h
   ·cases h
 ·rename_i hg
  refine .inr ⟨Dp st.tmps hg,?_⟩
  split at h
  ·rename_i tm htm
   cases h;exact hK C w _ (st.put st.sim (cf_ _ _ _) P8 htm) (cf_ _ _ _)
  ·cases h
 ·cases h
end
section
theorem Aon{a b}(h:Fm a b=true):a=b:=(Gu a b).1 h
theorem Aqt{a b}(h:Tz a b=true):a=b:=by rw[Jg]at h;grind
theorem Ame{a b}(h:Af8 a b=true):a=b:=by
 cases a<;>cases b<;>simp only[Af8]at h
 ·rfl
 ·cases h
 ·cases h
 ·rw[ac_ h]
theorem Aoo{a b}(h:Akp a b=true):a=b:=by
 unfold Akp at h
 grind
theorem Aqu{a b}(h:Aql a b=true):a=b:=by
 unfold Aql at h
 split at h
 ·rw[ac_ h]
 grind
mutual
theorem AV.beq_eq:∀(x y:AV),AV.beq x y=true->x=y
 |.any,y,h=>by cases y<;>simp only[AV.beq]at h<;>first|rfl|cases h
 |.bool a,y,h=>by
  cases y<;>simp only[AV.beq]at h<;>first|(cases h;done)|skip
  grind
 |.int k n,y,h=>by
  cases y<;>simp only[AV.beq]at h<;>first|(cases h;done)|skip
  rw[ad_]at h;rw[(N4 _ _).1 h.1,Aqt h.2]
 |.str l,y,h=>by
  cases y<;>simp only[AV.beq]at h<;>first|(cases h;done)|skip
  rw[Aon h]
 |.nil v,y,h=>by
  cases y<;>simp only[AV.beq]at h<;>first|(cases h;done)|skip
  rw[Aoo h]
 |.pr a o,y,h=>by
  cases y<;>simp only[AV.beq]at h<;>first|(cases h;done)|skip
  rw[ad_]at h;rw[ac_ h.1,ac_ h.2]
 |.pv l,y,h=>by
  cases y<;>simp only[AV.beq]at h<;>first|(cases h;done)|skip
  rw[AV.beqs_eq _ _ h]
 |.sr a o s n c,y,h=>by
  cases y<;>simp only[AV.beq]at h<;>first|(cases h;done)|skip
  simp only[ad_]at h;rw[ac_ h.1.1.1.1,ac_ h.1.1.1.2,ac_ h.1.1.2,ac_ h.1.2,Ame h.2]
 |.sv l s n c,y,h=>by
  cases y<;>simp only[AV.beq]at h<;>first|(cases h;done)|skip
  simp only[ad_]at h;rw[AV.beqs_eq _ _ h.1.1.1,ac_ h.1.1.2,ac_ h.1.2,Ame h.2]
 |.mp a,y,h=>by
  cases y<;>simp only[AV.beq]at h<;>first|(cases h;done)|skip
  rw[ac_ h]
 |.it a,y,h=>by
  cases y<;>simp only[AV.beq]at h<;>first|(cases h;done)|skip
  rw[ac_ h]
 |.stp a,y,h=>by
  cases y<;>simp only[AV.beq]at h<;>first|(cases h;done)|skip
  rw[ac_ h]
 |.flt k a,y,h=>by
  cases y<;>simp only[AV.beq]at h<;>first|(cases h;done)|skip
  simp only[ad_,decide_eq_true_eq]at h;rw[h.1,ac_ h.2]
 |.yl a,y,h=>by
  cases y<;>simp only[AV.beq]at h<;>first|(cases h;done)|skip
  rw[ac_ h]
 |.fn f a b,y,h=>by
  cases y<;>simp only[AV.beq]at h<;>first|(cases h;done)|skip
  simp only[ad_]at h;rw[Aqu h.1.1,AV.beqs_eq _ _ h.1.2,AV.beqs_eq _ _ h.2]
 |.ifc t a,y,h=>by
  cases y<;>simp only[AV.beq]at h<;>first|(cases h;done)|skip
  rw[ad_]at h;rw[ac_ h.1,AV.beq_eq _ _ h.2]
 |.agg l,y,h=>by
  cases y<;>simp only[AV.beq]at h<;>first|(cases h;done)|skip
  rw[AV.beqs_eq _ _ h]
 |.tup l,y,h=>by
  cases y<;>simp only[AV.beq]at h<;>first|(cases h;done)|skip
  rw[AV.beqs_eq _ _ h]
theorem AV.beqs_eq:∀(l m:List AV),AV.beqs l m=true->l=m
 |[],m,h=>by cases m<;>simp only[AV.beqs]at h<;>first|rfl|cases h
 |x::r,m,h=>by
  cases m<;>simp only[AV.beqs]at h<;>first|(cases h;done)|skip
  rw[ad_]at h;rw[AV.beq_eq _ _ h.1,AV.beqs_eq _ _ h.2]
end
section
variable {C C':Ctx}{N N':Nat}{w w':World}{P:Program}
def Ctx.keep(C:Ctx)(U:Sto):Ctx:={ C with loc:=fun a=>if(U.get a).isSome then C.loc a else none }
end
end
def Jj:XE->Exit
 |.normal=>.normal
 |.exit id=>.exit id
 |.ret=>.ret
def Aej(E:Env)(C:Ctx)(N:Nat)(w:World)(l:List (XE×St)):Exit->Act->World->Prop:=fun e a' w'=>
 ∃y∈l,∃C',Jj y.1=e/\SSt E C' w' y.2 a'/\Ext C N w C' (nx y.2.sto) w'
theorem Gw{P}{b:Frame}{a k cs w c}:step P (lone (b.atR a (.code (.scope c)::k)) cs w)=.next (lone (b.atR a (.code c::.inScope c::k)) cs w):=
 step_lone_go (by simp[stepG,stepG.exec,Frame.atR])
theorem Adw{P}{b:Frame}{a k cs w c}:step P (lone (b.atR a (.inScope c::k)) cs w)=.next (lone (b.atR a k) cs w):=
 step_lone_go (by simp[stepG,stepG.exec,Frame.atR])
theorem Sc{F n P Q a w c}(h:c.wpIn F n P (Exit.noGoto Q) a w):(Code.scope c).wpIn F n P Q a w:=by
 intro b k cs hro hb hr;have h0:(lone (b.atR a (.code (.scope c)::k)) cs w).fenced P F:=fenced_calm hb hr rfl;obtain⟨e,a₁,w₁,hq,br⟩:=h b (.inScope c::k) cs hro hb hr;cases e with
 |normal=>exact⟨.normal,a₁,w₁,hq,.head h0 Gw (StepsIn.trans br (.one (fenced_calm hb hr rfl) Adw))⟩
 |exit id=>
  have hx:exitTo id (.inScope c::k)=exitTo id k:=by simp[exitTo]
  exact⟨.exit id,a₁,w₁,hq,fun k' hk=>.head h0 Gw (br.1 k' gr),
   fun hr' hk=>let⟨k₁,h1,h2⟩:=br.2 hr' gr;⟨k₁,h1,.head h0 Gw h2⟩⟩
 |goto l=>exact hq.elim
 |ret=>exact⟨_,a₁,w₁,hq,fun hn=>let⟨k₁,s₁⟩:=br.1 hn;⟨k₁,.head h0 Gw s₁⟩,fun hr'=>let⟨k₁,s₁⟩:=br.2 hr';⟨k₁,.head h0 Gw s₁⟩⟩
 |panic ch=>exact⟨_,a₁,w₁,hq,.of_steps (.one h0 Gw) br⟩
 |outgrown=>exact⟨_,a₁,w₁,hq,.of_steps (.one h0 Gw) br⟩
section
variable {E:Env}{C C':Ctx}{N N':Nat}{w w':World}{Rr:Rec}
theorem Bk.none:Bk E (fun _ _ _=>Option.none):=⟨fun _ _ _ _ _ _ _ _ _ _ _ h=>by(cases h),fun _ _ _ _ _ _ _ _ _ _ _ h=>by(cases h),fun _ _ _ _ _ _ h=>by(cases h)⟩
abbrev di_:=@Bk.none
end
section
variable {E:Env}{tm tm':Tr AV}{J J':Sto}
theorem Jk:∀{l:List Operand},(∀x∈l,opd E tm x=opd E tm' x)->opds E tm l=opds E tm' l
 |[],_=>rfl
 |x::r,h=>by simp only[opds,h x (by simp),Jk fun y hy=>h y (aj_ _ hy)]
theorem Sq{P fs}:∀{l:List (Nat×Operand)},(∀x∈l.map (·.2),opd E tm x=opd E tm' x)->Js P E tm fs l=Js P E tm' fs l
 |[],_=>rfl
 |(i,x)::r,h=>by
  simp only[Js,h x (by simp),Sq (l:=r) fun y hy=>h y (aj_ _ hy)]
theorem M5{n}:∀{l:List (Nat×Operand)},(∀x∈l.map (·.2),opd E tm x=opd E tm' x)->Is E tm n l=Is E tm' n l
 |[],_=>rfl
 |(i,x)::r,h=>by
  simp only[Is,h x (by simp),M5 (l:=r) fun y hy=>h y (aj_ _ hy)]
theorem Xt{op}(h:∀x∈op.operands,opd E tm x=opd E tm' x):Aw E op tm J=Aw E op tm' J:=by
 cases op<;>simp only[Op.operands]at h<;>simp only[Aw]
 case build t ps=>
  have h':∀x∈ps.toList.map (·.2),opd E tm x=opd E tm' x:=fun x hx=>h x (by simpa using hx)
  simp only[Sq h',M5 h']
 case buildSlice t n ps=>
  have h':∀x∈ps.toList.map (·.2),opd E tm x=opd E tm' x:=fun x hx=>h x (by simpa using hx)
  simp only[M5 h']
 case makeFunc f first cap=>
  rw[Jk (l:=first.toList) fun x hx=>h x (by simp at hx;simp[hx]),Jk (l:=cap.toList) fun x hx=>h x (by simp at hx;simp[hx])]
 case makeMap t r=>
  cases hti:Ay E.P t with
  |none=>rfl
  |some ti=>
   obtain⟨d,n,b,z,g⟩:=ti;cases r with
   |none=>cases d<;>rfl
   |some x=>cases d<;>first|rfl|simp only[h x (by simp)]
 case slice t x lo hi mx=>cases lo<;>cases hi<;>cases mx<;>simp_all [opdO]
 case call c=>
  have h':opds E tm c.args.toList=opds E tm' c.args.toList:=Jk fun x hx=>h x (by simp[Call.operands];right;simpa using hx)
  cases hc:c.callee with
  |builtin b=>
   simp only;cases hx:c.args.toList with
   |nil=>cases c.argTypes.toList<;>rfl
   |cons y ys=>
    rw[hx]at h';simp only[opds,dl_]at h';cases c.argTypes.toList with
    |nil=>rfl
    |cons t ts=>simp only[h'.1,h'.2]
  |value f=>rfl
  |invoke r m=>rfl
 all_goals (first|rfl|(simp_all;done))
theorem Aek{Rr op}(h:∀x∈op.operands,opd E tm x=opd E tm' x):opA E op Rr tm J=opA E op Rr tm' J:=by
 cases op
 case call c=>
  cases hc:c.callee with
  |value f=>
   simp only[opA,hc]
   rw[h f (by simp[Op.operands,Call.operands,hc]),Jk (l:=c.args.toList) fun x hx=>h x (by simp[Op.operands,Call.operands,hc];right;simpa using hx)]
  |builtin b=>simp only[opA,hc];exact Xt h
  |invoke r m=>
   simp only[opA,hc]
   rw[h r (by simp[Op.operands,Call.operands,hc]),Jk (l:=c.args.toList) fun x hx=>h x (by simp[Op.operands,Call.operands,hc];right;simpa using hx)]
 all_goals (simp only[opA];exact Xt h)
theorem Fk.const(r:Option AV):Fk fun J=>match r with|some v=>some (v,J)|none=>none:=by
 intro J J' v h;cases r with
 |none=>cases h
 |some u=>cases h;exact⟨rfl,fun _=>rfl⟩
theorem Fk.none:Fk fun _=>Option.none:=fun _ _ _ h=>by cases h
abbrev ax_:=@Fk.none
theorem Fk.some(v):Fk fun J=>Option.some (v,J):=fun _ _ _ h=>by cases h;exact⟨rfl,fun _=>rfl⟩
abbrev ck_:=@Fk.some
theorem Ael(x):Fk (Aad x):=ck_ x
theorem Aqv(t x):Fk (sIfc t x):=ck_ _
theorem Aop(f a b):Fk (Al4 f a b):=ck_ _
theorem Aoq(c a b):Fk (Ad8 c a b):=by
 unfold Ad8;split
 ·exact ck_ _
 ·exact ck_ _
 ·exact ax_
theorem Adx(x):Fk (Jf x):=by
 unfold Jf;split
 ·exact ck_ _
 ·exact ck_ _
 ·exact ck_ _
 ·exact ax_
theorem Ah7(r):Fk (Sx r):=by
 unfold Sx;split
 ·exact ck_ _
 ·exact ax_
theorem Aa4(z ps):Fk (M2 z ps):=by
 unfold M2;split
 ·exact ck_ _
 ·exact ax_
theorem Yu(z size len ps):Fk (Id z size len false ps):=by
 unfold Id;split
 ·exact ck_ _
 ·exact ax_
theorem Aqw(n x):Fk (Aqj n x):=by
 unfold Aqj;split
 ·exact ck_ _
 ·exact ax_
theorem Ak0(ti n x):Fk (Af4 ti n x):=by
 unfold Af4;split
 ·split
  ·exact ck_ _
  ·exact ax_
 ·exact ax_
theorem Lf(b){f g}(hf:Fk f)(hg:Fk g):Fk fun J=>cond b (f J) (g J):=by
 cases b
 ·exact hg
 ·exact hf
theorem Aa5(n x i):Fk (Gt n x i):=by
 unfold Gt;split
 ·split
  ·simp only[Ak];exact Lf _ (ck_ _) ax_
  ·exact Lf _ (ck_ _) ax_
  ·exact ax_
 ·exact ax_
theorem Uk(l n x i):Fk (E6 l n x i):=by
 unfold E6;split
 ·exact Lf _ (Fk.const _) ax_
 ·exact ax_
theorem Ady(x i):Fk (Lc x i):=by
 unfold Lc;split
 ·split
  ·exact ck_ _
  ·exact ax_
 ·exact ax_
theorem Adz(te l x i):Fk (Le te l x i):=by
 unfold Le;split
 ·exact Lf _ (Fk.const _) ax_
 ·exact ax_
theorem Sr(x lo hi):Fk (Nb x lo hi):=by
 unfold Nb;split
 ·split
  ·exact ck_ _
  ·exact ax_
 ·exact ax_
theorem Aa6(n x lo hi mx):Fk (Lj n x lo hi mx):=by
 unfold Lj;split
 ·split
  ·split
   ·simp only[Ak];exact ck_ _
   ·exact ax_
  ·exact ax_
 ·split
  ·split
   ·split
    ·simp only[Ak];exact ck_ _
    ·exact ax_
   ·exact ax_
  ·exact ax_
 ·split
  ·exact ck_ _
  ·exact ax_
 ·exact ax_
theorem Agl(i x):Fk (Nc i x):=by
 unfold Nc;split
 ·split
  ·exact ck_ _
  ·exact ax_
 ·exact ax_
theorem Ah8(t:Nat)(z:Option AV)(ok:Bool)(x:AV):Fk (Zr t z ok x):=by
 unfold Zr;split
 ·split
  ·exact ck_ _
  ·split
   ·exact ck_ _
   ·exact ax_
 ·split
  ·exact ck_ _
  ·exact ax_
 ·exact ax_
theorem Aqx(x):Fk (Kj x):=by
 unfold Kj;split
 ·exact ck_ _
 ·exact ck_ _
 ·exact ck_ _
 ·exact ax_
theorem Ah9(f x y):Fk (Xm f x y):=by
 unfold Xm;split
 ·exact Lf _ (ck_ _) ax_
 ·exact ax_
theorem Aor(x y z):Fk (Al5 x y z):=by
 unfold Al5;split
 ·exact Lf _ (ck_ _) ax_
 ·exact ax_
theorem Aos{op}(hc:Bc E op=.pure):Fk (Aw E op tm):=by
 show Fk fun J=>Aw E op tm J
 cases op<;>simp only[Bc]at hc<;>try (cases hc;done)
 case move x=>exact Ael _
 case assign x=>exact Ael _
 case pick c a b=>exact Aoq _ _ _
 case nilCheck x=>exact Adx _
 case build t ps=>
  simp only[Aw];split
  ·split
   ·split
    ·exact Aa4 _ _
    ·exact ax_
   ·split
    ·exact Aa4 _ _
    ·exact ax_
   ·exact ax_
  ·exact ax_
 case buildSlice t n ps=>
  simp only[Aw]
  split at hc
  ·rename_i ti hti
   split at hc
   ·rename_i e hd
    split at hc
    ·cases hc
    ·rename_i hb
     split
     ·split
      ·split
       ·rw[hb];exact Yu _ _ _ _
       ·exact ax_
      ·exact ax_
     ·exact ax_
   ·cases hc
  ·cases hc
 case binOp op t x y _=>exact Ah7 _
 case unOp op t x=>exact Ah7 _
 case makeInterface t x=>
  simp only[Aw];split
  ·split
   ·exact ax_
   ·exact Aqv _ _
  ·exact ax_
 case makeFunc f a b=>exact Aop _ _ _
 case slice t x lo hi mx=>
  simp only[Aw]
  split at hc
  ·rename_i ti hti
   split at hc
   ·cases hc
   ·rename_i hd
    split
    ·split
     ·exact Sr _ _ _
     ·exact ax_
    ·split
     ·exact Aa6 _ _ _ _ _
     ·exact ax_
    ·rename_i n e hd';exact absurd hd' (hd n e)
    ·exact ax_
  ·cases hc
 case fieldAddr t x i=>
  simp only[Aw];split
  ·split
   ·split
    ·split
     ·split
      ·exact ax_
      ·exact Aqw _ _
     ·exact ax_
    ·exact ax_
   ·exact ax_
  ·exact ax_
 case field t x i=>
  simp only[Aw];split
  ·split
   ·split
    ·split
     ·exact Ak0 _ _ _
     ·exact ax_
    ·exact ax_
   ·exact ax_
  ·exact ax_
 case indexAddr t x i=>
  simp only[Aw];split
  ·split
   ·split
    ·exact Aa5 _ _ _
    ·exact ax_
   ·split
    ·exact Uk _ _ _ _
    ·exact ax_
   ·exact ax_
  ·exact ax_
 case index t x i=>
  simp only[Aw];split
  ·split
   ·exact Ady _ _
   ·split
    ·exact Adz _ _ _ _
    ·exact ax_
   ·exact ax_
  ·exact ax_
 case extract x i=>exact Agl _ _
 case typeAssert x xt t ok=>
  simp only[Aw];split
  ·split
   ·exact ax_
   ·exact Ah8 _ _ _ _
  ·exact ax_
 case call c=>
  simp only[Aw]
  split at hc<;>try (cases hc;done)
  all_goals first|(rename_i hb;simp only[hb];exact ax_)|skip
  all_goals rename_i hb
  all_goals simp only[hb]
  all_goals split<;>try exact ax_
  all_goals split<;>try exact ax_
  all_goals simp only[Ee]
  ·split
   ·exact Aqx _
   ·exact ax_
  ·split
   ·exact Ah9 _ _ _
   ·exact ax_
  ·split
   ·exact Ah9 _ _ _
   ·exact Aor _ _ _
   ·exact ax_
theorem S6{op}(hc:Bc E op=.read){v}(h:Aw E op tm J=some (v,J')):J'=J:=by
 cases op<;>simp only[Bc]at hc<;>try (cases hc;done)
 case load t x=>
  simp only[Aw]at h
  split at h
  ·unfold Na at h
   (repeat' (split at h))<;>first|(cases h;done)|(cases h;rfl)
  ·cases h
 case lookup t m k ok=>
  simp only[Aw]at h
  (repeat' (split at h))<;>try (cases h;done)
  unfold Ky at h
  (repeat' (split at h))<;>first|(cases h;done)|(cases h;rfl)
 case entry x=>
  simp only[Aw]at h;unfold Aaf at h
  split at h
  ·split at h
   ·split at h
    ·unfold cond at h
     split at h
     ·cases h;rfl
     ·cases h
    ·cases h
   ·cases h
  ·cases h
 case convert s d x=>
  simp only[Aw]at h
  (repeat' (split at h))<;>try (cases h;done)
  ·unfold Pp at h
   (repeat' (split at h))<;>first|(cases h;done)|(cases h;rfl)
  ·unfold T4 at h
   (repeat' (split at h))<;>first|(cases h;done)|(cases h;rfl)
  ·unfold Kx at h
   (repeat' (split at h))<;>first|(cases h;done)|(cases h;rfl)
 case slice t x lo hi mx=>
  simp only[Aw]at h
  (repeat' (split at h))<;>try (cases h;done)
  ·exact(Sr _ _ _ _ _ _ h).1
  ·exact(Aa6 _ _ _ _ _ _ _ _ h).1
 case call c=>
  simp only[Aw]at h
  split at hc<;>try (cases hc;done)
  all_goals first|(rename_i hb;simp only[hb]at h;done)|(rename_i hb;simp only[hb]at h;cases h;done)|skip
  rename_i hb
  simp only[hb]at h
  (repeat' (split at h))<;>try (cases h;done)
  simp only[Ee]at h
  (repeat' (split at h))<;>try (cases h;done)
  ·unfold sLen at h
   (repeat' (split at h))<;>first|(cases h;done)|(cases h;rfl)
  ·unfold Zt at h;simp only[Ak]at h
   (repeat' (split at h))<;>first|(cases h;done)|(cases h;rfl)
  ·unfold T6 at h;simp only[Ak]at h
   (repeat' (split at h))<;>first|(cases h;done)|(cases h;rfl)
  ·cases h;rfl
 all_goals (split at hc<;>first|(cases hc;done)|(split at hc<;>first|(cases hc;done)|(split at hc<;>cases hc)))
end
theorem Aem(A:Nat->Nat)(i):∀(l:List Edge) (s:Nat),(l.foldl (fun s e=>if Region.binds .any e then s|||2 ^ e.on|||A e.on else s) s).testBit i=true->
  s.testBit i=true∨∃e∈l,Region.binds .any e=true/\(i=e.on∨(A e.on).testBit i=true)
 |[],s,h=>.inl h
 |e::l,s,h=>by
  simp only[ct_]at h
  rcases Aem A i l _ h with h1|⟨f,h1,h2⟩
  ·grind
  grind
theorem Aen(val:Array Nat->Oper->Nat):∀(l:List Oper) (acc:Array Nat),
  (l.foldl (fun acc o=>acc.push (val acc o)) acc).size=acc.size+l.length/\(∀k,k<acc.size->(l.foldl (fun acc o=>acc.push (val acc o)) acc)[k]? =acc[k]?)/\
  ∀(k:Nat) (o:Oper),l[k]? =some o->∃A:Array Nat,A.size=acc.size+k/\(∀m,m<A.size->(l.foldl (fun acc o=>acc.push (val acc o)) acc)[m]? =A[m]?)/\(l.foldl (fun acc o=>acc.push (val acc o)) acc)[acc.size+k]? =some (val A o)
 |[],acc=>⟨by simp,fun k _=>rfl,gr⟩
 |x::l,acc=>by
  obtain⟨h1,h2,h3⟩:=Aen val l (acc.push (val acc x))
  grind
theorem Xu{ops j o}(ho:ops[j]? =some o){i}(h:((Region.before ops).getD j 0).testBit i=true):
  ∃e∈o.after,Region.binds .any e=true/\(i=e.on∨((Region.before ops).getD e.on 0).testBit i=true):=by
 obtain⟨f,hf⟩:∃f:Array Nat->Oper->Nat,(∀A o,f A o=o.after.toList.foldl (fun s e=>if Region.binds .any e then s|||2 ^ e.on|||A.getD e.on 0 else s) 0)/\
   Region.before ops=ops.toList.foldl (fun acc o=>acc.push (f acc o)) #[]:=by
  refine⟨fun A o=>o.after.foldl (fun s e=>if Region.binds .any e then s|||2 ^ e.on|||A.getD e.on 0 else s) 0,gr,?_⟩
  unfold Region.before
  grind
 obtain⟨hf1,hf2⟩:=hf;obtain⟨_,_,h3⟩:=Aen f ops.toList #[];obtain⟨A,a1,a2,a3⟩:=h3 j o gr;rw[←hf2]at a2 a3
 have hv:(Region.before ops).getD j 0=f A o:=by
  rw[bo_]
  grind
 rw[hv,hf1]at h
 rcases Aem (fun k=>A.getD k 0) i _ 0 h with h0|⟨e,h4,h5,h6⟩
 ·simp at h0
 ·refine⟨e,gr,h5,h6.imp id fun h7=>?_⟩
  by_cases hk:e.on<A.size
  ·rw[bo_,a2 _ hk,←bo_];exact h7
  grind
section
variable {E:Env}{ops:List Oper}{Rr:Rec}{nt:Nat}
def Aia(E:Env)(ops:List Oper)(Rr:Rec)(o:Oper)(tm:Tr AV)(J:Sto)(v:AV)(J':Sto):Prop:=
 (Bn ops o tm=some true/\opA E o.op Rr tm J=some (v,J'))∨(Bn ops o tm=some false/\v=An/\J'=J)
def cnt(E:Env):List Oper->Nat->Nat
 |[],_=>0
 |_::_,0=>0
 |o::r,k+1=>(if B5 (Bc E o.op)=true then 1 else 0)+cnt E r k
inductive Lex (E:Env)(ops:List Oper)(Rr:Rec)(nt:Nat):List Oper->Tr AV->Sto->List (Tr AV×AV)->List Sto->Tr AV->Sto->Prop
 |nil {tm J}:Lex E ops Rr nt [] tm J [] [] tm J
 |eff {o r tm J v J₁ tm₁ log eps tm' J'}:B5 (Bc E o.op)=true->Aia E ops Rr o tm J v J₁->Ka o.dst tm nt v=some tm₁->Lex E ops Rr nt r tm₁ J₁ log eps tm' J'->
   Lex E ops Rr nt (o::r) tm J ((tm,v)::log) (J₁::eps) tm' J'
 |calm {o r tm J v J₁ tm₁ log eps tm' J'}:B5 (Bc E o.op)=false->Aia E ops Rr o tm J v J₁->Ka o.dst tm nt v=some tm₁->Lex E ops Rr nt r tm₁ J log eps tm' J'->
   Lex E ops Rr nt (o::r) tm J ((tm,v)::log) eps tm' J'
theorem Lz:∀{r:List Oper} {d d':DS},T9 E ops Rr r d=some d'->∃log eps,Lex E ops Rr d.s.nt r d.s.tm d.s.sto log eps d'.s.tm d'.s.sto/\d'.log.reverse=d.log.reverse++log/\d'.eps.reverse=d.eps.reverse++eps/\d'.s.nt=d.s.nt/\d'.s.df=d.s.df
 |[],d,d',h=>by
  simp only[T9,af_]at h;subst h
  exact⟨[],[],.nil,by simp,by simp,rfl,rfl⟩
 |o::r,d,d',h=>by
  simp only[T9]at h
  split at h
  ·rename_i d₁ h₁
   obtain⟨log,eps,k1,k2,k3,k4,k5⟩:=Lz h;unfold Rc at h₁
   split at h₁
   ·rename_i hg
    split at h₁
    ·rename_i v J hv
     split at h₁
     ·rename_i tm htm
      split at h₁
      ·rename_i he
       cases h₁
       exact⟨_,_,.eff he (.inl ⟨hg,hv⟩) htm k1,by rw[k2];simp,by rw[k3];simp,k4,k5⟩
      ·rename_i he
       cases h₁
       exact⟨_,_,.calm he (.inl ⟨hg,hv⟩) htm k1,by rw[k2];simp,k3,k4,k5⟩
     ·cases h₁
    ·cases h₁
   ·rename_i hg
    split at h₁
    ·rename_i tm htm
     split at h₁
     ·rename_i he
      cases h₁
      exact⟨_,_,.eff he (.inr ⟨hg,rfl,rfl⟩) htm k1,by rw[k2];simp,by rw[k3];simp,k4,k5⟩
     ·rename_i he
      cases h₁
      exact⟨_,_,.calm he (.inr ⟨hg,rfl,rfl⟩) htm k1,by rw[k2];simp,k3,k4,k5⟩
    ·cases h₁
   ·cases h₁
  ·cases h
theorem Wq{r tm tm' J J' log eps}(h:Lex E ops Rr nt r tm J log eps tm' J'):
  log.length=r.length/\eps.length=cnt E r r.length/\(log.map (·.1)++[tm'])[0]? =some tm/\(J::eps)[eps.length]? =some J'/\
  ∀(k:Nat) (o:Oper),r[k]? =some o->∃t v t₁ σk J₁,log[k]? =some (t,v)/\(log.map (·.1)++[tm'])[k+1]? =some t₁/\(J::eps)[cnt E r k]? =some σk/\Ka o.dst t nt v=some t₁/\Aia E ops Rr o t σk v J₁/\
   (B5 (Bc E o.op)=true->(J::eps)[cnt E r k+1]? =some J₁):=by
 induction h with
 |nil=>exact⟨rfl,rfl,rfl,rfl,fun k o h=>by simp at h⟩
 |@eff o r tm J v J₁ tm₁ log eps tm' J' he dv ck pj ih=>
  obtain⟨h1,h2,h3,h4,h5⟩:=ih
  refine⟨by simp[h1],by simp[cnt,he,h2];omega,rfl,by simpa using h4,fun k o' hk=>?_⟩
  cases k with
  |zero=>
   simp at hk;subst hk
   exact⟨tm,v,tm₁,J,J₁,rfl,by simpa using h3,rfl,ck,dv,fun _=>by simp[cnt]⟩
  |succ k=>
   obtain⟨t,u,t₁,σk,J₂,a1,a2,a3,a4,a5,a6⟩:=h5 k o' (by simpa using hk)
   refine⟨t,u,t₁,σk,J₂,by simpa using a1,by simpa using a2,?_,a4,a5,fun hh=>?_⟩
   ·simp only[cnt,he,if_true];rw[fz_,cq_];exact a3
   ·simp only[cnt,he,if_true];rw[show 1+cnt E r k+1=(cnt E r k+1)+1 by omega,cq_];exact a6 hh
 |@calm o r tm J v J₁ tm₁ log eps tm' J' he dv ck pj ih=>
  obtain⟨h1,h2,h3,h4,h5⟩:=ih
  refine⟨by simp[h1],by simp[cnt,he,h2],rfl,h4,fun k o' hk=>?_⟩
  cases k with
  |zero=>
   simp at hk;subst hk
   exact⟨tm,v,tm₁,J,J₁,rfl,by simpa using h3,rfl,ck,dv,fun hh=>by rw[he]at hh;cases hh⟩
  |succ k=>
   obtain⟨t,u,t₁,σk,J₂,a1,a2,a3,a4,a5,a6⟩:=h5 k o' (by simpa using hk)
   refine⟨t,u,t₁,σk,J₂,by simpa using a1,by simpa using a2,?_,a4,a5,fun hh=>?_⟩
   ·simp only[cnt,he,bp_,if_false,bn_];exact a3
   ·simp only[cnt,he,bp_,if_false,bn_];exact a6 hh
end
section
variable (ops:Array Oper)(V:Nat->AV)(tm₀:Tr AV)
def B9(L:Nat->Bool):Nat->Nat->Option AV
 |0,t=>tm₀.get t
 |i+1,t=>if L i=true/\(ops[i]?).bind (·.dst)=some t then some (V i)else B9 L i t
variable {ops V tm₀}
theorem Hw{L L'}{t:Nat}:∀{k:Nat},(∀i,i<k->(ops[i]?).bind (·.dst)=some t->L i=L' i)->B9 ops V tm₀ L k t=B9 ops V tm₀ L' k t
 |0,_=>rfl
 |i+1,h=>by
  simp only[B9];rw[Hw fun j hj=>h j Om]
  grind
theorem He{L}{t k:Nat}:∀{m:Nat},k<=m->(∀i,k<=i->i<m->(ops[i]?).bind (·.dst)=some t->L i=false)->B9 ops V tm₀ L m t=B9 ops V tm₀ L k t
 |0,hk,_=>gr
 |m+1,hk,h=>by
  by_cases he:k=m+1
  ·rw[he]
  ·simp only[B9];rw[if_neg,He Om fun i h1 h2=>h i h1 Om]
   grind
theorem Ni{T:Nat->Tr AV}{nt n}(h0:T 0=tm₀)(hT:∀k,k<n->∃o,ops[k]? =some o/\Ka o.dst (T k) nt (V k)=some (T (k+1))):∀k,k<=n->∀t,(T k).get t=B9 ops V tm₀ (fun _=>true) k t
 |0,_,t=>by rw[h0];rfl
 |k+1,hk,t=>by
  obtain⟨o,ho,ck⟩:=hT k Om;have ih:=Ni h0 hT k Om t;simp only[B9,ho,gq_,true_and];cases hd:o.dst with
  |none=>
   rw[hd]at ck;simp only[Ka,af_]at ck
   rw[if_neg (by simp),←ck];exact ih
  |some d=>
   rw[hd]at ck;simp only[Ka,Ef]at ck;cases hb:Nat.blt d nt
   ·grind
   ·simp only[hb,cond_true,af_]at ck;rw[←ck,dd_]
    grind
def Agm(ops:Array Oper)(j t:Nat):Prop:=∀i,i≠j->(ops[i]?).bind (·.dst)=some t->
 (i<j->((Region.before ops).getD j 0).testBit i=true)/\(j<i->((Region.before ops).getD i 0).testBit j=true)
def Aa7(ops:Array Oper)(L:Nat->Bool):Prop:=∀j,L j=true->∀i,((Region.before ops).getD j 0).testBit i=true->L i=true
theorem Aib{L j t n}(hj:j<=n)(hc:Aa7 ops L)(hL:L j=false)(hr:∀i,((Region.before ops).getD j 0).testBit i=true->L i=true)(ho:Agm ops j t):
  B9 ops V tm₀ L n t=B9 ops V tm₀ (fun _=>true) j t:=by
 rw[He (k:=j) hj fun i h1 h2 hd=>?_]
 ·refine Hw fun i hi hd=>?_
  exact hr i ((ho i Om hd).1 hi)
 ·by_cases hij:i=j
  ·grind
  ·rw[bz_];intro hi;have:=hc i hi j ((ho i hij hd).2 Om)
   grind
theorem Aeo{L j t n}(hj:j<n)(hc:Aa7 ops L)(hL:L j=false)(ho:Agm ops j t)(hd:(ops[j]?).bind (·.dst)=some t):
  B9 ops V tm₀ (fun i=>L i||i==j) n t=some (V j):=by
 rw[He (k:=j+1) Om fun i h1 h2 hdi=>?_]
 ·simp only[B9,beq_self_eq_true,Bool.or_true,true_and];rw[if_pos hd]
 ·rw[bz_];intro hi;rw[bk_]at hi
  rcases hi with hi|hi
  ·have:=hc i hi j ((ho i Om hdi).2 Om)
   grind
  grind
theorem Aa8{L}{j t n:Nat}(hd:(ops[j]?).bind (·.dst)≠some t):
  B9 ops V tm₀ (fun i=>L i||i==j) n t=B9 ops V tm₀ L n t:=by
 refine Hw fun i _ hdi=>?_
 have:(i==j)=false:=gr
 grind
end
theorem Gc(A:Array Nat)(i):A.toList.getD i 0=A.getD i 0:=by
 rw[List.getD_eq_getElem?_getD,bo_,bw_]
theorem Od{ops}(h:Eu ops (Region.before ops).toList=true){j}{o:Oper}(ho:ops[j]? =some o){t:Nat}(ht:t∈o.looksAt ops∨o.dst=some t):Agm ops j t:=by
 have key:∀i j x y,i<j->ops[i]? =some x->ops[j]? =some y->((Region.before ops).getD j 0).testBit i=true∨Oper.apart ops x y=true:=by
  intro i j x y hij hx hy;unfold Eu at h;rw[b_]at h;have hlt:=(bc_.1 hy).1;have h1:=h j (cw_.2 hlt);rw[b_]at h1;have h2:=h1 i (cw_.2 hij);rw[bk_,Gc]at h2
  rcases h2 with h2|h2
  ·exact .inl h2
  ·simp only[hx,hy]at h2;exact .inr h2
 intro i hne hd;cases hx:ops[i]? with
 |none=>rw[hx]at hd;cases hd
 |some x=>
  rw[hx]at hd;simp only[gq_]at hd;refine⟨fun hij=>?_,fun hji=>?_⟩
  ·rcases key i j x o hij hx ho with h1|h1
   ·exact h1
   ·obtain⟨a1,a2,_⟩:=Oper.apart_spec h1
    rcases ht with ht|ht
    ·exact absurd ht (a1 t hd)
    ·exact absurd ht (a2 t hd)
  ·rcases key j i o x hji ho hx with h1|h1
   ·exact h1
   ·obtain⟨_,a2,a3⟩:=Oper.apart_spec h1
    rcases ht with ht|ht
    ·exact absurd ht (a3 t hd)
    ·exact absurd hd (a2 t ht)
section
variable {E:Env}
theorem Ie:∀(l:List Oper) (i₀:Nat),(∀(k:Nat) (o:Oper),l[k]? =some o->B5 (Bc E o.op)=true->(A8 E l i₀)[cnt E l k]? =some (i₀+k))/\
  (∀(m e:Nat),(A8 E l i₀)[m]? =some e->∃(k:Nat) (o:Oper),e=i₀+k/\l[k]? =some o/\B5 (Bc E o.op)=true/\cnt E l k=m)
 |[],i₀=>⟨fun k o h=>by simp at h,fun m e h=>by simp[A8]at h⟩
 |o::r,i₀=>by
  obtain⟨h1,h2⟩:=Ie r (i₀+1);cases hb:B5 (Bc E o.op)
  ·simp only[A8,hb];refine⟨fun k o' hk he=>?_,fun m e hm=>?_⟩
   ·cases k with
    |zero=>simp at hk;subst hk;rw[hb]at he;cases he
    |succ k=>
     simp only[cnt,hb,bp_,if_false,bn_]
     rw[h1 k o' (by simpa using hk) he];congr 1;omega
   ·obtain⟨k,o',e1,e2,e3,e4⟩:=h2 m e hm
    exact⟨k+1,o',by omega,by simpa using e2,e3,by simp only[cnt,hb,bp_,if_false,bn_];exact e4⟩
  ·simp only[A8,hb];refine⟨fun k o' hk he=>?_,fun m e hm=>?_⟩
   ·cases k with
    |zero=>simp[cnt]
    |succ k=>
     simp only[cnt,hb,if_true]
     rw[fz_ 1,cq_,h1 k o' (by simpa using hk) he];congr 1;omega
   ·cases m with
    |zero=>simp at hm;exact⟨0,o,by omega,rfl,hb,rfl⟩
    |succ m=>
     obtain⟨k,o',e1,e2,e3,e4⟩:=h2 m e (by simpa using hm)
     exact⟨k+1,o',by omega,by simpa using e2,e3,by simp only[cnt,hb,if_true];omega⟩
theorem Ul{b}:∀{l:List Nat},Mg b l=true->∀(k i j:Nat),l[k]? =some i->l[k+1]? =some j->(b.getD j 0).testBit i=true
 |[],_,k,i,j,h,_=>by simp at h
 |[x],_,k,i,j,_,h=>by simp at h
 |x::y::l,hc,k,i,j,hi,hj=>by
  simp only[Mg,ad_]at hc;cases k with
  |zero=>simp at hi hj;subst hi hj;exact hc.1
  |succ k=>exact Ul (l:=y::l) hc.2 k i j (by simpa using hi) (by simpa using hj)
theorem Xv{p}:∀{l:List Nat} {k e:Nat},k<Bl p l->l[k]? =some e->p e=true
 |[],k,e,h,_=>by simp[Bl]at h
 |x::l,k,e,h,he=>by
  simp only[Bl]at h
  split at h
  ·rename_i hp
   cases k with
   |zero=>simp at he;subst he;exact hp
   |succ k=>exact Xv (l:=l) (k:=k) Om (by simpa using he)
  ·omega
theorem Xw{p}:∀{l:List Nat} {m:Nat},m<=l.length->(∀k e,k<m->l[k]? =some e->p e=true)->m<=Bl p l
 |l,0,_,_=>aq_ _
 |[],m+1,h,_=>by simp at h
 |x::l,m+1,h,hp=>by
  simp only[Bl];rw[hp 0 x Om rfl]
  have:=Xw (l:=l) (m:=m) (by simpa using h) fun k e hk he=>hp (k+1) e Om (by simpa using he)
  simp only;omega
theorem Um{p}:∀(l:List Nat),Bl p l<=l.length
 |[]=>by simp[Bl]
 |x::l=>by
  simp only[Bl]
  split
  ·have:=Um (p:=p) l;simp;omega
  ·omega
theorem Ix{b effs}:∀(l:List Oper) (i k:Nat) (o:Oper),l[k]? =some o->(Kb E b effs l i)[k]? =some ⟨Bc E o.op,Bl (fun e=>(b.getD (i+k) 0).testBit e) effs,Bl (fun e=> !(b.getD e 0).testBit (i+k)) effs⟩
 |[],i,k,o,h=>by simp at h
 |x::l,i,k,o,h=>by
  cases k with
  |zero=>
   simp at h;subst h
   simp only[Kb,Ak];cases hc:Bc E x.op<;>rfl
  |succ k=>
   have ih:=Ix (b:=b) (effs:=effs) l (i+1) k o (by simpa using h)
   simp only[Kb,Ak]
   cases hc:Bc E x.op<;>(simp only[cq_];rw[ih];simp only[show i+1+k=i+(k+1) by omega])
def Agn(E:Env)(ops:List Oper)(o:Oper)(tm:Tr AV)(v:AV)(l:List Sto):Prop:=Bn ops o tm=some true->∀J∈l,∃J',Aw E o.op tm J=some (v,J')
end
theorem Aep{ops}(he:Fo ops=true){listed}(hs:listed.size=ops.size)(h:Region.ready .any ops listed=[]):∀i,i<ops.size->listed.getD i false=true:=by
 intro i
 induction i using Nat.strongRecOn with
 |_ i ih=>
  intro hi;cases hl:listed.getD i false with
  |true=>rfl
  |false=>
   exfalso
   have hm:i∈Region.ready .any ops listed:=by
    rw[mem_ready]
    have ho:ops[i]? =some ops[i]:=by simp[hi]
    refine⟨?_,ops[i],ho,fun e hem hb=>?_⟩
    ·grind
    ·unfold Fo at he;rw[b_]at he;have h1:=he i (cw_.2 hi);simp only[ho]at h1;rw[Array.all_eq_true_iff_forall_mem]at h1
     grind
   rw[h]at hm;cases hm
theorem Un{listed:Array Bool}{j n}(hs:listed.size=n)(hj:j<n)(i):(listed.setIfInBounds j true).getD i false=(listed.getD i false||i==j):=by
 by_cases hij:i=j
 ·subst hij;simp[hs,hj]
 ·rw[getD_set_ne false (gx_ hij)]
  grind
section
variable {E:Env}{tm tm':Tr AV}{ops:Array Oper}
theorem Uo{o:Oper}(h:∀t∈o.looksAt ops,tm.get t=tm'.get t):Bn ops.toList o tm=Bn ops.toList o tm':=by
 unfold Bn;cases hg:o.guard with
 |none=>rfl
 |some gw=>
  obtain⟨j,want⟩:=gw;simp only;cases hj:ops.toList[j]? with
  |none=>rfl
  |some oj=>
   simp only;cases hd:oj.dst with
   |none=>rfl
   |some d=>
    simp only;have hj':ops[j]? =some oj:=gr
    rw[h d (by simp[Oper.looksAt,hg,hj',hd])]
theorem Aeq{o:Oper}(h:∀t∈o.looksAt ops,tm.get t=tm'.get t):∀x∈o.op.operands,opd E tm x=opd E tm' x:=by
 intro x hx;cases x with
 |tmp t=>
  have:t∈o.looksAt ops:=dg_ _ (List.mem_filterMap.2 ⟨.tmp t,gr,rfl⟩);simp only[opd,h t this]
 |_=>rfl
def only(tm:Tr AV):List Nat->Tr AV
 |[]=>.e
 |t::l=>match tm.get t with
  |some v=>(only tm l).put (t+1) t (some v)
  |none=>only tm l
theorem P9{tm}:∀{l:List Nat} {t:Nat} {v:AV},(only tm l).get t=some v->t∈l/\tm.get t=some v
 |[],t,v,h=>by simp[only,Tr.get]at h
 |u::l,t,v,h=>by
  simp only[only]at h
  split at h
  ·rename_i x hx
   rw[dd_]at h
   by_cases ht:t=u
   ·grind
   ·rw[if_neg ht]at h;obtain⟨h1,h2⟩:=P9 h;grind
  ·obtain⟨h1,h2⟩:=P9 h;grind
theorem Rh{tm}:∀{l:List Nat} {t:Nat},t∈l->(only tm l).get t=tm.get t
 |[],t,h=>by simp at h
 |u::l,t,h=>by
  simp only[only]
  by_cases ht:t=u
  ·subst ht
   split
   ·rename_i x hx;rw[dd_,if_pos rfl,hx]
   ·rename_i hx
    cases hg:(only tm l).get t with
    |none=>exact hx.symm
    |some v=>have:=(P9 hg).2;rw[hx]at this;cases this
  ·have hl:t∈l:=gr
   split
   ·rw[dd_,if_neg ht];exact Rh hl
   ·exact Rh hl
end
structure Aer (E:Env)(ops:Array Oper)(Rr:Rec)(nt:Nat)(tm₀:Tr AV)(es:List Nat)(T:Nat->Tr AV)(V:Nat->AV)(S:List Sto):Prop where
 slots:Eu ops (Region.before ops).toList=true
 hes:es=A8 E ops.toList 0
 len:S.length=es.length+1
 chain:Mg (Region.before ops).toList es=true
 here:∀(j:Nat) (o:Oper),ops[j]? =some o->∃σk J₁,S[cnt E ops.toList j]? =some σk/\Ka o.dst (T j) nt (V j)=some (T (j+1))/\Aia E ops.toList Rr o (T j) σk (V j) J₁/\(B5 (Bc E o.op)=true->S[cnt E ops.toList j+1]? =some J₁)
 get:∀j,j<=ops.size->∀t,(T j).get t=B9 ops V tm₀ (fun _=>true) j t
 steady:∀(j:Nat) (o:Oper),ops[j]? =some o->Bc E o.op=.read->Agn E ops.toList o (T j) (V j)
  ((S.drop (Bl (fun e=>((Region.before ops).getD j 0).testBit e) es)).take (Bl (fun e=> !((Region.before ops).getD e 0).testBit j) es+1-Bl (fun e=>((Region.before ops).getD j 0).testBit e) es))
structure Inv (E:Env)(ops:Array Oper)(nt:Nat)(df:List (Nat×List AV))(tm₀:Tr AV)(es:List Nat)(V:Nat->AV)(S:List Sto)(C₀:Ctx)(N₀:Nat)(w₀:World)
  (L:Nat->Bool)(m:Nat)(J:Sto)(C:Ctx)(w:World)(a:Act):Prop where
 closed:Aa7 ops L
 effs:∀k e,es[k]? =some e->(L e=true↔k<m)
 sto:S[m]? =some J
 sim:Sim E.P C w J
 glob:Iw C (nx J) w E
 slots:∀t x,B9 ops V tm₀ L ops.size t=some x->R C (nx J) w x (a.tmps.getD t undef)
 size:a.tmps.size=nt
 dfs:DR C (nx J) w df a.defers
 ext:Ext C₀ N₀ w₀ C (nx J) w
section
variable {E:Env}{ops:Array Oper}{Rr:Rec}{nt:Nat}{df:List (Nat×List AV)}{tm₀:Tr AV}{es:List Nat}{T:Nat->Tr AV}{V:Nat->AV}{S:List Sto}{C₀ C:Ctx}{N₀:Nat}{w₀ w:World}{L:Nat->Bool}{m:Nat}{J:Sto}{a:Act}
theorem Inv.next(lx:Aer E ops Rr nt tm₀ es T V S)(iv:Inv E ops nt df tm₀ es V S C₀ N₀ w₀ L m J C w a){j o}(ho:ops[j]? =some o)(hL:L j=false)(hr:∀i,((Region.before ops).getD j 0).testBit i=true->L i=true)
  {m' J' C' w' x}(pm:S[m']? =some J')(mg:∀k e,es[k]? =some e->((L e||e==j)=true↔k<m'))(hs:Sim E.P C' w' J')(he:Ext C (nx J) w C' (nx J') w')(hx:R C' (nx J') w' (V j) x):
  Inv E ops nt df tm₀ es V S C₀ N₀ w₀ (fun i=>L i||i==j) m' J' C' w' (a.put o.dst x):=by
 have hj:=(bc_.1 ho).1;obtain⟨_,_,_,ck,_,_⟩:=lx.here j o ho
 have hdn:∀d,o.dst=some d->d<nt:=fun d hd=>by
  rw[hd]at ck;simp only[Ka]at ck;cases hb:Nat.blt d nt
  ·grind
  ·exact al_ hb
 refine⟨fun i hi k hk=>?_,mg,pm,hs,iv.glob.ext he,fun t y hy=>?_,?_,?_,iv.ext.trans he⟩
 ·rw[bk_]at hi⊢
  rcases hi with hi|hi
  ·exact .inl (iv.closed i hi k hk)
  grind
 ·by_cases hd:(ops[j]?).bind (·.dst)=some t
  ·have hd':o.dst=some t:=gr;rw[Aeo hj iv.closed hL (Od lx.slots ho (.inr hd')) hd]at hy;cases hy;have:=hdn t hd';rw[hd']
   have:t<a.tmps.size:=by rw[iv.size];exact this
   simp[Act.put,this];exact hx
  ·rw[Aa8 hd]at hy;have h1:=R.ext he _ _ (iv.slots t y hy);cases hod:o.dst with
   |none=>exact h1
   |some d=>
    have hne:d≠t:=fun hh=>hd gr
    simpa[Act.put,cr_ hne]using h1
 ·cases hod:o.dst<;>simp[Act.put,iv.size]
 ·have:(a.put o.dst x).defers=a.defers:=by cases o.dst<;>rfl
  rw[this];exact iv.dfs.ext he
end
section
variable {E:Env}{ops:Array Oper}{Rr:Rec}{nt:Nat}{df:List (Nat×List AV)}{tm₀:Tr AV}{es:List Nat}{T:Nat->Tr AV}{V:Nat->AV}{S:List Sto}{C₀ C:Ctx}{N₀:Nat}{w₀ w:World}{L:Nat->Bool}{m:Nat}{J:Sto}{a:Act}
theorem Iy{op}(h:Bc E op=.read):∀tm J,opA E op Rr tm J=Aw E op tm J:=by
 intro tm J;cases op
 case call c=>
  cases hc:c.callee with
  |value f=>cases f<;>simp only[Bc,hc]at h<;>first|(cases h;done)|(split at h<;>cases h)
  |builtin b=>simp only[opA,hc]
  |invoke r n=>simp[Bc,hc]at h
 all_goals rfl
theorem Aa9(hR:Bk E Rr){op}(h:Bc E op=.pure)(tm):Fk (opA E op Rr tm):=by
 have viaStep:(∀J,opA E op Rr tm J=Aw E op tm J)->Fk (opA E op Rr tm):=fun e J J' v hv=>by
  rw[e]at hv;obtain⟨k1,k2⟩:=Aos (tm:=tm) h J J' v hv
  exact⟨k1,fun U=>by rw[e];exact k2 U⟩
 cases op
 case call c=>
  cases hc:c.callee with
  |value f=>
   cases f with
   |func f=>
    have hp:E.pu f=true:=by
     simp only[Bc,hc]at h
     split at h
     ·assumption
     ·cases h
    intro J J' v hv
    have e:∀U,opA E (.call c) Rr tm U=Rr (.fn f) ([]++opds E tm c.args.toList++[]) U:=fun U=>by simp only[opA,hc,opd,Rb]
    rw[e]at hv;obtain⟨k1,k2⟩:=hR.pu f hp _ J J' v hv
    exact⟨k1,fun U=>by rw[e];exact k2 U⟩
   |_=>simp only[Bc,hc]at h;cases h
  |builtin b=>exact viaStep fun J=>by simp only[opA,hc]
  |invoke r n=>simp only[Bc,hc]at h;cases h
 all_goals exact viaStep fun _=>rfl
theorem Inv.step (hR : Bk E Rr) (lx : Aer E ops Rr nt tm₀ es T V S) (iv : Inv E ops nt df tm₀ es V S C₀ N₀ w₀ L m J C w a) {j o} (ho : ops[j]? = some o) (hL : L j = false) (hr : ∀ i,((Region.before ops).getD j 0).testBit i = true -> L i = true)
  {K Q} (hK : ∀ m' J' C' w' a',Inv E ops nt df tm₀ es V S C₀ N₀ w₀ (fun i => L i || i == j) m' J' C' w' a' -> K a' w') {ro n} : wpOpIn (Cy ro) n E.P ops Q j K a w := by
 have hj := (bc_.1 ho).1
 have hol : ops.toList[j]? = some o := by simpa using ho
 obtain ⟨σk,J₁,h1,ck,dv,h3⟩ := lx.here j o ho
 have fe : ∀ t ∈ o.looksAt ops,B9 ops V tm₀ L ops.size t = (T j).get t := fun t ht => by
  rw [lx.get j Om];exact Aib Om iv.closed hL hr (Od lx.slots ho (.inl ht))
 have st : SSt E C w ⟨only (T j) (o.looksAt ops),nt,df,J⟩ a := ⟨iv.sim,iv.glob,fun t y hy => by
  obtain ⟨k1,k2⟩ := P9 hy
  exact iv.slots t y (by rw [fe t k1]; exact k2),iv.size,iv.dfs⟩
 have hgc : Bn ops.toList o (only (T j) (o.looksAt ops)) = Bn ops.toList o (T j) := Uo fun t ht => Rh ht
 have hoc : ∀ U,opA E o.op Rr (only (T j) (o.looksAt ops)) U = opA E o.op Rr (T j) U := fun U => Aek (Aeq fun t ht => Rh ht)
 obtain ⟨e1,e2⟩ := Ie (E := E) ops.toList 0;rw [← lx.hes] at e1 e2

 have il : B5 (Bc E o.op) = true -> J = σk /\ ∀ k e,es[k]? = some e -> ((L e || e == j) = true ↔ k < cnt E ops.toList j + 1) := by
  intro he;have hc := e1 j o hol he;rw [bn_] at hc
  have hle : m <= cnt E ops.toList j := by
   have := iv.effs _ _ hc;rw [hL] at this
   have h0 : ¬ (cnt E ops.toList j < m) := fun hh => by have := this.2 hh; cases this
   omega
  have hge : cnt E ops.toList j <= m := by
   rcases de_ (cnt E ops.toList j) with h0 | h0
   ·omega
   ·have hlt := (ae_.1 hc).1;have hp : es[cnt E ops.toList j - 1]? = some es[cnt E ops.toList j - 1] := az_ Om
    have hb := Ul lx.chain _ _ _ hp (by rw [show cnt E ops.toList j - 1 + 1 = cnt E ops.toList j by omega]; exact hc)
    rw [Gc] at hb;have := (iv.effs _ _ hp).1 (hr _ hb);omega
  have hm : m = cnt E ops.toList j := by omega
  refine ⟨by have := iv.sto; rw [hm,h1] at this; cases this; rfl,fun k e hk => ?_⟩
  obtain ⟨k',o',q1,q2,q3,q4⟩ := e2 k e hk;rw [bk_,iv.effs k e hk,beq_iff_eq]
  constructor
  ·rintro (h | h)
   ·omega
   ·have : k' = j := by omega
    subst this; omega
  ·intro h
   by_cases hkc : k = cnt E ops.toList j
   ·subst hkc; rw [hc] at hk; cases hk; exact .inr rfl
   ·exact .inl Om
 have cy : B5 (Bc E o.op) = false -> ∀ k e,es[k]? = some e -> ((L e || e == j) = true ↔ k < m) := by
  intro he k e hk;obtain ⟨k',o',q1,q2,q3,q4⟩ := e2 k e hk
  have hne : (e == j) = false := by
   rw [beq_eq_false_iff_ne]; intro hh
   have : k' = j := by omega
   subst this; rw [hol] at q2; cases q2; rw [q3] at he; cases he
  rw [hne,gl_]; exact iv.effs k e hk
 unfold wpOpIn;simp only [ho]
 rcases dv with ⟨hg,hv⟩ | ⟨hg,hv,hσ⟩
 ·rw [← hgc] at hg;have hw := Dp (b := true) st.tmps hg;rw [if_pos hw];cases he : B5 (Bc E o.op) with
  | true =>
   obtain ⟨rfl,q2⟩ := il he
   exact Rg hR st (by rw [hoc]; exact hv) fun C' w' x k1 k2 k3 => hK _ _ _ _ _ (iv.next lx ho hL hr (h3 he) q2 k1 k2 k3)
  | false =>
   have mj : opA E o.op Rr (T j) J = some (V j,J) := by
    cases hc : Bc E o.op with
    | eff => rw [hc] at he; cases he
    | pure => exact (Aa9 hR hc _ _ _ _ hv).2 J
    | read =>
     rw [hgc] at hg;have hst := lx.steady j o ho hc hg
     have mm : m <= es.length := by have := (ae_.1 iv.sto).1; rw [lx.len] at this; omega
     have hlo : Bl (fun e => ((Region.before ops).getD j 0).testBit e) es <= m := by
      rcases Nat.lt_or_ge m (Bl (fun e => ((Region.before ops).getD j 0).testBit e) es) with h | h
      ·exfalso
       have hlt : m < es.length := ak_ h (Um es);have hp : es[m]? = some es[m] := az_ hlt;have := (iv.effs _ _ hp).1 (hr _ (Xv h hp));omega
      ·exact h
     have hhi : m <= Bl (fun e => !((Region.before ops).getD e 0).testBit j) es := by
      refine Xw mm fun k e hk hek => ?_
      have hle := (iv.effs k e hek).2 hk;cases hb : ((Region.before ops).getD e 0).testBit j with
      | false => rfl
      | true => have := iv.closed e hle j hb; rw [hL] at this; cases this
     have fg : J ∈ (S.drop (Bl (fun e => ((Region.before ops).getD j 0).testBit e) es)).take (Bl (fun e => !((Region.before ops).getD e 0).testBit j) es + 1 - Bl (fun e => ((Region.before ops).getD j 0).testBit e) es) := by
      refine ab_ (i := m - Bl (fun e => ((Region.before ops).getD j 0).testBit e) es) ?_
      rw [ea_,if_pos Om,g_,show Bl (fun e => ((Region.before ops).getD j 0).testBit e) es + (m - Bl (fun e => ((Region.before ops).getD j 0).testBit e) es) = m by omega]
      exact iv.sto
     obtain ⟨J₂,hs2⟩ := hst J fg;have := S6 hc hs2;subst this; rw [Iy hc]; exact hs2
   exact Rg (s := ⟨only (T j) (o.looksAt ops),nt,df,J⟩) hR st (by rw [hoc]; exact mj) fun C' w' x k1 k2 k3 => hK _ _ _ _ _ (iv.next lx ho hL hr iv.sto (cy he) k1 k2 k3)
 ·rw [← hgc] at hg;have hw := Dp (b := false) st.tmps hg
  rw [if_neg (by rw [hw]; simp)]
  refine ⟨fun _ _ => trivial,?_⟩
  have hx : R C (nx J) w (V j) undef := by rw [hv]; exact P8
  cases he : B5 (Bc E o.op) with
  | true =>
   obtain ⟨rfl,q2⟩ := il he
   exact hK _ _ _ _ _ (iv.next lx ho hL hr (by rw [h3 he,hσ]) q2 iv.sim (cf_ _ _ _) hx)
  | false => exact hK _ _ _ _ _ (iv.next lx ho hL hr iv.sto (cy he) iv.sim (cf_ _ _ _) hx)
end
def Qa(L:Nat->Bool):Nat->Nat
 |0=>0
 |i+1=>(if L i=true then 0 else 1)+Qa L i
theorem Aes{L L'}:∀{n:Nat},(∀i,i<n->L i=L' i)->Qa L n=Qa L' n
 |0,_=>rfl
 |n+1,h=>by
  simp only[Qa];rw[h n Om,Aes (L:=L) (L':=L') (n:=n) fun i hi=>h i Om]
theorem Aba{L j}(hL:L j=false):∀{n:Nat},j<n->Qa (fun i=>L i||i==j) n+1=Qa L n
 |0,h=>by omega
 |n+1,h=>by
  by_cases hj:j=n
  ·subst hj
   have:Qa (fun i=>L i||i==j) j=Qa L j:=Aes fun i hi=>by
    have:(i==j)=false:=by rw[beq_eq_false_iff_ne];omega
    rw[this,gl_]
   simp[Qa,hL,this];omega
  ·have ih:=Aba (n:=n) hL Om
   have:(n==j)=false:=by rw[beq_eq_false_iff_ne];omega
   simp only[Qa,this,gl_];omega
theorem Ws{L}:∀{n:Nat},Qa L n=0->∀i,i<n->L i=true
 |0,_,i,hi=>by omega
 |n+1,h,i,hi=>by
  simp only[Qa]at h
  by_cases hn:L n=true
  ·rw[if_pos hn]at h
   by_cases he:i=n
   ·subst he;exact hn
   ·exact Ws (n:=n) Om i Om
  ·rw[if_neg hn]at h;omega
section
variable {E:Env}{ops:Array Oper}{Rr:Rec}{nt:Nat}{df:List (Nat×List AV)}{tm₀:Tr AV}{es:List Nat}{T:Nat->Tr AV}{V:Nat->AV}{S:List Sto}{C₀:Ctx}{N₀:Nat}{w₀:World}
theorem Inv.last(lx:Aer E ops Rr nt tm₀ es T V S){L m J C w a}(iv:Inv E ops nt df tm₀ es V S C₀ N₀ w₀ L m J C w a)(bs:∀i,i<ops.size->L i=true):
  S[es.length]? =some J/\SSt E C w ⟨T ops.size,nt,df,J⟩ a:=by
 have hm:m=es.length:=by
  have h1:=(ae_.1 iv.sto).1;rw[lx.len]at h1
  rcases Nat.lt_or_ge m es.length with h|h
  ·exfalso
   have hp:es[m]? =some es[m]:=az_ h;obtain⟨_,e2⟩:=Ie (E:=E) ops.toList 0;rw[←lx.hes]at e2;obtain⟨k,o,q1,q2,_⟩:=e2 m _ hp;have hk:=(ae_.1 q2).1
   have:=(iv.effs m _ hp).1 (bs _ (by rw[q1,bn_];simpa using hk))
   omega
  ·omega
 refine⟨hm▸iv.sto,iv.sim,iv.glob,fun t y hy=>iv.slots t y ?_,iv.size,iv.dfs⟩
 rw[←hy,lx.get ops.size nl];exact Hw fun i hi _=>bs i hi
theorem Wt(hR:Bk E Rr)(lx:Aer E ops Rr nt tm₀ es T V S)(hed:Fo ops=true){Q}
  (hQ:∀(L:Nat->Bool) m J C w a,Inv E ops nt df tm₀ es V S C₀ N₀ w₀ L m J C w a->(∀i,i<ops.size->L i=true)->Q .normal a w){ro n}:
  ∀(fuel:Nat) (listed:Array Bool) (m:Nat) (J:Sto) (C:Ctx) (w:World) (a:Act),listed.size=ops.size->Qa (fun i=>listed.getD i false) ops.size=fuel->
   Inv E ops nt df tm₀ es V S C₀ N₀ w₀ (fun i=>listed.getD i false) m J C w a->wpAnyIn (Cy ro) n E.P .any ops Q fuel listed a w
 |0,listed,m,J,C,w,a,hs,ht,iv=>by
  have bs:=Ws ht;refine⟨?_,hQ _ m J C w a iv bs⟩;rw[List.eq_nil_iff_forall_not_mem];intro j hj;obtain⟨h1,o,ho,_⟩:=mem_ready.1 hj;have hlt:=(bc_.1 ho).1;have h2:=bs j hlt;simp only[bo_]at h1 h2
  rw[em_ (by omega:j<listed.size)]at h1 h2
  simp only[gp_]at h1 h2;rw[h1]at h2;cases h2
 |fuel+1,listed,m,J,C,w,a,hs,ht,iv=>by
  refine⟨fun h0=>hQ _ m J C w a iv (Aep hed hs h0),fun j hj=>?_⟩
  obtain⟨h1,o,ho,bs⟩:=mem_ready.1 hj;have hlt:=(bc_.1 ho).1
  have hL:listed.getD j false=false:=by
   simp only[bo_]at h1⊢
   rw[em_ (by omega:j<listed.size)]at h1⊢
   exact h1
  have hr:∀i,((Region.before ops).getD j 0).testBit i=true->listed.getD i false=true:=fun i hi=>by
   obtain⟨e,he,hb,h⟩:=Xu ho hi;have hon:=bs e he hb
   rcases h with rfl|h
   ·exact hon
   ·exact iv.closed _ hon i h
  refine iv.step hR lx ho hL hr fun m' J' C' w' a' iv'=>?_
  have ir:(fun i=>(listed.setIfInBounds j true).getD i false)=fun i=>listed.getD i false||i==j:=funext fun i=>Un hs hlt i
  refine Wt hR lx hed hQ fuel _ m' J' C' w' a' (by simp[hs]) ?_ (by rw[ir];exact iv')
  rw[ir];have:=Aba (L:=fun i=>listed.getD i false) hL hlt
  omega
end
theorem Ri{L}:∀{n:Nat},(∀i,L i=false)->Qa L n=n
 |0,_=>rfl
 |n+1,h=>by simp only[Qa];rw[if_neg (by rw[h n];simp),Ri (n:=n) h];omega
theorem Nj{E}:∀(l:List Oper) (i:Nat),cnt E l l.length=(A8 E l i).length
 |[],i=>rfl
 |o::r,i=>by
  simp only[as_,cnt,A8];cases hb:B5 (Bc E o.op)
  ·simp[Nj r (i+1)]
  ·simp[Nj r (i+1)];omega
theorem Aic{E}(hm:E.P.follows .mixedOrders=true){Rr}(hR:Bk E Rr){ops s d C w a id}(st:SSt E C w s a)
  (c1:Eu ops (Region.before ops).toList=true)(c2:Fo ops=true)(c3:Mg (Region.before ops).toList (A8 E ops.toList 0)=true)(hd:T9 E ops.toList Rr ops.toList ⟨s,[s.sto],[]⟩=some d)
  (hb:∀(j:Nat) (o:Oper) (t:Tr AV) (v:AV),ops[j]? =some o->d.log.reverse[j]? =some (t,v)->Bc E o.op=.read->Agn E ops.toList o t v
   ((d.eps.reverse.drop (Bl (fun e=>((Region.before ops).getD j 0).testBit e) (A8 E ops.toList 0))).take (Bl (fun e=> !((Region.before ops).getD e 0).testBit j) (A8 E ops.toList 0)+1-Bl (fun e=>((Region.before ops).getD j 0).testBit e) (A8 E ops.toList 0)))){ro n}:
  (Code.region id ops true).wpIn (Cy ro) n E.P (Aej E C (nx s.sto) w [(.normal,d.s)]) a w:=by
 obtain⟨log,eps,lex,k2,k3,k4,k5⟩:=Lz hd;simp only[dy_,bd_,d_]at k2 k3;obtain⟨x1,x2,x3,x4,x5⟩:=Wq lex
 have bl:ops.toList.length=ops.size:=by simp
 have hT:∀k,k<ops.size->∃o,ops[k]? =some o/\Ka o.dst (((log.map (·.1)++[d.s.tm])[k]?).getD .e) s.nt (((log[k]?).map (·.2)).getD .any)=some (((log.map (·.1)++[d.s.tm])[k+1]?).getD .e):=by
  intro k hk
  have ho:ops.toList[k]? =some ops[k]:=by simp[hk]
  obtain⟨t,v,t₁,σk,J₁,y1,y2,y3,y4,y5,y6⟩:=x5 k _ ho;have hlt:=(ae_.1 y1).1
  refine⟨ops[k],by simp[hk],?_⟩
  rw[cg_ (by simpa using hlt),br_,y1,y2]
  exact y4
 have lx:Aer E ops Rr s.nt s.tm (A8 E ops.toList 0) (fun k=>((log.map (·.1)++[d.s.tm])[k]?).getD .e) (fun k=>((log[k]?).map (·.2)).getD .any) (s.sto::eps):=by
  refine⟨c1,rfl,by simp only[as_,x2,Nj ops.toList 0],c3,fun j o ho=>?_,fun j hj t=>?_,fun j o ho hc=>?_⟩
  ·obtain⟨t,v,t₁,σk,J₁,y1,y2,y3,y4,y5,y6⟩:=x5 j o (by simpa using ho)
   have hlt:=(ae_.1 y1).1;refine⟨σk,J₁,y3,?_,?_,y6⟩
   ·rw[cg_ (by simpa using hlt),br_,y1,y2];exact y4
   ·rw[cg_ (by simpa using hlt),br_,y1];exact y5
  ·exact Ni (n:=ops.size) (by rw[x3];rfl) hT j hj t
  ·obtain⟨t,v,t₁,σk,J₁,y1,y2,y3,y4,y5,y6⟩:=x5 j o (by simpa using ho)
   have hlt:=(ae_.1 y1).1
   have:=hb j o t v ho (by rw[k2];exact y1) hc
   rw[k3]at this
   rw[cg_ (by simpa using hlt),br_,y1]
   exact this
 refine wpIn_region_any hm ?_;obtain⟨t1,t2⟩:=st.sim.same (w':={ w with drawn:=w.drawn+1 }) nl (fun _ _=>rfl) ⟨rfl,rfl⟩
 have cz:∀i,(Array.replicate ops.size false).getD i false=false:=fun i=>by
  rw[bo_,Array.getElem?_replicate];split<;>rfl
 refine Wt (C₀:=C) (N₀:=nx s.sto) (w₀:=w) (df:=s.df) hR lx c2 (fun L m J C' w' a' iv bs=>?_) ops.size _ 0 s.sto C _ a (by simp) (Ri cz) ?_
 ·obtain⟨z1,z2⟩:=iv.last lx bs
  have hσ:J=d.s.sto:=by
   rw[←Nj,←x2,x4]at z1;cases z1;rfl
  subst hσ;refine⟨(.normal,d.s),ev_ _,C',rfl,?_,iv.ext⟩
  have hTn:((log.map (·.1)++[d.s.tm])[ops.size]?).getD .e=d.s.tm:=by
   rw[←bl,←x1,do_ (by simp)];simp
  simp only[hTn]at z2
  exact⟨z2.sim,z2.glob,z2.tmps,by rw[k4];exact z2.size,by rw[k5];exact z2.dfs⟩
 ·refine⟨fun j hj=>?_,fun k e _=>?_,rfl,t1,st.glob.ext t2,fun t x hx=>?_,st.size,st.dfs.ext t2,t2⟩
  ·rw[cz]at hj;cases hj
  ·rw[cz];constructor
   ·intro hh;cases hh
   ·intro hh;omega
  ·refine R.ext t2 _ _ (st.tmps t x ?_);rw[←hx,He (k:=0) (aq_ _) fun i _ _ _=>cz i];rfl
structure Base (E:Env)(ops:Array Oper)(nt:Nat)(df:List (Nat×List AV))(tm₀:Tr AV)(C₀:Ctx)(N₀:Nat)(w₀:World)
  (aC:Nat->AV)(L:Nat->Bool)(J:Sto)(C:Ctx)(w:World)(a:Act):Prop where
 closed:Aa7 ops L
 sim:Sim E.P C w J
 glob:Iw C (nx J) w E
 slots:∀t x,B9 ops aC tm₀ L ops.size t=some x->R C (nx J) w x (a.tmps.getD t undef)
 size:a.tmps.size=nt
 dfs:DR C (nx J) w df a.defers
 ext:Ext C₀ N₀ w₀ C (nx J) w
def Conv(E:Env)(aC:Nat->AV)(J:Sto)(aB:Nat->AV)(J':Sto):Prop:=
 ∀C w,Sim E.P C w J->∃C',Sim E.P C' w J'/\Ext C (nx J) w C' (nx J') w/\∀i x,R C (nx J) w (aC i) x->R C' (nx J') w (aB i) x
theorem Conv.refl{E aC aB J}(h:∀i,aC i=aB i):Conv E aC J aB J:=fun C _ hs=>⟨C,hs,cf_ _ _ _,gr⟩
abbrev ff_:=@Conv.refl
section
variable {E:Env}{ops:Array Oper}{Rr:Rec}{nt:Nat}{df:List (Nat×List AV)}{tm₀:Tr AV}{V aC aB:Nat->AV}{C₀ C:Ctx}{N₀:Nat}{w₀ w:World}{L:Nat->Bool}{J J':Sto}{a:Act}
theorem Nk{t:Nat}:∀{k:Nat},(∀i,i<k->(ops[i]?).bind (·.dst)=some t->L i=true->aC i=aB i)->B9 ops aC tm₀ L k t=B9 ops aB tm₀ L k t
 |0,_=>rfl
 |i+1,h=>by
  simp only[B9];rw[Nk fun j hj=>h j Om]
  grind
theorem Xx{t}:∀(k:Nat),(∃i,B9 ops aC tm₀ L k t=some (aC i)/\B9 ops aB tm₀ L k t=some (aB i))∨(B9 ops aC tm₀ L k t=tm₀.get t/\B9 ops aB tm₀ L k t=tm₀.get t)
 |0=>.inr ⟨rfl,rfl⟩
 |i+1=>by
  simp only[B9]
  by_cases hd:L i=true/\(ops[i]?).bind (·.dst)=some t
  ·grind
  ·rw[if_neg hd,if_neg hd];exact Xx i
theorem Base.conv(h:Base E ops nt df tm₀ C₀ N₀ w₀ aC L J C w a)(hc:Conv E aC J aB J'):∃C',Base E ops nt df tm₀ C₀ N₀ w₀ aB L J' C' w a:=by
 obtain⟨C',h1,h2,h3⟩:=hc C w h.sim;refine⟨C',h.closed,h1,h.glob.ext h2,fun t x hx=>?_,h.size,h.dfs.ext h2,h.ext.trans h2⟩
 rcases Xx (ops:=ops) (aC:=aC) (aB:=aB) (tm₀:=tm₀) (L:=L) (t:=t) ops.size with⟨i,e1,e2⟩|⟨e1,e2⟩
 ·rw[e2]at hx;cases hx;exact h3 i _ (h.slots t _ e1)
 ·rw[e2,←e1]at hx;exact R.ext h2 _ _ (h.slots t x hx)
theorem Base.congr(h:Base E ops nt df tm₀ C₀ N₀ w₀ aC L J C w a)(hu:∀i,L i=true->aC i=aB i):Base E ops nt df tm₀ C₀ N₀ w₀ aB L J C w a:=
 ⟨h.closed,h.sim,h.glob,fun t x hx=>h.slots t x (by rw[Nk fun i _ _ hi=>hu i hi];exact hx),h.size,h.dfs,h.ext⟩
theorem Base.next(hsl:Eu ops (Region.before ops).toList=true)(iv:Base E ops nt df tm₀ C₀ N₀ w₀ aC L J C w a){j}{o:Oper}(ho:ops[j]? =some o)(hL:L j=false)(hr:∀i,((Region.before ops).getD j 0).testBit i=true->L i=true)
  (hdn:∀d,o.dst=some d->d<nt){v C' w' x}(hs:Sim E.P C' w' J')(he:Ext C (nx J) w C' (nx J') w')(hx:R C' (nx J') w' v x):
  Base E ops nt df tm₀ C₀ N₀ w₀ (fun i=>if i=j then v else aC i) (fun i=>L i||i==j) J' C' w' (a.put o.dst x):=by
 have hj:=(bc_.1 ho).1;have hUL:∀i,L i=true->aC i=(if i=j then v else aC i):=gr;refine⟨fun i hi k hk=>?_,hs,iv.glob.ext he,fun t y hy=>?_,?_,?_,iv.ext.trans he⟩
 ·rw[bk_]at hi⊢
  rcases hi with hi|hi
  ·exact .inl (iv.closed i hi k hk)
  grind
 ·by_cases hd:(ops[j]?).bind (·.dst)=some t
  ·have hd':o.dst=some t:=gr;rw[Aeo hj iv.closed hL (Od hsl ho (.inr hd')) hd]at hy;simp only[if_true]at hy;cases hy;have:=hdn t hd';rw[hd']
   have:t<a.tmps.size:=by rw[iv.size];grind
   simp[Act.put,this];exact hx
  ·rw[Aa8 hd,←Nk (aC:=aC) fun i _ _ hi=>hUL i hi]at hy
   have h1:=R.ext he _ _ (iv.slots t y hy);cases hod:o.dst with
   |none=>exact h1
   |some d=>
    have hne:d≠t:=fun hh=>hd gr
    simpa[Act.put,cr_ hne]using h1
 ·cases hod:o.dst<;>simp[Act.put,iv.size]
 ·have:(a.put o.dst x).defers=a.defers:=by cases o.dst<;>rfl
  rw[this];exact iv.dfs.ext he
theorem Base.step(hR:Bk E Rr)(hsl:Eu ops (Region.before ops).toList=true)(iv:Base E ops nt df tm₀ C₀ N₀ w₀ aC L J C w a){j}{o:Oper}(ho:ops[j]? =some o)(hL:L j=false)(hr:∀i,((Region.before ops).getD j 0).testBit i=true->L i=true)
  (hdn:∀d,o.dst=some d->d<nt){Tj}(hT:∀t,Tj.get t=B9 ops V tm₀ (fun _=>true) j t)(hU:∀i,((Region.before ops).getD j 0).testBit i=true->aC i=V i){v}(h1:Aia E ops.toList Rr o Tj J v J')
  {K Q}(hK:∀C' w' a',Base E ops nt df tm₀ C₀ N₀ w₀ (fun i=>if i=j then v else aC i) (fun i=>L i||i==j) J' C' w' a'->K a' w'){ro n}:wpOpIn (Cy ro) n E.P ops Q j K a w:=by
 have hj:=(bc_.1 ho).1
 have fe:∀t∈o.looksAt ops,B9 ops aC tm₀ L ops.size t=Tj.get t:=fun t ht=>by
  have mq:=Od hsl ho (.inl ht);rw[hT,Aib Om iv.closed hL hr mq];exact Nk fun i hi hd _=>hU i ((mq i Om hd).1 hi)
 have st:SSt E C w ⟨only Tj (o.looksAt ops),nt,df,J⟩ a:=⟨iv.sim,iv.glob,fun t y hy=>by
  obtain⟨k1,k2⟩:=P9 hy;exact iv.slots t y gr,iv.size,iv.dfs⟩
 have hgc:Bn ops.toList o (only Tj (o.looksAt ops))=Bn ops.toList o Tj:=Uo fun t ht=>Rh ht
 have hoc:∀U,opA E o.op Rr (only Tj (o.looksAt ops)) U=opA E o.op Rr Tj U:=fun U=>Aek (Aeq fun t ht=>Rh ht)
 unfold wpOpIn;simp only[ho]
 rcases h1 with⟨hg,hv⟩|⟨hg,hv,hσ⟩
 ·rw[←hgc]at hg;have hw:=Dp (b:=true) st.tmps hg;rw[if_pos hw];exact Rg hR st gr fun C' w' x k1 k2 k3=>hK _ _ _ (iv.next hsl ho hL hr hdn k1 k2 k3)
 ·rw[←hgc]at hg;have hw:=Dp (b:=false) st.tmps hg;rw[if_neg gr];refine⟨fun _ _=>trivial,?_⟩
  subst hσ
  exact hK _ _ _ (iv.next hsl ho hL hr hdn iv.sim (cf_ _ _ _) (by rw[hv];exact P8))
theorem At3{es D k}(hc:Aa7 ops L)(hes:∀e∈es,L e=true↔e∈D)(hL:L k=false)(hr:∀i,((Region.before ops).getD k 0).testBit i=true->L i=true):Sz (Region.before ops).toList es D k=true:=by
 unfold Sz;rw[b_];intro e he;rw[Gc,Gc];cases hd:D.contains e with
 |true=>
  simp only;rw[bi_];rw[bz_];intro hh;have:=hc e ((hes e he).2 gr) k hh;rw[hL]at this;cases this
 |false=>
  simp only;rw[bi_];rw[bz_];intro hh;have:=(hes e he).1 (hr e hh);rw[←List.contains_iff_mem,hd]at this;cases this
structure Plan (E:Env)(ops:Array Oper)(Rr:Rec)(nt:Nat)(tm₀:Tr AV)(es:List Nat)(V:Nat->AV)(T:Nat->Tr AV)(nds:List Nd):Prop where
 slots:Eu ops (Region.before ops).toList=true
 edges:Fo ops=true
 effs:∀(k:Nat) (o:Oper),ops[k]? =some o->(B5 (Bc E o.op)=true↔k∈es)
 get:∀k,k<=ops.size->∀t,(T k).get t=B9 ops V tm₀ (fun _=>true) k t
 dst:∀(k:Nat) (o:Oper),ops[k]? =some o->∀d,o.dst=some d->d<nt
 sub:∀c∈nds,∀k∈c.D,k∈es
 ov:∀c∈nds,∀k,k∉c.D->ovr c.aC V k=V k
 seen:∀c∈nds,∀k,k<ops.size->k∉c.D->Sz (Region.before ops).toList es c.D k=true->∀i,((Region.before ops).getD k 0).testBit i=true->ovr c.aC V i=V i
 calm:∀c∈nds,∀(k:Nat) (o:Oper),ops[k]? =some o->k∉es->Sz (Region.before ops).toList es c.D k=true->Aia E ops.toList Rr o (T k) c.J (V k) c.J
 eff:∀c∈nds,∀(k:Nat) (o:Oper),ops[k]? =some o->k∈es->k∉c.D->Sz (Region.before ops).toList es c.D k=true->
  ∃v J' c',Aia E ops.toList Rr o (T k) c.J v J'/\c'∈nds/\(∀e∈es,e∈c'.D↔e∈c.D∨e=k)/\Conv E (fun i=>if i=k then v else ovr c.aC V i) J' (ovr c'.aC V) c'.J
theorem Abb{es T nds}(hR:Bk E Rr)(pl:Plan E ops Rr nt tm₀ es V T nds){Q}
  (hQ:∀c∈nds,∀(L:Nat->Bool) C w a,(∀e∈es,L e=true↔e∈c.D)->(∀i,i<ops.size->L i=true)->Base E ops nt df tm₀ C₀ N₀ w₀ (ovr c.aC V) L c.J C w a->Q .normal a w){ro n}:
  ∀(fuel:Nat) (listed:Array Bool) (c:Nd) (C:Ctx) (w:World) (a:Act),c∈nds->listed.size=ops.size->Qa (fun i=>listed.getD i false) ops.size=fuel->(∀e∈es,listed.getD e false=true↔e∈c.D)->
   Base E ops nt df tm₀ C₀ N₀ w₀ (ovr c.aC V) (fun i=>listed.getD i false) c.J C w a->wpAnyIn (Cy ro) n E.P .any ops Q fuel listed a w
 |0,listed,c,C,w,a,hc,hs,ht,hes,iv=>by
  have bs:=Ws ht;refine⟨?_,hQ c hc _ C w a hes bs iv⟩;rw[List.eq_nil_iff_forall_not_mem];intro j hj;obtain⟨h1,o,ho,_⟩:=mem_ready.1 hj
  grind
 |fuel+1,listed,c,C,w,a,hc,hs,ht,hes,iv=>by
  refine⟨fun h0=>hQ c hc _ C w a hes (Aep pl.edges hs h0) iv,fun j hj=>?_⟩
  obtain⟨h1,o,ho,bs⟩:=mem_ready.1 hj;have hlt:=(bc_.1 ho).1;have hL:listed.getD j false=false:=gr
  have hr:∀i,((Region.before ops).getD j 0).testBit i=true->listed.getD i false=true:=fun i hi=>by
   obtain⟨e,he,hb,h⟩:=Xu ho hi;have hon:=bs e he hb
   rcases h with rfl|h
   ·grind
   ·exact iv.closed _ hon i h
  have hok:=At3 (es:=es) (D:=c.D) iv.closed hes hL hr
  have hjD:j∉c.D:=fun hh=>by
   have:=(hes j (pl.sub c hc j hh)).2 hh
   grind
  have ir:(fun i=>(listed.setIfInBounds j true).getD i false)=fun i=>listed.getD i false||i==j:=funext fun i=>Un hs hlt i
  have htodo:Qa (fun i=>listed.getD i false||i==j) ops.size=fuel:=by
   have:=Aba (L:=fun i=>listed.getD i false) hL hlt
   omega
  by_cases hje:j∈es
  ·obtain⟨v,J',c',k1,k2,k3,k4⟩:=pl.eff c hc j o ho hje hjD hok;refine iv.step hR pl.slots ho hL hr (pl.dst j o ho) (pl.get j Om) (pl.seen c hc j hlt hjD hok) k1 fun C' w' a' iv'=>?_
   obtain⟨C'',iv''⟩:=iv'.conv k4
   refine Abb hR pl hQ fuel _ c' C'' w' a' k2 (by simp[hs]) gr (fun e he=>?_) gr
   rw[Un hs hlt,bk_,hes e he,k3 e he,beq_iff_eq]
  ·refine iv.step hR pl.slots ho hL hr (pl.dst j o ho) (pl.get j Om) (pl.seen c hc j hlt hjD hok) (pl.calm c hc j o ho hje hok) fun C' w' a' iv'=>?_
   refine Abb hR pl hQ fuel _ c C' w' a' hc (by simp[hs]) gr (fun e he=>?_) (by
    rw[ir];refine iv'.congr fun i _=>?_
    by_cases hij:i=j
    ·rw[if_pos hij,hij,pl.ov c hc j hjD]
    grind)
   rw[Un hs hlt,bk_,hes e he,beq_iff_eq]
   grind
theorem Xy{es T nds s s' id}(hm:E.P.follows .mixedOrders=true)(hR:Bk E Rr)(st:SSt E C w s a)(pl:Plan E ops Rr s.nt s.tm es V T nds)
  (h0:(⟨[],s.sto,[]⟩:Nd)∈nds)(hf:∀c∈nds,(∀e∈es,e∈c.D)->(∀k,ovr c.aC V k=V k)/\c.J=s'.sto)(ht:s'.tm=T ops.size)(hn:s'.nt=s.nt)(hdf:s'.df=s.df)(il:∀e∈es,e<ops.size){ro n}:
  (Code.region id ops true).wpIn (Cy ro) n E.P (Aej E C (nx s.sto) w [(.normal,s')]) a w:=by
 refine wpIn_region_any hm ?_;obtain⟨t1,t2⟩:=st.sim.same (w':={ w with drawn:=w.drawn+1 }) nl (fun _ _=>rfl) ⟨rfl,rfl⟩
 have cz:∀i,(Array.replicate ops.size false).getD i false=false:=fun i=>by
  rw[bo_,Array.getElem?_replicate];grind
 refine Abb (C₀:=C) (N₀:=nx s.sto) (w₀:=w) (df:=s.df) hR pl (fun c hc L C' w' a' hes bs iv=>?_) ops.size _ ⟨[],s.sto,[]⟩ C _ a h0 (by simp) (Ri cz) (fun e _=>?_) ?_
 ·obtain⟨q1,q2⟩:=hf c hc fun e he=>(hes e he).1 (bs e (il e he))
  refine⟨(.normal,s'),ev_ _,C',rfl,?_,by rw[←q2];exact iv.ext⟩
  refine⟨by rw[←q2];exact iv.sim,by rw[←q2];exact iv.glob,fun t x hx=>?_,by rw[hn];exact iv.size,by rw[hdf,←q2];exact iv.dfs⟩
  rw[←q2];refine iv.slots t x ?_;rw[←hx,ht,pl.get ops.size nl,Nk (aB:=V) fun i _ _ _=>q1 i]
  exact Hw fun i hi _=>bs i hi
 ·grind
 ·refine⟨fun j hj=>?_,t1,st.glob.ext t2,fun t x hx=>?_,st.size,st.dfs.ext t2,t2⟩
  ·grind
  ·refine R.ext t2 _ _ (st.tmps t x ?_);rw[←hx,He (k:=0) (aq_ _) fun i _ _ _=>cz i];rfl
end
section
variable {E:Env}{Rr:Rec}{J U:Sto}{tm:Tr AV}
theorem Qb{t:Nat}{x y:Operand}{v:AV}{J':Sto}(h:opA E (.makeSlice t x y) Rr tm J=some (v,J')):
  ∃sz l c A,v=.sr (nx J) 0 sz l c/\J'=J.new (.cells A)/\∀U,opA E (.makeSlice t x y) Rr tm U=some (.sr (nx U) 0 sz l c,U.new (.cells A)):=by
 simp only[opA,Aw]at h⊢
 repeat' split at h
 all_goals try (cases h;done)
 all_goals
  unfold Nz at h⊢
  split at h
  ·rename_i l c hl hc
   cases hb:(Nat.ble l c&&Nat.ble (c*(_+1)) sizeLim)with
   |false=>rw[hb]at h;cases h
   |true=>rw[hb]at h;cases h;exact⟨_,_,_,_,rfl,rfl,fun U=>by simp only[hb,cond_true]⟩
  ·cases h
def Da(C:Ctx)(n a b:Nat):Ctx:={ C with loc:=fun x=>if x=n+2 then C.loc a else if x=n+3 then C.loc b else if x=n∨x=n+1 then none else C.loc x }
def FA(s:Option (Nat×Nat×Option Nat))(a:Nat):AV:=match s with|none=>.pr a 0|some (sz,l,c)=>.sr a 0 sz l c
theorem A7g{s:Option (Nat×Nat×Option Nat)}{C C':Ctx}{N N':Nat}{w:World}{a a':Nat}{v:Value}(h:R C N w (FA s a) v)(hl:C'.loc a'=C.loc a)(hn:a'<N'):R C' N' w (FA s a') v:=by
 rcases s with _|⟨sz,l,c⟩
 ·unfold FA R at h⊢;obtain⟨ad,q1,q2,q3⟩:=h
  exact⟨ad,q1,hn,fun c o hc=>q3 c o (by rw[←hl];exact hc)⟩
 ·unfold FA R at h⊢;obtain⟨ad,k,q1,q2,q3,q4,q5⟩:=h
  exact⟨ad,k,q1,hn,q3,q4,fun c o hc=>q5 c o (by rw[←hl];exact hc)⟩
theorem Conv.rename{A B:List AV}{a b:Nat}{aC V:Nat->AV}{ρ:Sto}(hab:(a=nx J/\b=nx J+1)∨(a=nx J+1/\b=nx J))(hn:nx U=nx J+2)(hr:nx ρ=nx J+4)
  (ha:U.get a=some (.cells A))(hb:U.get b=some (.cells B))
  (hg:∀x,ρ.get x=if x=nx J+3 then some (.cells B)else if x=nx J+2 then some (.cells A)else if x=nx J∨x=nx J+1 then none else U.get x)
  (hU:∀x,aC x=V x∨(∃s,aC x=FA s a/\V x=FA s (nx J+2))∨(∃s,aC x=FA s b/\V x=FA s (nx J+3))):Conv E aC U V ρ:=by
 intro C w h
 have l2:(Da C (nx J) a b).loc (nx J+2)=C.loc a:=by simp[Da]
 have l3:(Da C (nx J) a b).loc (nx J+3)=C.loc b:=by simp[Da]
 have l0:∀x,x=nx J∨x=nx J+1->(Da C (nx J) a b).loc x=none:=fun x hx=>by
  simp only[Da];rw[if_neg Om,if_neg Om,if_pos hx]
 have lo:∀x,x≠nx J+2->x≠nx J+3->¬(x=nx J∨x=nx J+1)->(Da C (nx J) a b).loc x=C.loc x:=fun x h1 h2 h3=>by
  simp only[Da];rw[if_neg h1,if_neg h2,if_neg h3]
 have back:∀x p,(Da C (nx J) a b).loc x=some p->∃y,C.loc y=some p:=fun x p hx=>by
  by_cases h1:x=nx J+2
  ·subst h1;rw[l2]at hx;exact⟨a,hx⟩
  ·by_cases h2:x=nx J+3
   ·subst h2;rw[l3]at hx;exact⟨b,hx⟩
   ·by_cases h3:x=nx J∨x=nx J+1
    ·rw[l0 x h3]at hx;cases hx
    ·rw[lo x h1 h2 h3]at hx;exact⟨x,hx⟩
 have mw:∀x p,nx U<=x->C.loc x=some p->False:=fun x p hx hl=>by
  obtain⟨O,h1,_⟩:=h.dom x p hl;have:=h.bound x O h1;omega
 have e:Ext C (nx U) w (Da C (nx J) a b) (nx ρ) w:=⟨by omega,nl,
  fun q _ ho=>⟨fun hh=>hh.elim (fun hr=>ho (.inl hr)) fun⟨x,o,hx⟩=>by
   obtain⟨y,hy⟩:=back x _ hx;exact ho (.inr ⟨y,o,hy⟩),rfl⟩,
  fun x hx p hp=>by
   by_cases h3:x=nx J∨x=nx J+1
   ·rw[l0 x h3]at hp;cases hp
   ·rw[lo x Om Om h3]at hp;exact hp,
  fun _ _=>rfl,fun _ _=>rfl,fun _ _ _ _ _=>rfl,⟨rfl,fun _ _=>rfl⟩,rfl,rfl⟩
 have cells:∀y D,U.get y=some (.cells D)->∀x,(Da C (nx J) a b).loc x=C.loc y->OR E.P (Da C (nx J) a b) w ρ x (.cells D):=fun y D hy x hx=>by
  obtain⟨c,o,cs,T,h1,h2,h3⟩:=h.obj y _ hy
  exact⟨c,o,cs,T,by rw[hx];exact h1,h2,gg_ e c rfl D o h3⟩
 refine⟨Da C (nx J) a b,⟨fun x X hx=>?_,fun x X hx=>?_,fun x p hp=>?_,fun x y c o o' hx hy=>?_,fun x c o hx=>?_,h.rlt,fun x c o hx hr'=>?_⟩,e,fun i x hx=>?_⟩
 ·rw[hg]at hx
  by_cases h1:x=nx J+3
  ·rw[if_pos h1]at hx;cases hx;subst h1;exact cells b B hb _ l3
  ·rw[if_neg h1]at hx
   by_cases h2:x=nx J+2
   ·rw[if_pos h2]at hx;cases hx;subst h2;exact cells a A ha _ l2
   ·rw[if_neg h2]at hx
    by_cases h3:x=nx J∨x=nx J+1
    ·rw[if_pos h3]at hx;cases hx
    ·rw[if_neg h3]at hx;refine(h.obj x X hx).ext e (h.bound x X hx) (lo x h2 h1 h3) (fun _ _ _=>rfl) fun m hm kt es' v' hg'=>?_
     rw[hg,if_neg Om,if_neg Om]at hg'
     by_cases h4:m=nx J∨m=nx J+1
     ·rw[if_pos h4]at hg';cases hg'
     ·rw[if_neg h4]at hg';exact⟨kt,es',v',hg',nl,fun _=>⟨lo m Om Om h4,fun _ _ _=>rfl⟩⟩
 ·rw[hg]at hx
  by_cases h1:x=nx J+3
  ·omega
  ·rw[if_neg h1]at hx
   by_cases h2:x=nx J+2
   ·omega
   ·rw[if_neg h2]at hx
    by_cases h3:x=nx J∨x=nx J+1
    ·rw[if_pos h3]at hx;cases hx
    ·rw[if_neg h3]at hx;have:=h.bound x X hx;omega
 ·by_cases h1:x=nx J+3
  ·exact⟨.cells B,by rw[hg,if_pos h1],rfl⟩
  ·by_cases h2:x=nx J+2
   ·exact⟨.cells A,by rw[hg,if_neg h1,if_pos h2],rfl⟩
   ·by_cases h3:x=nx J∨x=nx J+1
    ·rw[l0 x h3]at hp;cases hp
    ·rw[lo x h2 h1 h3]at hp;obtain⟨O,k1,k2⟩:=h.dom x p hp
     exact⟨O,by rw[hg,if_neg h1,if_neg h2,if_neg h3];exact k1,k2⟩
 ·have key:∀x p,(Da C (nx J) a b).loc x=some p->(x=nx J+2/\C.loc a=some p)∨(x=nx J+3/\C.loc b=some p)∨(C.loc x=some p/\x<nx J):=fun x p hx=>by
   by_cases h1:x=nx J+2
   ·subst h1;rw[l2]at hx;exact .inl ⟨rfl,hx⟩
   ·by_cases h2:x=nx J+3
    ·subst h2;rw[l3]at hx;exact .inr (.inl ⟨rfl,hx⟩)
    ·by_cases h3:x=nx J∨x=nx J+1
     ·rw[l0 x h3]at hx;cases hx
     ·rw[lo x h1 h2 h3]at hx;refine .inr (.inr ⟨hx,?_⟩)
      rcases Nat.lt_or_ge x (nx U)with hlt|hge
      ·omega
      ·exact(mw x p hge hx).elim
  rcases key x _ hx with⟨e1,k1⟩|⟨e1,k1⟩|⟨k1,e1⟩<;>rcases key y _ hy with⟨e2,k2⟩|⟨e2,k2⟩|⟨k2,e2⟩<;>have:=h.inj _ _ _ _ _ k1 k2<;>omega
 ·obtain⟨y,hy⟩:=back x _ hx;exact h.lt y c o hy
 ·obtain⟨y,hy⟩:=back x _ hx;exact h.rdis y c o hy hr'
 ·rcases hU i with h1|⟨s,h1,h2⟩|⟨s,h1,h2⟩
  ·rw[←h1];exact R.ext e _ _ hx
  ·rw[h1]at hx;rw[h2];exact A7g hx l2 Om
  ·rw[h1]at hx;rw[h2];exact A7g hx l3 Om
theorem Tr.put_mkL{α:Type}{f k:Nat}{x:Option α}{v:Option α}{l r:Tr α}:Tr.mkL v l r=.n v l r:=by cases l<;>rfl
theorem Tr.put_mkR{α:Type}{v:Option α}{l r:Tr α}:Tr.mkR v l r=.n v l r:=by cases r<;>rfl
theorem Tr.put_comm{α:Type}:∀(f g:Nat) (t:Tr α) (a b:Nat) (x y:Option α),a≠b->a<f->b<g->(t.put f a x).put g b y=(t.put g b y).put f a x
 |0,_,_,_,_,_,_,_,h,_=>by omega
 |_+1,0,_,_,_,_,_,_,_,h=>by omega
 |f+1,g+1,t,a,b,x,y,hne,ha,hb=>by
  have mz:∀{c d:Nat},c+1<d+1->c / 2<d:=fun h=>by omega
  cases a with
  |zero=>
   cases b with
   |zero=>exact absurd rfl hne
   |succ b=>
    cases hb2:Nat.beq (b%2) 0<;>cases t<;>simp only[Tr.put,hb2,cond_true,cond_false,Tr.put_mkL (f:=0) (k:=0) (x:=none),Tr.put_mkR]
  |succ a=>
   cases b with
   |zero=>
    cases ha2:Nat.beq (a%2) 0<;>cases t<;>simp only[Tr.put,ha2,cond_true,cond_false,Tr.put_mkL (f:=0) (k:=0) (x:=none),Tr.put_mkR]
   |succ b=>
    have hd:Nat.beq (a%2) 0=Nat.beq (b%2) 0->a / 2≠b / 2:=fun h he=>by
     have h1:a%2=0↔b%2=0:=⟨fun q=>ac_ (by rw[←h,q];rfl),fun q=>ac_ (by rw[h,q];rfl)⟩
     omega
    cases ha2:Nat.beq (a%2) 0<;>cases hb2:Nat.beq (b%2) 0<;>cases t<;>simp only[Tr.put,ha2,hb2,cond_true,cond_false,Tr.put_mkL (f:=0) (k:=0) (x:=none),Tr.put_mkR]
    all_goals try rfl
    all_goals rw[Tr.put_comm f g _ _ _ x y (hd (by rw[ha2,hb2])) (mz ha) (mz hb)]
theorem Sto.set_comm{a b:Nat}{x y:AO}(h:a≠b):(J.set a x).set b y=(J.set b y).set a x:=by
 cases J;simp only[Sto.set,Ef];rw[Tr.put_comm _ _ _ _ _ _ _ h (bl_ _) (bl_ _)]
theorem Abc{t:Nat}{x y:Operand}{v:AV}{J':Sto}{a off:Nat}(hx:opd E tm x=.pr a off)(h:opA E (.store t x y) Rr tm J=some (v,J')):
  v=An/\∃vs D,J.get a=some (.cells vs)/\J'=J.set a (.cells D)/\∀U,U.get a=some (.cells vs)->opA E (.store t x y) Rr tm U=some (An,U.set a (.cells D)):=by
 simp only[opA,Aw]at h⊢
 split at h
 ·rename_i ti hti
  rw[hx]at h;unfold Wc at h
  split at h
  ·rename_i a' off' l hp hl
   cases hp
   split at h
   ·rename_i vs hvs
    split at h
    ·rename_i D hD
     cases h
     have hg:J.get a=some (.cells vs):=by
      unfold Sto.cells at hvs
      split at hvs
      ·rename_i us hus;cases hvs;exact hus
      ·cases hvs
     refine⟨rfl,vs,D,hg,rfl,fun U hτ=>?_⟩
     rw[hx];unfold Wc;simp only[hl,Sto.cells,hτ,hD]
    ·cases h
   ·cases h
  ·cases h
 ·cases h
end
end Go.AM
