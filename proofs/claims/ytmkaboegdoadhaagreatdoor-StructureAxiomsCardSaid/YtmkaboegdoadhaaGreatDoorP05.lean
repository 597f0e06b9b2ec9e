/- A part of the proof; shortened by program. -/
import Derived.Scope
import Derived.Defers
import Derived.RangeFuncIn
import Derived.RangeFuncRecord
import Derived.RangeFuncLeaves
import Derived.OrdersIn
import Derived.TacticsIn
import Derived.Test.YtmkaboegdoadhaaGreatDoorP04
set_option maxRecDepth 100000
set_option maxHeartbeats 4000000
set_option linter.all false
namespace Go.AM
open Go
section
variable {P:Program}{C C':aO}{N N':Nat}{w w':World}{J J':F}
def S5(P:Program)(C:aO)(w:World)(J:F)(s:Sem Next)(v:I)(q:F):Prop:=
 ∃x a b,(s.run P w=.ok (.value x) a\/(s.run P w=.ok .skip a/\x=undef))/\R b (O q) a v x/\aX P b a q/\bC C (O J) w b (O q) a
theorem S5.ofRuns{s v}(h:Iv P C w J s v J'):S5 P C w J (do pure (.value (<-s))) v J':=by
 obtain⟨y,x,f,a,b,rfl,c,d,e⟩:=h
 exact⟨y,f,a,.inl (by simp[b]),e,c,d⟩
theorem S5.ofPure(j:aX P C w J){s v}(h:J'=J/\Dz P C (O J) w s v):S5 P C w J (do pure (.value (<-s))) v J':=by
 obtain⟨rfl,h⟩:=h;exact .ofRuns (h.runs j)
theorem S5.ofUnit{s v}(h:v=An/\∃a,s.run P w=.ok () a/\aX P C a J'/\bC C (O J) w C (O J') a):S5 P C w J (do s;pure .skip) v J':=by
 obtain⟨rfl,a,b,c,d⟩:=h
 refine⟨undef,a,C,.inr ⟨by simp[b],rfl⟩,?_,c,d⟩
 unfold An R;exact⟨#[],rfl,by unfold RL;trivial⟩
theorem S5.ofTuple{s v}(h:v=An/\∃a,s.run P w=.ok (.tuple #[]) a/\aX P C a J'/\bC C (O J) w C (O J') a):S5 P C w J (do pure (.value (<-s))) v J':=by
 obtain⟨rfl,a,b,c,d⟩:=h
 refine⟨.tuple #[],a,C,.inl (by simp[b]),?_,c,d⟩
 unfold An R;exact⟨#[],rfl,by unfold RL;trivial⟩
theorem π{E n}{a:Act}(H:Iw C N w E)(m:TR C N w n a.tmps)(x):RO C N w (opdO E n x) (x.map a.eval):=by
 cases x with
 |none=>simp only[opdO,CD];unfold RO;trivial
 |some x=>simp only[opdO,mH];unfold RO;exact Be H m x
theorem UN(j:aX P C w J){E}(hE:E.P=P){b}{t:TypeId}{ti}(r:Ay P t=some ti){ts:List TypeId}{x X xs N}
  (W:R C (O J) w x X)(f:RL C (O J) w xs N){v}(h:Ee E b ti ts x xs J=some (v,J'))(ty L):
  S5 P C w J (builtin b (t::ts).toArray ty L (X::N).toArray) v J':=by
 subst hE;obtain⟨i,d,g1,U,g3,g4,_⟩:=Ap r
 have g:∀(s s':Sem Value),(∀w,s.run E.P w=s'.run E.P w)->S5 E.P C w J (do pure (.value (<-s'))) v J'->S5 E.P C w J (do pure (.value (<-s))) v J':=by
  rintro s s' he ⟨y,w',C',B,h2⟩;refine⟨y,w',C',?_,h2⟩;simp only[Sem.run_bind]at B⊢
  grind
 cases b<;>simp only[Ee]at h
 case len=>
  split at h
  ·rename_i e l
   refine .ofPure j ?_
   have m:=U.trans (by rw[<-g3,l])
   unfold nK at h
   split at h
   ·cases h;unfold R at W;obtain⟨ad,k,rfl,_⟩:=W
    exact⟨rfl,_,by simp[Builtin.len_,Aa m];rfl,by unfold goInt R;rfl⟩
   ·cases h;unfold R at W;obtain⟨ad,k,rfl,_⟩:=W
    exact⟨rfl,_,by simp[Builtin.len_,Aa m];rfl,by unfold goInt R;rfl⟩
   ·cases h;unfold R at W;obtain⟨rfl,_⟩:=W
    exact⟨rfl,_,by simp[Builtin.len_,Aa m];rfl,by unfold goInt R;rfl⟩
   grind
  ·rename_i l
   refine .ofPure j ?_
   have m:=U.trans (by rw[<-g3,l])
   unfold Zt at h
   split at h
   ·rw[Ak]at h;cases h;unfold R at W;obtain⟨s,rfl,rfl⟩:=W
    exact⟨rfl,_,by simp[Builtin.len_,Aa m];rfl,by unfold goInt R;rw[Fg];rfl⟩
   grind
  ·rename_i kt et l
   have:=Yg (ty:=ty) j r l W h;refine g _ (Builtin.len_ #[t] ty #[X]) (λw=>?_) (.ofPure j this)
   simp[Builtin.len_]
  ·rename_i n e l
   refine .ofPure j ?_
   have m:=U.trans (by rw[<-g3,l])
   cases h
   exact⟨rfl,_,by simp[Builtin.len_,Aa m];rfl,by unfold goInt R;rfl⟩
  ·cases h
 case cap=>
  split at h
  ·rename_i e l
   refine .ofPure j ?_
   have m:=U.trans (by rw[<-g3,l])
   unfold Kj at h
   split at h
   ·rename_i q
    cases h;unfold R at W;obtain⟨ad,k,rfl,_,_,hq,_⟩:=W;have:=hq _ rfl;subst this
    exact⟨rfl,_,by simp[Builtin.cap_,Aa m];rfl,by unfold goInt R;rfl⟩
   ·cases h;unfold R at W;obtain⟨ad,k,rfl,_,hq,_⟩:=W;have:=hq _ rfl;subst this
    exact⟨rfl,_,by simp[Builtin.cap_,Aa m];rfl,by unfold goInt R;rfl⟩
   ·cases h;unfold R at W;obtain⟨rfl,_⟩:=W
    exact⟨rfl,_,by simp[Builtin.cap_,Aa m];rfl,by unfold goInt R;rfl⟩
   grind
  ·cases h
 case clear=>
  split at h
  ·rename_i kt et l
   have:=Yq (ty:=ty) j r l W h;refine g _ (Builtin.clear_ #[t] ty #[X]) (λw=>?_) (.ofTuple this)
   simp[Builtin.clear_]
  ·rename_i e l
   split at h
   ·rename_i te o
    split at h
    ·rename_i ac hz
     split at h
     ·rename_i S
      have:=WW (ty:=ty) j r l o hz (bK S) W h;refine g _ (Builtin.clear_ #[t] ty #[X]) (λw=>?_) (.ofTuple this)
      simp[Builtin.clear_]
     grind
    grind
   grind
  ·cases h
 case append=>
  split at h
  ·rename_i e t2 aa y ys l
   have m:=U.trans (by rw[<-g3,l])
   cases N with
   |nil=>unfold RL at f;exact f.elim
   |cons G K=>
    unfold RL at f
    have T:∀w,(Builtin.append_ (t::t2::aa).toArray ty (X::G::K).toArray).run E.P w=(Builtin.append_ #[t,t2] ty #[X,G]).run E.P w:=λw=>by simp[Builtin.append_]
    split at h
    ·rename_i te tx o a8
     obtain⟨_,dx,_,gx,Q,_⟩:=Ap a8
     split at h
     ·rename_i ac hz
      split at h
      ·rename_i S
       have S:=bK S
       split at h
       ·rename_i e2 p
        exact g _ _ T (.ofRuns (So j m o hz S (gx.trans (by rw[<-Q,p])) Z W f.1 h))
       ·rename_i p
        exact g _ _ T (.ofRuns (So j m o hz S (gx.trans (by rw[<-Q,p])) Z W f.1 h))
       ·rename_i k p
        exact g _ _ T (.ofRuns (Aau j m o hz S (gx.trans (by rw[<-Q,p])) W f.1 h))
       grind
      grind
     grind
    ·cases h
  ·cases h
 case copy=>
  split at h
  ·rename_i e y ys l
   have m:=U.trans (by rw[<-g3,l])
   cases N with
   |nil=>unfold RL at f;exact f.elim
   |cons G K=>
    unfold RL at f
    split at h
    ·rename_i te o
     refine g _ (Builtin.copy_ #[t,t] ty #[X,G]) (λw=>?_) (.ofRuns (Ah3 j m o W f.1 h))
     simp[Builtin.copy_]
    ·cases h
  ·cases h
 case delete=>
  split at h
  ·rename_i kt et y ys l
   cases N with
   |nil=>unfold RL at f;exact f.elim
   |cons G K=>
    unfold RL at f;refine g _ (Builtin.delete_ #[t,t] ty #[X,G]) (λw=>?_) (.ofTuple (Tw j r l f.1 W h))
    simp[Builtin.delete_]
  ·cases h
 case min=>
  split at h
  ·rename_i y
   cases N with
   |nil=>unfold RL at f;exact f.elim
   |cons G K=>
    unfold RL at f;have hY:K=[]:=zo f.2;subst hY;unfold Xm at h
    split at h
    ·rename_i k a k' b
     cases hb:Ed k k'
     ·grind
     ·simp only[hb,cond_true,bH,cE]at h;obtain⟨rfl,rfl⟩:=h;unfold R at W;subst W;have B:=f.1;unfold R at B;subst B
      refine .ofPure j ⟨rfl,.int k (xq a b),?_,by unfold R;rfl⟩
      simp only[Builtin.min_,List.foldlM_cons,List.foldlM_nil,Sem.run_bind];simp only[Builtin.min2,Sem.run_pure,Result.andThen_ok,xq,Ec]
      grind
    ·cases h
  ·cases h
 case max=>
  split at h
  ·rename_i y
   cases N with
   |nil=>unfold RL at f;exact f.elim
   |cons G K=>
    unfold RL at f;have hY:K=[]:=zo f.2;subst hY;unfold Xm at h
    split at h
    ·rename_i k a k' b
     cases hb:Ed k k'
     ·grind
     ·simp only[hb,cond_true,bH,cE]at h;obtain⟨rfl,rfl⟩:=h;unfold R at W;subst W;have B:=f.1;unfold R at B;subst B
      refine .ofPure j ⟨rfl,.int k (Ll a b),?_,by unfold R;rfl⟩
      simp only[Builtin.max_,List.foldlM_cons,List.foldlM_nil,Sem.run_bind];simp only[Builtin.max2,Sem.run_pure,Result.andThen_ok,Ll,Ec]
      grind
    ·cases h
  ·rename_i y ac
   cases N with
   |nil=>unfold RL at f;exact f.elim
   |cons G K=>
    unfold RL at f;cases K with
    |nil=>have h2:=f.2;unfold RL at h2;exact h2.elim
    |cons ae Zs=>
    have h3:=f.2;unfold RL at h3;have hZ:Zs=[]:=zo h3.2;subst hZ;unfold zr at h
    split at h
    ·rename_i k a k' b a9 c
     cases hb:(Ed k k'&&Ed k a9)
     ·grind
     ·simp only[hb,cond_true,bH,cE]at h;obtain⟨rfl,rfl⟩:=h;unfold R at W;subst W;have B:=f.1;unfold R at B;subst B;have h4:=h3.1;unfold R at h4;subst h4
      refine .ofPure j ⟨rfl,.int k (Ll (Ll a b) c),?_,by unfold R;rfl⟩
      simp only[Builtin.max_,List.foldlM_cons,List.foldlM_nil,Sem.run_bind]
      have m2:∀(q:IntKind) (x y:Int) (u:World),Sem.run E.P (Builtin.max2 (.int k x) (.int q y)) u=.ok (.int k (Ll x y)) u:=λq x y u=>by
       simp only[Builtin.max2,Ll,Ec]
       by_cases a7:y<=x
       ·rw[if_neg z];simp[a7]
       ·rw[if_pos z];simp[a7]
      simp only[m2,Result.andThen_ok,Sem.run_pure]
    ·cases h
  ·cases h
 all_goals (cases h)
theorem Kl(a:Act)(k:Array (Nat×Operand)):(k.map λ(i,x)=>(i,a.eval x)).toList=k.toList.map λ(i,x)=>(i,a.eval x):=by simp
theorem SN(j:aX P C w J){E}(hE:E.P=P){tm}{a:Act}(H:Iw C (O J) w E)(X:TR C (O J) w tm a.tmps){o v}(h:Aw E o.op tm J=some (v,J')):
  S5 P C w J (execOp a.eval o) v J'/\(∀x w',(execOp a.eval o).run P w≠.ok x w'\/(∃y,x=.value y)\/x=.skip):=by
 have af:S5 P C w J (execOp a.eval o) v J':=by
  subst hE;obtain⟨aa,op,ty,ah,N,Q⟩:=o;have q:=λx=>Be H X x
  have W:=λx=>π H X x
  cases op<;>simp only[Aw]at h<;>try (cases h;done)
  case move x=>unfold pS at h;cases h;exact⟨_,w,C,.inl rfl,q x,j,dJ _ _ _⟩
  case assign x=>unfold pS at h;cases h;exact⟨_,w,C,.inl rfl,q x,j,dJ _ _ _⟩
  case pick c x y=>
   have hc:=q c;unfold sJ at h
   split at h
   ·rename_i S;rw[S]at hc;unfold R at hc
    cases h
    exact⟨_,w,C,.inl (by simp[execOp,hc,asBool]),q x,j,dJ _ _ _⟩
   ·rename_i S;rw[S]at hc;unfold R at hc
    cases h
    exact⟨_,w,C,.inl (by simp[execOp,hc,asBool]),q y,j,dJ _ _ _⟩
   ·cases h
  case nilCheck x=>
   obtain⟨rfl,h1,h2⟩:=Ym (q x) h aa x a.eval rfl ty ah N Q;exact⟨_,w,C,.inl h1,h2,j,dJ _ _ _⟩
  case alloc t=>
   split at h
   ·rename_i G g
    split at h
    ·rename_i a9 K;exact .ofRuns (Agc j g K h)
    grind
   ·cases h
  case box t x=>
   split at h
   ·rename_i G g;exact .ofRuns (Zp j (q x) h)
   ·cases h
  case build t a8=>
   split at h
   ·rename_i G g
    split at h
    ·rename_i a9 fs K B
     split at h
     ·rename_i ps hi am
      obtain⟨pl,ar,aq⟩:=N8 hi;refine .ofPure j (Uf g B K hi (place:=(pl.toArray[·]?)) Z (ps:=ps) ?_ h);rw[Kl];exact Sk rfl H X Z am
     grind
    ·rename_i a9 n e K B
     split at h
     ·rename_i L p
      refine .ofPure j (Zc g B p K ?_ h);rw[Kl];exact M3 H X _ _
     grind
    grind
   ·cases h
  case buildSlice t ag a8=>
   split at h
   ·rename_i G g
    split at h
    ·rename_i e B
     split at h
     ·rename_i L p
      split at h
      ·rename_i a9 K
       split at h
       ·rename_i U
        rw[bg]at U;refine .ofRuns (Ug j g B p K (bK U.2) (dB U.1) ?_ h).1;rw[Kl];exact M3 H X _ _
       grind
      grind
     grind
    grind
   ·cases h
  case load t x=>
   split at h
   ·rename_i G g;exact .ofPure j (P1 j g (q x) h)
   ·cases h
  case store t x y=>
   split at h
   ·rename_i G g
    obtain⟨h1,w',h2,h3,h4⟩:=YH j g (q x) (q y) h;exact .ofUnit ⟨h1,w',h2,h3,Z⟩
   ·cases h
  case binOp op t x y _=>
   unfold Sx at h
   split at h
   ·rename_i u hu;cases h;exact .ofPure j ⟨rfl,XL (q x) (q y) hu⟩
   ·cases h
  case unOp op t x=>
   unfold Sx at h
   split at h
   ·rename_i u hu;cases h;exact .ofPure j ⟨rfl,UC (q x) hu⟩
   ·cases h
  case convert s d x=>
   split at h
   ·rename_i ts td ae an
    obtain⟨_,ds,_,s2,s3,_⟩:=Ap ae;obtain⟨_,dd,_,d2,d3,_⟩:=Ap an
    split at h
    ·rename_i k B;exact .ofPure j (Aar s2 (d2.trans Z) (q x) h)
    ·rename_i k B;exact .ofPure j (WI s2 (d2.trans Z) (q x) h)
    ·rename_i B
     split at h
     ·rename_i ac;exact .ofPure j (XR s2 (d2.trans Z) (q x) h)
     ·rename_i e ac
      split at h
      ·rename_i L p
       obtain⟨_,de,_,e2,e3,_⟩:=Ap p
       split at h
       ·rename_i aj;exact .ofPure j (S2 j (s2.trans Z) (d2.trans Z) (e2.trans Z) (q x) h)
       grind
      grind
     grind
    ·rename_i e B
     split at h
     ·rename_i L ac p
      obtain⟨_,de,_,e2,e3,_⟩:=Ap p
      split at h
      ·rename_i aj;exact .ofRuns (S3 j (s2.trans Z) (d2.trans Z) (e2.trans Z) (q x) h).2
      grind
     grind
    grind
   ·cases h
  case makeInterface t x=>
   split at h
   ·rename_i G g
    obtain⟨_,d,_,g2,g3,_⟩:=Ap g
    split at h
    ·cases h
    ·rename_i B
     unfold pZ at h;cases h
     refine .ofPure j ⟨rfl,.iface t (a.eval x),?_,by unfold R;grind⟩
     have ak:∀m,d≠.interface m:=λm hm=>B m (g3.trans hm)
     unfold Instr.makeInterface;simp only[Sem.run_bind,Aa g2,Result.andThen_ok]
     cases d<;>first|rfl|exact absurd rfl (ak _)
   ·cases h
  case makeFunc f first ai=>
   unfold yW at h;cases h;refine .ofPure j ⟨rfl,.func f (first.map a.eval) (ai.map a.eval),rfl,?_⟩;unfold R;refine⟨_,_,rfl,?_,?_⟩
   ·rw[c_];exact Dm H X _
   ·rw[c_];exact Dm H X _
  case makeMap t r=>
   split at h
   ·rename_i G g
    split at h
    ·rename_i B;exact .ofRuns (Aa0 j h)
    ·rename_i B;exact .ofRuns (Yt j g B (q _) h)
    grind
   ·cases h
  case makeSlice t l c=>
   split at h
   ·rename_i G g
    split at h
    ·rename_i e B
     split at h
     ·rename_i L p
      split at h
      ·rename_i a9 K
       split at h
       ·rename_i U;exact .ofRuns (Wm j g B p K (bK U) (q l) (q c) h)
       grind
      grind
     grind
    grind
   ·cases h
  case slice t x lo hi mx=>
   split at h
   ·rename_i G g
    split at h
    ·rename_i B
     split at h
     ·exact .ofPure j (Yl g B (q x) (W lo) (W hi) h)
     grind
    ·rename_i e B
     split at h
     ·rename_i L p;exact .ofPure j (WJ g B p (q x) (W lo) (W hi) (W mx) h)
     grind
    ·rename_i n e B
     split at h
     ·rename_i L p
      refine .ofPure j (Yn g B p (q x) (λb vs U al=>?_) (W lo) (W hi) (W mx) h)
      obtain⟨c,o',cs,T,k1,k2,k3⟩:=j.obj b _ U;exact⟨c,o',k1,k3.room al⟩
     grind
    grind
   ·cases h
  case fieldAddr t x i=>
   split at h
   ·rename_i G g
    split at h
    ·rename_i fs B
     split at h
     ·rename_i f hf
      split at h
      ·rename_i tf a7
       split at h
       ·cases h
       ·rename_i n hn
        unfold xV at h
        split at h
        ·rename_i u hu;cases h;exact .ofPure j ⟨rfl,TH g B hf a7 Z (q x) hu⟩
        grind
      grind
     grind
    grind
   ·cases h
  case field t x i=>
   split at h
   ·rename_i G g
    split at h
    ·rename_i fs B
     split at h
     ·rename_i f hf
      split at h
      ·rename_i tf a7
       have hx:=q x;unfold vJ at h
       split at h
       ·rename_i cs S
        rw[S]at hx
        split at h
        ·rename_i u hu;cases h;exact .ofPure j ⟨rfl,XP g B hf a7 hx hu⟩
        grind
       grind
      grind
     grind
    grind
   ·cases h
  case indexAddr t x i=>
   split at h
   ·rename_i G g
    split at h
    ·rename_i e B
     split at h
     ·rename_i L p;exact .ofPure j (Wl g B p (q x) (q i) h)
     grind
    ·rename_i ag e B
     split at h
     ·rename_i L p;exact .ofPure j (Sa g B p (q x) (q i) h)
     grind
    grind
   ·cases h
  case index t x i=>
   split at h
   ·rename_i G g
    split at h
    ·rename_i B;exact .ofPure j (Yj g B (q x) (q i) h)
    ·rename_i ag e B
     split at h
     ·rename_i L p;exact .ofPure j (Yo g B p (q x) (q i) h)
     grind
    grind
   ·cases h
  case lookup t m k ok=>
   split at h
   ·rename_i G g
    split at h
    ·rename_i kt et B
     split at h
     ·rename_i L p
      split at h
      ·rename_i a9 K;exact .ofPure j (Adp j g B p K (q k) (q m) h)
      grind
     grind
    grind
   ·cases h
  case mapUpdate t m k x=>
   split at h
   ·rename_i G g
    split at h
    ·rename_i kt et B
     split at h
     ·rename_i L p;exact .ofUnit (Wo j g B (q k) (q m) (q x) h)
     grind
    grind
   ·cases h
  case mapEntry t m k=>
   split at h
   ·rename_i G g
    split at h
    ·rename_i kt et B
     split at h
     ·rename_i L p
      split at h
      ·rename_i a9 K;exact .ofRuns (Yr j g B p K (q k) (q m) h)
      grind
     grind
    grind
   ·cases h
  case entryStore t m st x=>
   split at h
   ·rename_i G g
    split at h
    ·rename_i kt et B
     split at h
     ·rename_i L p;exact .ofUnit (Uj j (q m) (q st) (q x) h)
     grind
    grind
   ·cases h
  case range t x=>
   split at h
   ·rename_i G g
    split at h
    ·rename_i kt et B;exact .ofRuns (Agi j g B (q x) h)
    grind
   ·cases h
  case entry x=>exact .ofPure j (TU j (q x) h)
  case extract x i=>exact .ofPure j (Zn (q x) h)
  case typeAssert x xt t ok=>
   split at h
   ·rename_i G g
    split at h
    ·cases h
    ·rename_i B;exact .ofPure j (WD g (λm hm=>B m hm) (q x) h)
   ·cases h
  case call c=>
   split at h
   ·rename_i b U
    split at h
    ·rename_i t ts x xs ae ao
     split at h
     ·rename_i G g
      obtain⟨cs,e⟩:∃cs,execOp a.eval ⟨aa,.call c,ty,ah,N,Q⟩=builtin b c.argTypes ty cs (c.args.map a.eval):=⟨_,by simp only[execOp,resolve,U];rfl⟩
      rw[e];have:=UN j rfl g (q x) (Dm H X xs) h ty cs;have e1:(t::ts).toArray=c.argTypes:=Z
      have e2:(a.eval x::xs.map a.eval).toArray=c.args.map a.eval:=by apply Wp;rw[c_,ao];rfl
      grind
     grind
    grind
   ·cases h
 refine⟨af,λx w'=>?_⟩
 obtain⟨y,ap,_,h1,_⟩:=af
 grind
end
def MB(C:aO)(N:Nat)(r:List (Nat×List I))(m:Nat):Prop:=∀x∈r,x.1=Ks->∀a b,x.2=[.yl a,.yl b]->a<N/\(C.stm a).toNat<m
def DR(C:aO)(N:Nat)(w:World):List (Nat×List I)->List Deferred->Prop
 |[],[]=>True
 |x::r,d::s=>((x.1≠Ks/\∃c,d.target=.fn (.func x.1) c/\RL C N w x.2 (d.args++c).toList)\/
   (x.1=Ks/\∃a b,x.2=[.yl a,.yl b]/\(a<N/\b<N/\(C.stm b).toNat<=(C.stm a).toNat)/\d={ target:=.collected (C.stm a).toNat,args:=#[] }/\¬C.own (C.stm a).toNat/\w.heap[(C.stm a).toNat]? =some (.deferred (some []))/\MB C N r (C.stm a).toNat))/\DR C N w r s
 |_,_=>False
structure cV (E:aZ)(C:aO)(w:World)(s:St)(a:Act):Prop where
 sim:aX E.P C w s.sto
 glob:Iw C (O s.sto) w E
 tmps:TR C (O s.sto) w s.tm a.tmps
 size:a.tmps.size=s.nt
 dfs:DR C (O s.sto) w s.df a.defers
def yr(P:Program)(f:FuncId):Prop:=∃a, P.funcs[f]? =some a/\(a.name== "runtime.NumGoroutine")=false/\a.body.isNone=false
def xW(P:Program)(C:aO)(N:Nat)(w:World)(v:I)(q:F):Ending->World->Prop
 |.returned x,b=>∃a,aX P a b q/\bC C N w a (O q) b/\R a (O q) b v x
 |_,_=>False
def BU(E:aZ)(f:Nat)(g:List I->F->bW):Prop:=
 ∀(C:aO) (w:World) (J:F) (a:List I) (c:Array Value) (v:I) (b:F),aX E.P C w J->Iw C (O J) w E->RL C (O J) w a c.toList->g a J=some (v,b)->
  yr E.P f/\Calls E.P f c w (xW E.P C (O J) w v b)
def Cy(b:Option Nat):Fence:={ Fence.wide with round:=b }
def V6(E:aZ)(a:Nat)(g:RK):Prop:=
 ∀(C:aO) (w:World) (J:F) (c:List I) (h:Array Value) (v:I) (f:F),aX E.P C w J->Iw C (O J) w E->RL C (O J) w c h.toList->g c J=some (v,f)->
  ∃r b,v=.bool b/\w.heap[(C.stm a).toNat]? =some (.loop (C9 r .ready))/\h.size=r.params.size/\∀k n,RoundIn (Cy k) n E.P (C.stm a).toNat r.fn ((r.params.zip h).foldl (λd (t,a)=>d.setIfInBounds t a) r.tmps) r.assign r.body w λe j=>
   e=.returned (.bool b)/\∃i,aX E.P i j f/\bC C (O J) w i (O f) j
def Fk(f:F->bW):Prop:=∀J a v,f J=some (v,a)->a=J/\∀U,f U=some (v,U)
structure Bk (E:aZ)(Rr:bP):Prop where
 fn:∀f,BU E f (Rr (.fn f))
 yl:∀a,V6 E a (Rr (.yl a))
 pu:∀f,E.pu f=true->∀args,Fk (Rr (.fn f) args)
theorem VB{b n P f J w R}(h:Calls P f J w R):CallsIn (Cy b) n P f J w R:=
 (callsIn_wide (n:=n)).2 h
theorem uC{b n P a J w R}(h:Rows P a J w R):RowsIn (Cy b) n P a J w R:=
 λc d _=>let⟨v,e,r,s⟩:=h c d;⟨v,e,r,stepsIn_wide.2 s⟩
def CP(b:Option Nat)(w:Op):Prop:=b=none\/Ra w=false
theorem Ev{b n P}{o:Oper}{a w next Q}(g:CP b o.op)(h:o.wp P a w next Q):
  o.wpIn (Cy b) n P a w next Q:=by
 refine⟨λ_ _=>trivial,?_⟩
 have k:o.semAt (Cy b).round a.eval=execOp a.eval o:=by
  rcases g with rfl|g
  ·exact Oper.semAt_none _ _
  ·exact Oper.semAt_eq _ _ _ (λc j=>by rw[j]at g;cases g)
 rw[k];unfold Oper.wp at h
 generalize (execOp a.eval o).run P w=r at h
 cases r with
 |ok x l=>
  cases x with
  |value v=>exact h
  |skip=>exact h
  |defer d=>exact h
  |enter f e=>exact⟨λi=>(by cases i),VB h⟩
  |row row e=>exact⟨λi=>(by cases i),uC h⟩
  |round _ _ _ _ _=>exact h.elim
  |_=>exact h.elim
 |halt x l=>
  cases x with
  |panic v=>exact h
  |_=>exact h.elim
section
variable {E:aZ}{C C':aO}{N N':Nat}{w w':World}{Rr:bP}
theorem DR.ext(e:bC C N w C' N' w'):∀{l:List (Nat×List I)} {o:List Deferred},DR C N w l o->DR C' N' w' l o
 |[],[],_=>by unfold DR;trivial
 |x::r,d::s,h=>by
  unfold DR at *;obtain⟨h,k⟩:=h;refine⟨?_,DR.ext e k⟩
  rcases h with⟨i,g,j,f⟩|⟨i,a,b,j,⟨f,q,n⟩,k,u,p,v⟩
  ·exact .inl ⟨i,g,j,f.ext e⟩
  ·obtain⟨G,J⟩:=e.keep _ (iK.1 p).1 u;refine .inr ⟨i,a,b,j,?_⟩;rw[e.stm a f,e.stm b q]
   exact⟨⟨cC f e.next,cC q e.next,n⟩,k,G,J.trans p,λy E B c d m=>let⟨t,K⟩:=v y E B c d m;⟨cC t e.next,by rw[e.stm c t];exact K⟩⟩
 |[],_::_,h=>by unfold DR at h;exact h.elim
 |_::_,[],h=>by unfold DR at h;exact h.elim
theorem TW(a:Act)(v):(a.put none v)=a:=rfl
theorem TR.put{n m}{a:Act}{e b v x}(k:TR C N w n a.tmps)(s:a.tmps.size=e)(h:Ka b n e v=some m)(W:R C N w v x):
  TR C N w m (a.put b x).tmps/\(a.put b x).tmps.size=e/\(a.put b x).defers=a.defers:=by
 cases b with
 |none=>simp only[Ka,bH]at h;subst h;exact⟨k,s,rfl⟩
 |some d=>
  simp only[Ka,Ef]at h;cases f:Nat.blt d e
  ·simp[f]at h
  ·simp only[f,cond_true,bH]at h;subst h;have j:d<e:=dB f
   refine⟨λi y c=>?_,by simp[Act.put,s],rfl⟩
   rw[jL]at c;simp only[Act.put]
   by_cases g:i=d
   ·subst g;rw[if_pos rfl]at c;cases c
    simp[s,j];exact W
   ·rw[if_neg g]at c;have:=k i y c
    simpa[xv (mq g)]using this
theorem cV.put{s a q b v x m}(J:cV E C w s a)(j:aX E.P C' w' q)(e:bC C (O s.sto) w C' (O q) w')(W:R C' (O q) w' v x)(h:Ka b s.tm s.nt v=some m):
  cV E C' w' ⟨m,s.nt,s.df,q⟩ (a.put b x):=by
 obtain⟨c,d,f⟩:=TR.put (J.tmps.ext e) J.size h W
 exact⟨j,J.glob.ext e,c,d,by rw[f];exact J.dfs.ext e⟩
theorem P8:R C N w An undef:=by unfold An R;exact⟨#[],rfl,by unfold RL;trivial⟩
theorem Aqs{x v}(h:R C N w x v)(u:x≠.any)(r:∀b,x≠.bool b)(b):v≠.bool b:=by
 intro a;subst a;cases x<;>unfold R at h
 case any=>exact u rfl
 case bool c=>exact r _ rfl
 case nil y=>obtain⟨rfl,h⟩:=h;simp[Xl]at h
 all_goals first
  |(cases h;done)
  |(obtain⟨_,h,_⟩:=h;cases h;done)
  |(obtain⟨_,_,h,_⟩:=h;cases h;done)
  |(obtain⟨h,_⟩:=h;cases h;done)
theorem Dp{G o n}{a:Act}(m:TR C N w n a.tmps){b}(h:Bn G.toList o n=some b):Region.wanted o (yielded G a.tmps)=b:=by
 unfold Bn at h;unfold Region.wanted
 split at h
 ·grind
 ·rename_i j p H
  rw[H];simp only
  split at h
  ·rename_i u r
   have l:G[j]? =some u:=Z
   split at h
   ·rename_i d v
    have t:∀b,a.tmps[d]? =some (.bool b)->yielded G a.tmps j=some b:=λb c=>by
     unfold yielded;grind
    have k:(∀b,a.tmps[d]? ≠some (.bool b))->yielded G a.tmps j=none:=λc=>by
     unfold yielded
     grind
    split at h
    ·rename_i q e
     cases h;have:=m d _ e;unfold R at this
     have c:a.tmps[d]? =some (.bool q):=by
      cases c:a.tmps[d]? with
      |none=>simp[c,undef]at this
      |some y=>simp[c]at this;rw[this]
     grind
    ·cases h
    ·rename_i x g i e
     cases h;have s:=m d _ e;have f:=Aqs s (λc=>i c) (λb c=>g b c)
     rw[k λb c=>by
      have:=f b;rw[jY,c]at this;exact this rfl]
     rfl
    ·cases h
   ·cases h
  ·cases h
theorem Adu(m x J):invoke (.fn (.method m) #[]) (#[x]++J)=callMethod x m J:=by
 have b:(#[x]++J)[0]? =some x:=Z;have a:(#[x]++J).extract 1 (#[x]++J).size=J:=Z;simp only[invoke,b,a]
theorem Aom(a t X b):Builtin.ssaWrapNilChk_ a t #[.pointer (some X), strVal "", strVal b]=pure (.pointer (some X)):=rfl
theorem WT{J}(j:aX E.P C w J){t:TypeId}{a x X}(W:R C (O J) w x X){f y}(h:EE E t a x J=some (f,y)):
  ∃c,(method (E.P.types.size+Made.depth) t X a).run E.P w=.ok (f,c) w/\R C (O J) w y c:=by
 obtain⟨n,U⟩:∃n,E.P.types.size+Made.depth=n+1:=⟨_,rfl⟩;rw[U];unfold EE at h
 split at h
 ·rename_i i Q
  split at h
  ·rename_i m S
   split at h
   ·rename_i mf
    have q:m.path.isEmpty=true:=by
     have:m.path=#[]:=Z;rw[this];rfl
    split at h
    ·rename_i g v H
     split at h
     ·rename_i d o
      have b:∀r:Sem Value, ∀c, r.run E.P w=.ok c w->(r=receiverAt t (.val X) v (some ((a.splitOn ".").getLastD a)))->
        (method (n+1) t X a).run E.P w=.ok (g,c) w:=by
       intro r c T P;subst P;simp only[method,typeInfo,Sem.run_bind,run_program,Result.andThen_ok,Q,Sem.run_pure,S,mf,follow,H,q,if_true,T]
      split at h
      ·rename_i e
       split at h
       ·cases h;refine⟨X,b _ X ?_ rfl,W⟩;simp only[receiverAt,Sem.run_bind,Aa o,Result.andThen_ok,Place.get,Sem.run_pure]
       ·split at h
        ·rename_i te s
         split at h
         ·rename_i u J' l
          cases h;obtain⟨_,c,B,L⟩:=P1 j s W l
          have N:∃k,X=.pointer (some k):=by
           unfold Na at l
           split at l
           ·unfold R at W;grind
           ·unfold R at W;grind
           ·cases l
          obtain⟨k,rfl⟩:=N;refine⟨c,b _ c ?_ rfl,L⟩;simp only[receiverAt,Sem.run_bind,Aa o,Result.andThen_ok,Place.get,Sem.run_pure,Aom];have G:(Instr.loadAt e (.pointer (some k)))=loadVar e k:=rfl;have K:(asAddr (.pointer (some k)))=pure k:=rfl;rw[G]at B;simp only[K,Sem.run_pure,Result.andThen_ok,B]
         ·cases h
        ·cases h
      ·rename_i p
       split at h
       ·cases h
       ·cases h;refine⟨X,b _ X ?_ rfl,W⟩;cases d with
        |pointer e=>exact absurd rfl (p e)
        |_=>simp only[receiverAt,Sem.run_bind,Aa o,Result.andThen_ok,Place.get,Sem.run_pure]
     ·cases h
    ·cases h
   ·cases h
  ·cases h
 ·cases h
theorem Rg(hR:Bk E Rr){s a}(J:cV E C w s a){o:Oper}{v y}(h:bB E o.op Rr s.tm s.sto=some (v,y)){K Q}
  (hK:∀l j x,aX E.P l j y->bC C (O s.sto) w l (O y) j->R l (O y) j v x->K (a.put o.dst x) j){ro n}:o.wpIn (Cy ro) n E.P a w K Q:=by
 have i:Aw E o.op s.tm s.sto=some (v,y)->o.wpIn (Cy ro) n E.P a w K Q:=by
  intro h;refine Ev (.inr ?_) ?_
  ·cases d:o.op<;>first|rfl|(rw[d]at h;simp[Aw]at h;done)
  obtain⟨x,j,l,L,h2,h3,h4⟩:=(SN J.sim rfl J.glob J.tmps h).1;unfold Oper.wp
  rcases L with L|⟨L,rfl⟩
  ·rw[L,Oper.upon_value];grind
  ·rw[L,Oper.upon_skip];grind
 cases d:o.op with
 |call c=>
  cases N:c.callee with
  |value f=>
   rw[d]at h;simp only[bB,N]at h
   split at h
   ·rename_i a' hv
    have g:=Be J.glob J.tmps f;rw[hv]at g;unfold R at g;obtain⟨g,_⟩:=g
    have aa:RL C (O s.sto) w (opds E s.tm c.args.toList) (c.args.map a.eval).toList:=by
     simp only[c_];exact Dm J.glob J.tmps c.args.toList
    obtain⟨r,bb,rfl,fa,ac,ca⟩:=hR.yl a' C w s.sto _ _ v y J.sim J.glob aa h;have hy:=run_yield (P:=E.P) (args:=c.args.map a.eval) fa ac
    have S:(execOp a.eval o).run E.P w=.ok (.round (C.stm a').toNat r.fn ((r.params.zip (c.args.map a.eval)).foldl (λa7 (t,a)=>a7.setIfInBounds t a) r.tmps) r.assign r.body) w:=by
     simp[execOp,d,resolve,N,g,Deferred.ofValue,invoke]
     simpa[C9]using hy
    refine⟨λ_ _=>trivial,?_⟩
    rw[Oper.semAt_eq _ _ _ Z,S,Oper.uponIn_round]
    refine⟨λhh=>(by cases hh),(ca ro (n-1)).mono λe j u=>?_⟩
    obtain⟨rfl,l,U,W⟩:=u
    exact hK l j _ U W (by unfold R;rfl)
   split at h
   ·rename_i k args hk
    refine Ev (.inr (by rw[d];rfl)) ?_
    unfold Rb at hk
    split at hk
    ·rename_i k' first a9 hf
     cases hk;have g:=Be J.glob J.tmps f;rw[hf]at g;unfold R at g;obtain⟨p,q,g,hp,hq⟩:=g;have bp:=Dm J.glob J.tmps c.args.toList
     have bs:RL C (O s.sto) w (first++opds E s.tm c.args.toList++a9) (p++c.args.map a.eval++q).toList:=by
      simp only[pM,c_];exact(hp.append bp).append hq
     obtain⟨⟨T,g1,g2,g3⟩,b8⟩:=hR.fn k C w s.sto _ _ v y J.sim J.glob bs h
     have S:(execOp a.eval o).run E.P w=.ok (.enter k (p++c.args.map a.eval++q)) w:=by
      have B:T.name≠ "runtime.NumGoroutine" :=Z;have G:T.body≠none:=Z
      simp[execOp,d,resolve,N,g,Deferred.ofValue,invoke,callFunc,g1,B,G]
     unfold Oper.wp;rw[S,Oper.upon_enter];refine b8.mono λe j u=>?_
     cases e with
     |returned x=>obtain⟨l,U,W,k3⟩:=u;exact hK l j x U W k3
     |panicked _=>exact u.elim
     |outgrown=>exact u.elim
    ·cases hk
   ·cases h
  |invoke r m=>
   rw[d]at h;simp only[bB,N]at h
   split at h
   ·rename_i t v' hr
    split at h
    ·rename_i f rv hm
     refine Ev (.inr (by rw[d];rfl)) ?_
     have g:=Be J.glob J.tmps r;rw[hr]at g;unfold R at g;obtain⟨X,g,hX⟩:=g;obtain⟨a8,L,h2⟩:=WT J.sim hX hm;have bp:=Dm J.glob J.tmps c.args.toList
     have bs:RL C (O s.sto) w (rv::opds E s.tm c.args.toList) (#[a8]++c.args.map a.eval).toList:=by
      simp only[pM,c_]
      show RL _ _ _ _ (a8::_)
      unfold RL;exact⟨h2,bp⟩
     obtain⟨⟨T,g1,g2,g3⟩,b8⟩:=hR.fn f C w s.sto _ _ v y J.sim J.glob bs h
     have S:(execOp a.eval o).run E.P w=.ok (.enter f (#[a8]++c.args.map a.eval)) w:=by
      have B:T.name≠ "runtime.NumGoroutine" :=Z;have G:T.body≠none:=Z
      have e1:execOp a.eval o=callMethod (a.eval r) m (c.args.map a.eval):=by
       have:execOp a.eval o=invoke (.fn (.method m) #[]) (#[a.eval r]++c.args.map a.eval):=by
        simp only[execOp,d,resolve,N,pure_bind]
       rw[this,Adu]
      rw[e1,g];simp only[callMethod,Sem.run_bind,run_program,Result.andThen_ok,L,callFunc,g1]
      simp[B,G]
     unfold Oper.wp;rw[S,Oper.upon_enter];refine b8.mono λe j u=>?_
     cases e with
     |returned x=>obtain⟨l,U,W,k3⟩:=u;exact hK l j x U W k3
     |panicked _=>exact u.elim
     |outgrown=>exact u.elim
    ·cases h
   ·cases h
  |builtin b=>refine i ?_;rw[d]at h⊢;simpa only[bB,N]using h
 |_=>refine i ?_;rw[d]at h⊢;exact h
theorem VX(N:Bk E Rr){s m a}(J:cV E C w s a){G o}(h:Yi E G.toList o Rr s=some m){K Q}
  (k:∀g e r,cV E g e m r->bC C (O s.sto) w g (O m.sto) e->K r e){ro n}(hpl:CP ro o.op):
  (Region.wanted o (yielded G a.tmps)=true/\o.wpIn (Cy ro) n E.P a w K Q)\/(Region.wanted o (yielded G a.tmps)=false/\K (a.put o.dst undef) w):=by
 unfold Yi at h
 split at h
 ·rename_i H
  refine .inl ⟨Dp J.tmps H,?_⟩
  split at h
  ·rename_i c l
   split at h
   ·rename_i f P S
    split at h
    ·rename_i u i
     cases j:Nat.beq u.1 Ks
     case true=>simp[j]at h
     simp only[j,cond_false,bH]at h;subst h
     have pg:u.1≠Ks:=λU=>by rw[U]at j;cases j
     unfold Rb at i
     split at i
     ·rename_i k' first L T
      cases i;have d:=Be J.glob J.tmps f;rw[T]at d;unfold R at d;obtain⟨p,q,d,W,X⟩:=d;have y:=Dm J.glob J.tmps c.args.toList
      have B:(execOp a.eval o).run E.P w=.ok (.defer { target:=.fn (.func k') q,args:=p++c.args.map a.eval }) w:=by
       simp[execOp,l,resolve,P,d,Deferred.ofValue]
      refine Ev hpl ?_;unfold Oper.wp;rw[B,Oper.upon_defer,S,TW];refine k C w _ ⟨J.sim,J.glob,J.tmps,J.size,?_⟩ (dJ _ _ _);unfold DR;refine⟨.inl ⟨pg,q,rfl,?_⟩,J.dfs⟩;simp only[pM,c_];exact(W.append y).append X
     ·cases i
    ·cases h
   ·cases h
  ·split at h
   ·rename_i v J' hv
    split at h
    ·rename_i tm b
     cases h;exact Rg N J hv λg e x k1 t k3=>k g e _ (J.put k1 t k3 b) t
    ·cases h
   ·cases h
 ·rename_i H
  refine .inr ⟨Dp J.tmps H,?_⟩
  split at h
  ·rename_i tm b
   cases h;exact k C w _ (J.put J.sim (dJ _ _ _) P8 b) (dJ _ _ _)
  ·cases h
 ·cases h
end
section
theorem WH{a b}(h:Fm a b=true):a=b:=(Gu a b).1 h
theorem Y0{a b}(h:Tz a b=true):a=b:=by rw[Jg]at h;grind
theorem PN{a b}(h:kW a b=true):a=b:=by
 cases a<;>cases b<;>simp only[kW]at h
 ·rfl
 ·cases h
 ·cases h
 ·rw[bK h]
theorem YN{a b}(h:GV a b=true):a=b:=by
 unfold GV at h
 grind
theorem T0{a b}(h:GX a b=true):a=b:=by
 unfold GX at h
 split at h
 ·rw[bK h]
 grind
mutual
theorem I.beq_eq:∀(x y:I),I.beq x y=true->x=y
 |.any,y,h=>by cases y<;>simp only[I.beq]at h<;>first|rfl|cases h
 |.bool a,y,h=>by
  cases y<;>simp only[I.beq]at h<;>first|(cases h;done)|skip
  grind
 |.int k n,y,h=>by
  cases y<;>simp only[I.beq]at h<;>first|(cases h;done)|skip
  rw[bg]at h;rw[(N4 _ _).1 h.1,Y0 h.2]
 |.str l,y,h=>by
  cases y<;>simp only[I.beq]at h<;>first|(cases h;done)|skip
  rw[WH h]
 |.nil v,y,h=>by
  cases y<;>simp only[I.beq]at h<;>first|(cases h;done)|skip
  rw[YN h]
 |.pr a o,y,h=>by
  cases y<;>simp only[I.beq]at h<;>first|(cases h;done)|skip
  rw[bg]at h;rw[bK h.1,bK h.2]
 |.pv l,y,h=>by
  cases y<;>simp only[I.beq]at h<;>first|(cases h;done)|skip
  rw[I.beqs_eq _ _ h]
 |.sr a o s n c,y,h=>by
  cases y<;>simp only[I.beq]at h<;>first|(cases h;done)|skip
  simp only[bg]at h;rw[bK h.1.1.1.1,bK h.1.1.1.2,bK h.1.1.2,bK h.1.2,PN h.2]
 |.sv l s n c,y,h=>by
  cases y<;>simp only[I.beq]at h<;>first|(cases h;done)|skip
  simp only[bg]at h;rw[I.beqs_eq _ _ h.1.1.1,bK h.1.1.2,bK h.1.2,PN h.2]
 |.mp a,y,h=>by
  cases y<;>simp only[I.beq]at h<;>first|(cases h;done)|skip
  rw[bK h]
 |.it a,y,h=>by
  cases y<;>simp only[I.beq]at h<;>first|(cases h;done)|skip
  rw[bK h]
 |.stp a,y,h=>by
  cases y<;>simp only[I.beq]at h<;>first|(cases h;done)|skip
  rw[bK h]
 |.flt k a,y,h=>by
  cases y<;>simp only[I.beq]at h<;>first|(cases h;done)|skip
  simp only[bg,decide_eq_true_eq]at h;rw[h.1,bK h.2]
 |.yl a,y,h=>by
  cases y<;>simp only[I.beq]at h<;>first|(cases h;done)|skip
  rw[bK h]
 |.fn f a b,y,h=>by
  cases y<;>simp only[I.beq]at h<;>first|(cases h;done)|skip
  simp only[bg]at h;rw[T0 h.1.1,I.beqs_eq _ _ h.1.2,I.beqs_eq _ _ h.2]
 |.ifc t a,y,h=>by
  cases y<;>simp only[I.beq]at h<;>first|(cases h;done)|skip
  rw[bg]at h;rw[bK h.1,I.beq_eq _ _ h.2]
 |.agg l,y,h=>by
  cases y<;>simp only[I.beq]at h<;>first|(cases h;done)|skip
  rw[I.beqs_eq _ _ h]
 |.tup l,y,h=>by
  cases y<;>simp only[I.beq]at h<;>first|(cases h;done)|skip
  rw[I.beqs_eq _ _ h]
theorem I.beqs_eq:∀(l m:List I),I.beqs l m=true->l=m
 |[],m,h=>by cases m<;>simp only[I.beqs]at h<;>first|rfl|cases h
 |x::r,m,h=>by
  cases m<;>simp only[I.beqs]at h<;>first|(cases h;done)|skip
  rw[bg]at h;rw[I.beq_eq _ _ h.1,I.beqs_eq _ _ h.2]
end
section
variable {C C':aO}{N N':Nat}{w w':World}{P:Program}
def aO.keep(C:aO)(U:F):aO:={ C with loc:=λa=>if(U.get a).isSome then C.loc a else none }
end
end
def Jj:XE->Exit
 |.normal=>.normal
 |.exit a=>.exit a
 |.ret=>.ret
def sW(E:aZ)(C:aO)(N:Nat)(w:World)(l:List (XE×St)):Exit->Act->World->Prop:=λe c b=>
 ∃y∈l,∃a,Jj y.1=e/\cV E a b y.2 c/\bC C N w a (O y.2.sto) b
theorem Gw{P}{b:Frame}{a k d w c}:step P (lone (b.atR a (.code (.scope c)::k)) d w)=.next (lone (b.atR a (.code c::.inScope c::k)) d w):=
 step_lone_go (by simp[stepG,stepG.exec,Frame.atR])
theorem Y5{P}{b:Frame}{a k d w c}:step P (lone (b.atR a (.inScope c::k)) d w)=.next (lone (b.atR a k) d w):=
 step_lone_go (by simp[stepG,stepG.exec,Frame.atR])
theorem Sc{o n P Q a w c}(h:c.wpIn o n P (Exit.noGoto Q) a w):(Code.scope c).wpIn o n P Q a w:=by
 intro b k v t r s;have m:(lone (b.atR a (.code (.scope c)::k)) v w).fenced P o:=fenced_calm r s rfl;obtain⟨e,d,g,q,j⟩:=h b (.inScope c::k) v t r s;cases e with
 |normal=>exact⟨.normal,d,g,q,.head m Gw (StepsIn.trans j (.one (fenced_calm r s rfl) Y5))⟩
 |exit u=>
  have J:exitTo u (.inScope c::k)=exitTo u k:=by simp[exitTo]
  exact⟨.exit u,d,g,q,λE B=>.head m Gw (j.1 E Z),
   λp B=>let⟨f,x,y⟩:=j.2 p Z;⟨f,x,.head m Gw y⟩⟩
 |goto l=>exact q.elim
 |ret=>exact⟨_,d,g,q,λC=>let⟨f,i⟩:=j.1 C;⟨f,.head m Gw i⟩,λp=>let⟨f,i⟩:=j.2 p;⟨f,.head m Gw i⟩⟩
 |panic G=>exact⟨_,d,g,q,.of_steps (.one m Gw) j⟩
 |outgrown=>exact⟨_,d,g,q,.of_steps (.one m Gw) j⟩
section
variable {E:aZ}{C C':aO}{N N':Nat}{w w':World}{Rr:bP}
theorem Bk.none:Bk E (λ_ _ _=>Option.none):=⟨λ_ _ _ _ _ _ _ _ _ _ _ h=>by(cases h),λ_ _ _ _ _ _ _ _ _ _ _ h=>by(cases h),λ_ _ _ _ _ _ h=>by(cases h)⟩
abbrev sQ:=@Bk.none
end
section
variable {E:aZ}{tm tm':Tr I}{J J':F}
theorem Jk:∀{l:List Operand},(∀x∈l,opd E tm x=opd E tm' x)->opds E tm l=opds E tm' l
 |[],_=>rfl
 |x::r,h=>by simp only[opds,h x zS,Jk λy a=>h y (ch _ a)]
theorem Sq{P a}:∀{l:List (Nat×Operand)},(∀x∈l.map (·.2),opd E tm x=opd E tm' x)->Js P E tm a l=Js P E tm' a l
 |[],_=>rfl
 |(i,x)::r,h=>by
  simp only[Js,h x zS,Sq (l:=r) λy b=>h y (ch _ b)]
theorem M5{n}:∀{l:List (Nat×Operand)},(∀x∈l.map (·.2),opd E tm x=opd E tm' x)->Is E tm n l=Is E tm' n l
 |[],_=>rfl
 |(i,x)::r,h=>by
  simp only[Is,h x zS,M5 (l:=r) λy a=>h y (ch _ a)]
theorem Xt{w}(h:∀x∈w.operands,opd E tm x=opd E tm' x):Aw E w tm J=Aw E w tm' J:=by
 cases w<;>simp only[Op.operands]at h<;>simp only[Aw]
 case build t j=>
  have e:∀x∈j.toList.map (·.2),opd E tm x=opd E tm' x:=λx a=>h x (by simpa using a)
  simp only[Sq e,M5 e]
 case buildSlice t n j=>
  have e:∀x∈j.toList.map (·.2),opd E tm x=opd E tm' x:=λx a=>h x (by simpa using a)
  simp only[M5 e]
 case makeFunc f first i=>
  rw[Jk (l:=first.toList) λx a=>h x (by simp at a;simp[a]),Jk (l:=i.toList) λx a=>h x (by simp at a;simp[a])]
 case makeMap t r=>
  cases o:Ay E.P t with
  |none=>rfl
  |some s=>
   obtain⟨d,n,b,C,g⟩:=s;cases r with
   |none=>cases d<;>rfl
   |some x=>cases d<;>first|rfl|simp only[h x zS]
 case slice t x p k q=>cases p<;>cases k<;>cases q<;>simp_all [opdO]
 case call c=>
  have e:opds E tm c.args.toList=opds E tm' c.args.toList:=Jk λx a=>h x (by simp[Call.operands];right;simpa using a)
  cases u:c.callee with
  |builtin b=>
   simp only;cases a:c.args.toList with
   |nil=>cases c.argTypes.toList<;>rfl
   |cons y B=>
    rw[a]at e;simp only[opds,pw]at e;cases c.argTypes.toList with
    |nil=>rfl
    |cons t v=>simp only[e.1,e.2]
  |value f=>rfl
  |invoke r m=>rfl
 all_goals (first|rfl|(simp_all;done))
theorem JI{a w}(h:∀x∈w.operands,opd E tm x=opd E tm' x):bB E w a tm J=bB E w a tm' J:=by
 cases w
 case call c=>
  cases d:c.callee with
  |value f=>
   simp only[bB,d]
   rw[h f (by simp[Op.operands,Call.operands,d]),Jk (l:=c.args.toList) λx e=>h x (by simp[Op.operands,Call.operands,d];right;simpa using e)]
  |builtin b=>simp only[bB,d];exact Xt h
  |invoke r m=>
   simp only[bB,d]
   rw[h r (by simp[Op.operands,Call.operands,d]),Jk (l:=c.args.toList) λx e=>h x (by simp[Op.operands,Call.operands,d];right;simpa using e)]
 all_goals (simp only[bB];exact Xt h)
theorem Fk.const(r:Option I):Fk λJ=>match r with|some v=>some (v,J)|none=>none:=by
 intro J a v h;cases r with
 |none=>cases h
 |some u=>cases h;exact⟨rfl,λ_=>rfl⟩
theorem Fk.none:Fk λ_=>Option.none:=λ_ _ _ h=>by cases h
abbrev bO:=@Fk.none
theorem Fk.some(v):Fk λJ=>Option.some (v,J):=λ_ _ _ h=>by cases h;exact⟨rfl,λ_=>rfl⟩
abbrev dV:=@Fk.some
theorem MP(x):Fk (pS x):=dV x
theorem Aqv(t x):Fk (pZ t x):=dV _
theorem Ye(f a b):Fk (yW f a b):=dV _
theorem UX(c a b):Fk (sJ c a b):=by
 unfold sJ;split
 ·exact dV _
 ·exact dV _
 ·exact bO
theorem WO(x):Fk (Jf x):=by
 unfold Jf;split
 ·exact dV _
 ·exact dV _
 ·exact dV _
 ·exact bO
theorem LH(r):Fk (Sx r):=by
 unfold Sx;split
 ·exact dV _
 ·exact bO
theorem PL(U k):Fk (M2 U k):=by
 unfold M2;split
 ·exact dV _
 ·exact bO
theorem Yu(U P a k):Fk (Id U P a false k):=by
 unfold Id;split
 ·exact dV _
 ·exact bO
theorem VY(n x):Fk (xV n x):=by
 unfold xV;split
 ·exact dV _
 ·exact bO
theorem Ak0(v n x):Fk (vJ v n x):=by
 unfold vJ;split
 ·split
  ·exact dV _
  ·exact bO
 ·exact bO
theorem Lf(b){f g}(N:Fk f)(H:Fk g):Fk λJ=>cond b (f J) (g J):=by
 cases b
 ·exact H
 ·exact N
theorem Aa5(n x i):Fk (Gt n x i):=by
 unfold Gt;split
 ·split
  ·simp only[Ak];exact Lf _ (dV _) bO
  ·exact Lf _ (dV _) bO
  ·exact bO
 ·exact bO
theorem Uk(l n x i):Fk (E6 l n x i):=by
 unfold E6;split
 ·exact Lf _ (Fk.const _) bO
 ·exact bO
theorem V9(x i):Fk (Lc x i):=by
 unfold Lc;split
 ·split
  ·exact dV _
  ·exact bO
 ·exact bO
theorem Adz(y l x i):Fk (Le y l x i):=by
 unfold Le;split
 ·exact Lf _ (Fk.const _) bO
 ·exact bO
theorem Sr(x a L):Fk (Nb x a L):=by
 unfold Nb;split
 ·split
  ·exact dV _
  ·exact bO
 ·exact bO
theorem LG(n x a L b):Fk (Lj n x a L b):=by
 unfold Lj;split
 ·split
  ·split
   ·simp only[Ak];exact dV _
   ·exact bO
  ·exact bO
 ·split
  ·split
   ·split
    ·simp only[Ak];exact dV _
    ·exact bO
   ·exact bO
  ·exact bO
 ·split
  ·exact dV _
  ·exact bO
 ·exact bO
theorem ZC(i x):Fk (Nc i x):=by
 unfold Nc;split
 ·split
  ·exact dV _
  ·exact bO
 ·exact bO
theorem Ah8(t:Nat)(U:Option I)(a:Bool)(x:I):Fk (Zr t U a x):=by
 unfold Zr;split
 ·split
  ·exact dV _
  ·split
   ·exact dV _
   ·exact bO
 ·split
  ·exact dV _
  ·exact bO
 ·exact bO
theorem S'(x):Fk (Kj x):=by
 unfold Kj;split
 ·exact dV _
 ·exact dV _
 ·exact dV _
 ·exact bO
theorem NK(f x y):Fk (Xm f x y):=by
 unfold Xm;split
 ·exact Lf _ (dV _) bO
 ·exact bO
theorem Aor(x y U):Fk (zr x y U):=by
 unfold zr;split
 ·exact Lf _ (dV _) bO
 ·exact bO
theorem Te{w}(P:Bc E w=.pure):Fk (Aw E w tm):=by
 show Fk λJ=>Aw E w tm J
 cases w<;>simp only[Bc]at P<;>try (cases P;done)
 case move x=>exact MP _
 case assign x=>exact MP _
 case pick c a b=>exact UX _ _ _
 case nilCheck x=>exact WO _
 case build t k=>
  simp only[Aw];split
  ·split
   ·split
    ·exact PL _ _
    ·exact bO
   ·split
    ·exact PL _ _
    ·exact bO
   ·exact bO
  ·exact bO
 case buildSlice t n k=>
  simp only[Aw]
  split at P
  ·rename_i l h
   split at P
   ·rename_i e j
    split at P
    ·cases P
    ·rename_i d
     split
     ·split
      ·split
       ·rw[d];exact Yu _ _ _ _
       ·exact bO
      ·exact bO
     ·exact bO
   ·cases P
  ·cases P
 case binOp w t x y _=>exact LH _
 case unOp w t x=>exact LH _
 case makeInterface t x=>
  simp only[Aw];split
  ·split
   ·exact bO
   ·exact Aqv _ _
  ·exact bO
 case makeFunc f a b=>exact Ye _ _ _
 case slice t x o m p=>
  simp only[Aw]
  split at P
  ·rename_i l h
   split at P
   ·cases P
   ·rename_i j
    split
    ·split
     ·exact Sr _ _ _
     ·exact bO
    ·split
     ·exact LG _ _ _ _ _
     ·exact bO
    ·rename_i n e g;exact absurd g (j n e)
    ·exact bO
  ·cases P
 case fieldAddr t x i=>
  simp only[Aw];split
  ·split
   ·split
    ·split
     ·split
      ·exact bO
      ·exact VY _ _
     ·exact bO
    ·exact bO
   ·exact bO
  ·exact bO
 case field t x i=>
  simp only[Aw];split
  ·split
   ·split
    ·split
     ·exact Ak0 _ _ _
     ·exact bO
    ·exact bO
   ·exact bO
  ·exact bO
 case indexAddr t x i=>
  simp only[Aw];split
  ·split
   ·split
    ·exact Aa5 _ _ _
    ·exact bO
   ·split
    ·exact Uk _ _ _ _
    ·exact bO
   ·exact bO
  ·exact bO
 case index t x i=>
  simp only[Aw];split
  ·split
   ·exact V9 _ _
   ·split
    ·exact Adz _ _ _ _
    ·exact bO
   ·exact bO
  ·exact bO
 case extract x i=>exact ZC _ _
 case typeAssert x r t q=>
  simp only[Aw];split
  ·split
   ·exact bO
   ·exact Ah8 _ _ _ _
  ·exact bO
 case call c=>
  simp only[Aw]
  split at P<;>try (cases P;done)
  all_goals first|(rename_i d;simp only[d];exact bO)|skip
  all_goals rename_i d
  all_goals simp only[d]
  all_goals split<;>try exact bO
  all_goals split<;>try exact bO
  all_goals simp only[Ee]
  ·split
   ·exact S' _
   ·exact bO
  ·split
   ·exact NK _ _ _
   ·exact bO
  ·split
   ·exact NK _ _ _
   ·exact Aor _ _ _
   ·exact bO
theorem S6{w}(P:Bc E w=.read){v}(h:Aw E w tm J=some (v,J')):J'=J:=by
 cases w<;>simp only[Bc]at P<;>try (cases P;done)
 case load t x=>
  simp only[Aw]at h
  split at h
  ·unfold Na at h
   (repeat' (split at h))<;>first|(cases h;done)|(cases h;rfl)
  ·cases h
 case lookup t m k g=>
  simp only[Aw]at h
  (repeat' (split at h))<;>try (cases h;done)
  unfold Ky at h
  (repeat' (split at h))<;>first|(cases h;done)|(cases h;rfl)
 case entry x=>
  simp only[Aw]at h;unfold tT at h
  split at h
  ·split at h
   ·split at h
    ·unfold cond at h
     split at h
     ·cases h;rfl
     ·cases h
    ·cases h
   ·cases h
  ·cases h
 case convert s d x=>
  simp only[Aw]at h
  (repeat' (split at h))<;>try (cases h;done)
  ·unfold Pp at h
   (repeat' (split at h))<;>first|(cases h;done)|(cases h;rfl)
  ·unfold T4 at h
   (repeat' (split at h))<;>first|(cases h;done)|(cases h;rfl)
  ·unfold Kx at h
   (repeat' (split at h))<;>first|(cases h;done)|(cases h;rfl)
 case slice t x e b f=>
  simp only[Aw]at h
  (repeat' (split at h))<;>try (cases h;done)
  ·exact(Sr _ _ _ _ _ _ h).1
  ·exact(LG _ _ _ _ _ _ _ _ h).1
  ·unfold Wf at h;simp only[Ak]at h
   (repeat' (split at h))<;>first|(cases h;done)|(cases h;rfl)
 case call c=>
  simp only[Aw]at h
  split at P<;>try (cases P;done)
  all_goals first|(rename_i a;simp only[a]at h;done)|(rename_i a;simp only[a]at h;cases h;done)|skip
  rename_i a
  simp only[a]at h
  (repeat' (split at h))<;>try (cases h;done)
  simp only[Ee]at h
  (repeat' (split at h))<;>try (cases h;done)
  ·unfold nK at h
   (repeat' (split at h))<;>first|(cases h;done)|(cases h;rfl)
  ·unfold Zt at h;simp only[Ak]at h
   (repeat' (split at h))<;>first|(cases h;done)|(cases h;rfl)
  ·unfold T6 at h;simp only[Ak]at h
   (repeat' (split at h))<;>first|(cases h;done)|(cases h;rfl)
  ·cases h;rfl
 all_goals (split at P<;>first|(cases P;done)|(split at P<;>first|(cases P;done)|(split at P<;>cases P)))
end
theorem Aem(a:Nat->Nat)(i):∀(l:List Edge) (s:Nat),(l.foldl (λs e=>if Region.binds .any e then s|||2 ^ e.on|||a e.on else s) s).testBit i=true->
  s.testBit i=true\/∃e∈l,Region.binds .any e=true/\(i=e.on\/(a e.on).testBit i=true)
 |[],s,h=>.inl h
 |e::l,s,h=>by
  simp only[iU]at h
  rcases Aem a i l _ h with b|⟨f,b,c⟩
  ·grind
  grind
theorem Aen(b:Array Nat->Oper->Nat):∀(l:List Oper) (a:Array Nat),
  (l.foldl (λa o=>a.push (b a o)) a).size=a.size+l.length/\(∀k,k<a.size->(l.foldl (λa o=>a.push (b a o)) a)[k]? =a[k]?)/\
  ∀(k:Nat) (o:Oper),l[k]? =some o->∃c:Array Nat,c.size=a.size+k/\(∀m,m<c.size->(l.foldl (λa o=>a.push (b a o)) a)[m]? =c[m]?)/\(l.foldl (λa o=>a.push (b a o)) a)[a.size+k]? =some (b c o)
 |[],a=>⟨by simp,λk _=>rfl,Z⟩
 |x::l,a=>by
  obtain⟨d,e,f⟩:=Aen b l (a.push (b a x))
  grind
theorem Xu{G j o}(y:G[j]? =some o){i}(h:((Region.before G).getD j 0).testBit i=true):
  ∃e∈o.after,Region.binds .any e=true/\(i=e.on\/((Region.before G).getD e.on 0).testBit i=true):=by
 obtain⟨f,t⟩:∃f:Array Nat->Oper->Nat,(∀a o,f a o=o.after.toList.foldl (λs e=>if Region.binds .any e then s|||2 ^ e.on|||a.getD e.on 0 else s) 0)/\
   Region.before G=G.toList.foldl (λb o=>b.push (f b o)) #[]:=by
  refine⟨λa o=>o.after.foldl (λs e=>if Region.binds .any e then s|||2 ^ e.on|||a.getD e.on 0 else s) 0,Z,?_⟩
  unfold Region.before
  grind
 obtain⟨c,d⟩:=t;obtain⟨_,_,n⟩:=Aen f G.toList #[];obtain⟨a,w,g,l⟩:=n j o Z;rw[<-d]at g l
 have v:(Region.before G).getD j 0=f a o:=by
  rw[jY]
  grind
 rw[v,c]at h
 rcases Aem (λk=>a.getD k 0) i _ 0 h with m|⟨e,x,p,q⟩
 ·simp at m
 ·refine⟨e,Z,p,q.imp id λr=>?_⟩
  by_cases u:e.on<a.size
  ·rw[jY,g _ u,<-jY];exact r
  grind
end Go.AM

