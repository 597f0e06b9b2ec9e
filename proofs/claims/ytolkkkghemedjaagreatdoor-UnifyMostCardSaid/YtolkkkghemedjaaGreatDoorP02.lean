/- A part of the proof; shortened by program. -/
import Derived.Scope
import Derived.Defers
import Derived.KernelRfl
import Derived.Test.YtolkkkghemedjaaGreatDoorChecked
import Derived.Test.YtolkkkghemedjaaGreatDoorP01
set_option maxRecDepth 100000
set_option maxHeartbeats 4000000
set_option linter.unusedSimpArgs false
set_option linter.unusedVariables false
namespace Go.AM
open Go
section
variable {P : Program} {C C' : Ctx} {N N' : Nat} {w w' : World} {U U' : Sto}
def Q2 (P : Program) (C : Ctx) (w : World) (U : Sto) (s : Sem Next) (v : AV) (U' : Sto) : Prop :=
 ∃ x w' C',(s.run P w = .ok (.value x) w' ∨ (s.run P w = .ok .skip w' /\ x = undef)) /\ R C' (nx U') w' v x /\ Sim P C' w' U' /\ Ext C (nx U) w C' (nx U') w'
theorem Q2.ofRuns {s : Sem Value} {v : AV} (h : H3 P C w U s v U') : Q2 P C w U (do pure (.value (← s))) v U' := by
 obtain ⟨y,x,w',C',h1,rfl,h3,h4,h5⟩ := h
 exact ⟨y,w',C',.inl (by simp [h1]),h5,h3,h4⟩
theorem Q2.ofPure (hs : Sim P C w U) {s : Sem Value} {v : AV} (h : U' = U /\ Df P C (nx U) w s v) : Q2 P C w U (do pure (.value (← s))) v U' := by
 obtain ⟨rfl,h⟩ := h;exact .ofRuns (h.runs hs)
theorem Q2.ofUnit {s : Sem Unit} {v : AV} (h : v = Au /\ ∃ w',s.run P w = .ok () w' /\ Sim P C w' U' /\ Ext C (nx U) w C (nx U') w') : Q2 P C w U (do s; pure .skip) v U' := by
 obtain ⟨rfl,w',h1,h2,h3⟩ := h
 refine ⟨undef,w',C,.inr ⟨by simp [h1],rfl⟩,?_,h2,h3⟩
 unfold Au R; exact ⟨#[],rfl,by unfold RL; trivial⟩
theorem Q2.ofTuple {s : Sem Value} {v : AV} (h : v = Au /\ ∃ w',s.run P w = .ok (.tuple #[]) w' /\ Sim P C w' U' /\ Ext C (nx U) w C (nx U') w') : Q2 P C w U (do pure (.value (← s))) v U' := by
 obtain ⟨rfl,w',h1,h2,h3⟩ := h
 refine ⟨.tuple #[],w',C,.inl (by simp [h1]),?_,h2,h3⟩
 unfold Au R; exact ⟨#[],rfl,by unfold RL; trivial⟩
theorem Aib {E : Env} {tm : Tr AV} {a : Act} (hg : Gc C N w E) (ht : TR C N w tm a.tmps) (x : Option Operand) : RO C N w (opdO E tm x) (x.map a.eval) := by
 cases x with
 | none => simp only [opdO,gr_]; unfold RO; trivial
 | some x => simp only [opdO,dw_]; unfold RO; exact Br hg ht x
theorem Y3 (hs : Sim P C w U) {E : Env} (hE : E.P = P) {b : Builtin} {t : TypeId} {ti : TI} (hti : A4 P t = some ti) {ts : List TypeId} {x : AV} {X : Value} {xs : List AV} {Xs : List Value}
  (hx : R C (nx U) w x X) (hxs : RL C (nx U) w xs Xs) {v : AV} (h : C8 E b ti ts x xs U = some (v,U')) (ty : TypeId) (consts : Array Bool) :
  Q2 P C w U (builtin b (t :: ts).toArray ty consts (X :: Xs).toArray) v U' := by
 subst hE;obtain ⟨i,d,g1,g2,g3,g4,_⟩ := Ar hti
 have arg0 : ∀ (s s' : Sem Value),(∀ w,s.run E.P w = s'.run E.P w) -> Q2 E.P C w U (do pure (.value (← s'))) v U' -> Q2 E.P C w U (do pure (.value (← s))) v U' := by
  rintro s s' he ⟨y,w',C',h1,h2⟩;refine ⟨y,w',C',?_,h2⟩;simp only [Sem.run_bind] at h1 ⊢;rw [he]; exact h1
 cases b <;> simp only [C8] at h
 case len =>
  split at h
  ·rename_i e hd
   refine .ofPure hs ?_
   have hu := g2.trans (by rw [← g3,hd])
   unfold sLen at h
   split at h
   ·cases h; unfold R at hx; obtain ⟨ad,k,rfl,_⟩ := hx
    exact ⟨rfl,_,by simp [Builtin.len_,Aa hu]; rfl,by unfold goInt R; rfl⟩
   ·cases h; unfold R at hx; obtain ⟨ad,k,rfl,_⟩ := hx
    exact ⟨rfl,_,by simp [Builtin.len_,Aa hu]; rfl,by unfold goInt R; rfl⟩
   ·cases h; unfold R at hx; obtain ⟨rfl,_⟩ := hx
    exact ⟨rfl,_,by simp [Builtin.len_,Aa hu]; rfl,by unfold goInt R; rfl⟩
   ·cases h
  ·rename_i hd
   refine .ofPure hs ?_
   have hu := g2.trans (by rw [← g3,hd])
   unfold Xl at h
   split at h
   ·rw [Ai] at h; cases h; unfold R at hx; obtain ⟨s,rfl,rfl⟩ := hx
    exact ⟨rfl,_,by simp [Builtin.len_,Aa hu]; rfl,by unfold goInt R; rw [Eu]; rfl⟩
   ·cases h
  ·rename_i kt et hd
   have := Abj (ty := ty) hs hti hd hx h;refine arg0 _ (Builtin.len_ #[t] ty #[X]) (fun w => ?_) (.ofPure hs this)
   simp [Builtin.len_]
  ·rename_i n e hd
   refine .ofPure hs ?_
   have hu := g2.trans (by rw [← g3,hd])
   cases h
   exact ⟨rfl,_,by simp [Builtin.len_,Aa hu]; rfl,by unfold goInt R; rfl⟩
  ·cases h
 case cap =>
  split at h
  ·rename_i e hd
   refine .ofPure hs ?_
   have hu := g2.trans (by rw [← g3,hd])
   unfold Jk at h
   split at h
   ·rename_i q
    cases h; unfold R at hx; obtain ⟨ad,k,rfl,_,_,hq,_⟩ := hx;have := hq _ rfl; subst this
    exact ⟨rfl,_,by simp [Builtin.cap_,Aa hu]; rfl,by unfold goInt R; rfl⟩
   ·cases h; unfold R at hx; obtain ⟨ad,k,rfl,_,hq,_⟩ := hx;have := hq _ rfl; subst this
    exact ⟨rfl,_,by simp [Builtin.cap_,Aa hu]; rfl,by unfold goInt R; rfl⟩
   ·cases h; unfold R at hx; obtain ⟨rfl,_⟩ := hx
    exact ⟨rfl,_,by simp [Builtin.cap_,Aa hu]; rfl,by unfold goInt R; rfl⟩
   ·cases h
  ·cases h
 case clear =>
  split at h
  ·rename_i kt et hd
   have := Wi (ty := ty) hs hti hd hx h;refine arg0 _ (Builtin.clear_ #[t] ty #[X]) (fun w => ?_) (.ofTuple this)
   simp [Builtin.clear_]
  ·rename_i e hd
   split at h
   ·rename_i te hte
    split at h
    ·rename_i z hz
     split at h
     ·rename_i hl
      have := Ad1 (ty := ty) hs hti hd hte hz (ac_ hl) hx h;refine arg0 _ (Builtin.clear_ #[t] ty #[X]) (fun w => ?_) (.ofTuple this)
      simp [Builtin.clear_]
     ·cases h
    ·cases h
   ·cases h
  ·cases h
 case append =>
  split at h
  ·rename_i e t2 ts' y ys hd
   have hu := g2.trans (by rw [← g3,hd])
   cases Xs with
   | nil => unfold RL at hxs; exact hxs.elim
   | cons Y Ys =>
    unfold RL at hxs
    have hre : ∀ w,(Builtin.append_ (t :: t2 :: ts').toArray ty (X :: Y :: Ys).toArray).run E.P w = (Builtin.append_ #[t,t2] ty #[X,Y]).run E.P w := fun w => by simp [Builtin.append_]
    split at h
    ·rename_i te tx hte htx
     obtain ⟨_,dx,_,gx,gx3,_⟩ := Ar htx
     split at h
     ·rename_i z hz
      split at h
      ·rename_i hl
       have hl := ac_ hl
       split at h
       ·rename_i e2 hd2
        exact arg0 _ _ hre (.ofRuns (Qj hs hu hte hz hl (gx.trans (by rw [← gx3,hd2])) (by intro k hk; cases hk) hx hxs.1 h))
       ·rename_i hd2
        exact arg0 _ _ hre (.ofRuns (Qj hs hu hte hz hl (gx.trans (by rw [← gx3,hd2])) (by intro k hk; cases hk) hx hxs.1 h))
       ·rename_i k hd2
        exact arg0 _ _ hre (.ofRuns (Yw hs hu hte hz hl (gx.trans (by rw [← gx3,hd2])) hx hxs.1 h))
       ·cases h
      ·cases h
     ·cases h
    ·cases h
  ·cases h
 case copy =>
  split at h
  ·rename_i e y ys hd
   have hu := g2.trans (by rw [← g3,hd])
   cases Xs with
   | nil => unfold RL at hxs; exact hxs.elim
   | cons Y Ys =>
    unfold RL at hxs
    split at h
    ·rename_i te hte
     refine arg0 _ (Builtin.copy_ #[t,t] ty #[X,Y]) (fun w => ?_) (.ofRuns (Afj hs hu hte hx hxs.1 h))
     simp [Builtin.copy_]
    ·cases h
  ·cases h
 case delete =>
  split at h
  ·rename_i kt et y ys hd
   cases Xs with
   | nil => unfold RL at hxs; exact hxs.elim
   | cons Y Ys =>
    unfold RL at hxs;refine arg0 _ (Builtin.delete_ #[t,t] ty #[X,Y]) (fun w => ?_) (.ofTuple (Abi hs hti hd hxs.1 hx h))
    simp [Builtin.delete_]
  ·cases h
 case min =>
  split at h
  ·rename_i y
   cases Xs with
   | nil => unfold RL at hxs; exact hxs.elim
   | cons Y Ys =>
    unfold RL at hxs;have hY : Ys = [] := RL.nil_iff hxs.2;subst hY;unfold Uu at h
    split at h
    ·rename_i k a k' b
     cases hb : He k k'
     ·simp [hb] at h
     ·simp only [hb,cond_true,ad_,bc_] at h;obtain ⟨rfl,rfl⟩ := h;unfold R at hx; subst hx;have h1 := hxs.1; unfold R at h1; subst h1
      refine .ofPure hs ⟨rfl,.int k (Yg a b),?_,by unfold R; rfl⟩
      simp only [Builtin.min_,List.foldlM_cons,List.foldlM_nil,Sem.run_bind];simp only [Builtin.min2,Sem.run_pure,Result.andThen_ok,Yg,Eb]
      by_cases hab : a <= b
      ·rw [if_neg Om]; simp [hab]
      ·rw [if_pos Om]; simp [hab]
    ·cases h
  ·cases h
 case max =>
  split at h
  ·rename_i y
   cases Xs with
   | nil => unfold RL at hxs; exact hxs.elim
   | cons Y Ys =>
    unfold RL at hxs;have hY : Ys = [] := RL.nil_iff hxs.2;subst hY;unfold Uu at h
    split at h
    ·rename_i k a k' b
     cases hb : He k k'
     ·simp [hb] at h
     ·simp only [hb,cond_true,ad_,bc_] at h;obtain ⟨rfl,rfl⟩ := h;unfold R at hx; subst hx;have h1 := hxs.1; unfold R at h1; subst h1
      refine .ofPure hs ⟨rfl,.int k (Yh a b),?_,by unfold R; rfl⟩
      simp only [Builtin.max_,List.foldlM_cons,List.foldlM_nil,Sem.run_bind];simp only [Builtin.max2,Sem.run_pure,Result.andThen_ok,Yh,Eb]
      by_cases hab : b <= a
      ·rw [if_neg Om]; simp [hab]
      ·rw [if_pos Om]; simp [hab]
    ·cases h
  ·cases h
 all_goals (cases h)
theorem G1 (a : Act) (ps : Array (Nat × Operand)) : (ps.map fun (i,x) => (i,a.eval x)).toList = ps.toList.map fun (i,x) => (i,a.eval x) := by simp
theorem Afm (hs : Sim P C w U) {E : Env} (hE : E.P = P) {tm : Tr AV} {a : Act} (hg : Gc C (nx U) w E) (ht : TR C (nx U) w tm a.tmps) {o : Oper} {v : AV} (h : Az E o.op tm U = some (v,U')) :
  Q2 P C w U (execOp a.eval o) v U' /\ (∀ x w',(execOp a.eval o).run P w ≠ .ok x w' ∨ (∃ y,x = .value y) ∨ x = .skip) := by
 have key : Q2 P C w U (execOp a.eval o) v U' := by
  subst hE;obtain ⟨dst,op,ty,pos,after,guard⟩ := o;have O := fun x => Br hg ht x
  have OO := fun x => Aib hg ht x
  cases op <;> simp only [Az] at h <;> try (cases h; done)
  case move x => unfold Yc at h; cases h; exact ⟨_,w,C,.inl rfl,O x,hs,by_ _ _ _⟩
  case assign x => unfold Yc at h; cases h; exact ⟨_,w,C,.inl rfl,O x,hs,by_ _ _ _⟩
  case pick c x y =>
   have hc := O c;unfold Abx at h
   split at h
   ·rename_i heq; rw [heq] at hc; unfold R at hc
    cases h
    exact ⟨_,w,C,.inl (by simp [execOp,hc,asBool]),O x,hs,by_ _ _ _⟩
   ·rename_i heq; rw [heq] at hc; unfold R at hc
    cases h
    exact ⟨_,w,C,.inl (by simp [execOp,hc,asBool]),O y,hs,by_ _ _ _⟩
   ·cases h
  case nilCheck x =>
   obtain ⟨rfl,h1,h2⟩ := We (O x) h dst x a.eval rfl ty pos after guard;exact ⟨_,w,C,.inl h1,h2,hs,by_ _ _ _⟩
  case alloc t =>
   split at h
   ·rename_i ti hti
    split at h
    ·rename_i z hz; exact .ofRuns (Adz hs hti hz h)
    ·cases h
   ·cases h
  case box t x =>
   split at h
   ·rename_i ti hti; exact .ofRuns (Ah7 hs (O x) h)
   ·cases h
  case build t parts =>
   split at h
   ·rename_i ti hti
    split at h
    ·rename_i z fs hz hd
     split at h
     ·rename_i ps hi hps
      obtain ⟨pl,hpl,hat⟩ := Mv hi
      refine .ofPure hs (Sp hti hd hz hi (place := (pl.toArray[·]?)) (fun pl' h' => by rw [hpl] at h'; cases h'; rfl) (ps := ps) ?_ h)
      rw [G1]
      exact Qg rfl hg ht (fun i f hf => by obtain ⟨fi,k1,k2⟩ := hat i f hf; exact ⟨fi,k1,by simpa using k2⟩) hps
     ·cases h
    ·rename_i z n e hz hd
     split at h
     ·rename_i te hte
      refine .ofPure hs (Yq hti hd hte hz ?_ h);rw [G1];exact I3 hg ht _ _
     ·cases h
    ·cases h
   ·cases h
  case buildSlice t len parts =>
   split at h
   ·rename_i ti hti
    split at h
    ·rename_i e hd
     split at h
     ·rename_i te hte
      split at h
      ·rename_i z hz
       split at h
       ·rename_i hb
        rw [af_] at hb;refine .ofRuns (Ll hs hti hd hte hz (ac_ hb.2) (aj_ hb.1) ?_ h).1;rw [G1];exact I3 hg ht _ _
       ·cases h
      ·cases h
     ·cases h
    ·cases h
   ·cases h
  case load t x =>
   split at h
   ·rename_i ti hti; exact .ofPure hs (N2 hs hti (O x) h)
   ·cases h
  case store t x y =>
   split at h
   ·rename_i ti hti
    obtain ⟨h1,w',h2,h3,h4⟩ := Ad0 hs hti (O x) (O y) h
    exact .ofUnit ⟨h1,w',h2,h3,by have := h4.trans (by_ _ _ _); exact this⟩
   ·cases h
  case binOp op t x y _ =>
   unfold Vy at h
   split at h
   ·rename_i u hu; cases h; exact .ofPure hs ⟨rfl,Ah5 (O x) (O y) hu⟩
   ·cases h
  case unOp op t x =>
   unfold Vy at h
   split at h
   ·rename_i u hu; cases h; exact .ofPure hs ⟨rfl,Al1 (O x) hu⟩
   ·cases h
  case convert s d x =>
   split at h
   ·rename_i ts td hts htd
    obtain ⟨_,ds,_,s2,s3,_⟩ := Ar hts;obtain ⟨_,dd,_,d2,d3,_⟩ := Ar htd
    split at h
    ·rename_i k hd; exact .ofPure hs (Yt s2 (d2.trans (by rw [← d3,hd])) (O x) h)
    ·rename_i k hd; exact .ofPure hs (Yu s2 (d2.trans (by rw [← d3,hd])) (O x) h)
    ·rename_i hd
     split at h
     ·rename_i hd'; exact .ofPure hs (Yv s2 (d2.trans (by rw [← d3,hd])) (O x) h)
     ·rename_i e hd'
      split at h
      ·rename_i te hte
       obtain ⟨_,de,_,e2,e3,_⟩ := Ar hte
       split at h
       ·rename_i hde; exact .ofPure hs (Qz hs (s2.trans (by rw [← s3,hd'])) (d2.trans (by rw [← d3,hd])) (e2.trans (by rw [← e3,hde])) (O x) h)
       ·cases h
      ·cases h
     ·cases h
    ·rename_i e hd
     split at h
     ·rename_i te hd' hte
      obtain ⟨_,de,_,e2,e3,_⟩ := Ar hte
      split at h
      ·rename_i hde; exact .ofRuns (Q0 hs (s2.trans (by rw [← s3,hd'])) (d2.trans (by rw [← d3,hd])) (e2.trans (by rw [← e3,hde])) (O x) h).2
      ·cases h
     ·cases h
    ·cases h
   ·cases h
  case makeInterface t x =>
   split at h
   ·rename_i ti hti
    obtain ⟨_,d,_,g2,g3,_⟩ := Ar hti
    split at h
    ·cases h
    ·rename_i hd
     unfold sIfc at h; cases h
     refine .ofPure hs ⟨rfl,.iface t (a.eval x),?_,by unfold R; exact ⟨_,rfl,O x⟩⟩
     have hnd : ∀ m,d ≠ .interface m := fun m hm => hd m (g3.trans hm)
     unfold Instr.makeInterface;simp only [Sem.run_bind,Aa g2,Result.andThen_ok]
     cases d <;> first | rfl | exact absurd rfl (hnd _)
   ·cases h
  case makeFunc f first cap =>
   unfold Ajz at h; cases h;refine .ofPure hs ⟨rfl,.func f (first.map a.eval) (cap.map a.eval),rfl,?_⟩;unfold R;refine ⟨_,_,rfl,?_,?_⟩
   ·rw [cb_]; exact Dw hg ht _
   ·rw [cb_]; exact Dw hg ht _
  case makeMap t r =>
   split at h
   ·rename_i ti hti
    split at h
    ·rename_i hd; exact .ofRuns (Y1 hs h)
    ·rename_i hd; exact .ofRuns (Wl hs hti hd (O _) h)
    ·cases h
   ·cases h
  case makeSlice t l c =>
   split at h
   ·rename_i ti hti
    split at h
    ·rename_i e hd
     split at h
     ·rename_i te hte
      split at h
      ·rename_i z hz
       split at h
       ·rename_i hb; exact .ofRuns (T5 hs hti hd hte hz (ac_ hb) (O l) (O c) h)
       ·cases h
      ·cases h
     ·cases h
    ·cases h
   ·cases h
  case slice t x lo hi mx =>
   split at h
   ·rename_i ti hti
    split at h
    ·rename_i hd
     split at h
     ·exact .ofPure hs (Wd hti hd (O x) (OO lo) (OO hi) h)
     ·cases h
    ·rename_i e hd
     split at h
     ·rename_i te hte; exact .ofPure hs (Ady hti hd hte (O x) (OO lo) (OO hi) (OO mx) h)
     ·cases h
    ·rename_i n e hd
     split at h
     ·rename_i te hte
      refine .ofPure hs (Wf hti hd hte (O x) (fun b vs hb hne => ?_) (OO lo) (OO hi) (OO mx) h)
      obtain ⟨c,o',cs,T,k1,k2,k3⟩ := hs.obj b _ hb;exact ⟨c,o',k1,k3.room hne⟩
     ·cases h
    ·cases h
   ·cases h
  case fieldAddr t x i =>
   split at h
   ·rename_i ti hti
    split at h
    ·rename_i fs hd
     split at h
     ·rename_i f hf
      split at h
      ·rename_i tf htf
       split at h
       ·cases h
       ·rename_i n hn
        unfold Anp at h
        split at h
        ·rename_i u hu; cases h; exact .ofPure hs ⟨rfl,Abe hti hd hf htf (by rw [hn]; simp) (O x) hu⟩
        ·cases h
      ·cases h
     ·cases h
    ·cases h
   ·cases h
  case field t x i =>
   split at h
   ·rename_i ti hti
    split at h
    ·rename_i fs hd
     split at h
     ·rename_i f hf
      split at h
      ·rename_i tf htf
       have hx := O x;unfold Yd at h
       split at h
       ·rename_i cs heq
        rw [heq] at hx
        split at h
        ·rename_i u hu; cases h; exact .ofPure hs ⟨rfl,Afh hti hd hf htf hx hu⟩
        ·cases h
       ·cases h
      ·cases h
     ·cases h
    ·cases h
   ·cases h
  case indexAddr t x i =>
   split at h
   ·rename_i ti hti
    split at h
    ·rename_i e hd
     split at h
     ·rename_i te hte; exact .ofPure hs (T3 hti hd hte (O x) (O i) h)
     ·cases h
    ·rename_i len e hd
     split at h
     ·rename_i te hte; exact .ofPure hs (P9 hti hd hte (O x) (O i) h)
     ·cases h
    ·cases h
   ·cases h
  case index t x i =>
   split at h
   ·rename_i ti hti
    split at h
    ·rename_i hd; exact .ofPure hs (Wb hti hd (O x) (O i) h)
    ·rename_i len e hd
     split at h
     ·rename_i te hte; exact .ofPure hs (Wg hti hd hte (O x) (O i) h)
     ·cases h
    ·cases h
   ·cases h
  case lookup t m k ok =>
   split at h
   ·rename_i ti hti
    split at h
    ·rename_i kt et hd
     split at h
     ·rename_i te hte
      split at h
      ·rename_i z hz; exact .ofPure hs (Abh hs hti hd hte hz (O k) (O m) h)
      ·cases h
     ·cases h
    ·cases h
   ·cases h
  case mapUpdate t m k x =>
   split at h
   ·rename_i ti hti
    split at h
    ·rename_i kt et hd
     split at h
     ·rename_i te hte; exact .ofUnit (T6 hs hti hd (O k) (O m) (O x) h)
     ·cases h
    ·cases h
   ·cases h
  case mapEntry t m k =>
   split at h
   ·rename_i ti hti
    split at h
    ·rename_i kt et hd
     split at h
     ·rename_i te hte
      split at h
      ·rename_i z hz; exact .ofRuns (Wj hs hti hd hte hz (O k) (O m) h)
      ·cases h
     ·cases h
    ·cases h
   ·cases h
  case entryStore t m st x =>
   split at h
   ·rename_i ti hti
    split at h
    ·rename_i kt et hd
     split at h
     ·rename_i te hte; exact .ofUnit (Su hs (O m) (O st) (O x) h)
     ·cases h
    ·cases h
   ·cases h
  case range t x =>
   split at h
   ·rename_i ti hti
    split at h
    ·rename_i kt et hd; exact .ofRuns (Ad5 hs hti hd (O x) h)
    ·cases h
   ·cases h
  case entry x => exact .ofPure hs (Ad6 hs (O x) h)
  case extract x i => exact .ofPure hs (Yp (O x) h)
  case typeAssert x xt t ok =>
   split at h
   ·rename_i ti hti
    split at h
    ·cases h
    ·rename_i hd; exact .ofPure hs (Abf hti (fun m hm => hd m hm) (O x) h)
   ·cases h
  case call c =>
   split at h
   ·rename_i b hb
    split at h
    ·rename_i t ts x xs hts hxs
     split at h
     ·rename_i ti hti
      obtain ⟨cs,e⟩ : ∃ cs,execOp a.eval ⟨dst,.call c,ty,pos,after,guard⟩ = builtin b c.argTypes ty cs (c.args.map a.eval) := ⟨_,by simp only [execOp,resolve,hb]; rfl⟩
      rw [e];have := Y3 hs rfl hti (O x) (Dw hg ht xs) h ty cs
      have e1 : (t :: ts).toArray = c.argTypes := by apply Pl; rw [hts]
      have e2 : (a.eval x :: xs.map a.eval).toArray = c.args.map a.eval := by apply Pl; rw [cb_,hxs]; rfl
      rw [e1,e2] at this;exact this
     ·cases h
    ·cases h
   ·cases h
 refine ⟨key,fun x w' => ?_⟩
 obtain ⟨y,w₂,_,h1,_⟩ := key
 rcases h1 with h1 | ⟨h1,_⟩
 ·by_cases hx : x = .value y
  ·exact .inr (.inl ⟨y,hx⟩)
  ·exact .inl (by rw [h1]; intro hh; cases hh; exact hx rfl)
 ·by_cases hx : x = .skip
  ·exact .inr (.inr hx)
  ·exact .inl (by rw [h1]; intro hh; cases hh; exact hx rfl)
end
def DR (C : Ctx) (N : Nat) (w : World) : List (Nat × List AV) -> List Deferred -> Prop
 | [],[] => True
 | x :: r,d :: s => ((x.1 ≠ Fo /\ ∃ cap,d.target = .fn (.func x.1) cap /\ RL C N w x.2 (d.args ++ cap).toList) ∨
   (x.1 = Fo /\ ∃ a b,x.2 = [.yl a,.yl b] /\ (a < N /\ b < N /\ (C.stm b).toNat <= (C.stm a).toNat) /\ d = { target := .collected (C.stm a).toNat,args := #[] } /\ ¬ C.own (C.stm a).toNat /\ w.heap[(C.stm a).toNat]? = some (.deferred (some [])))) /\ DR C N w r s
 | _,_ => False
structure SSt (E : Env) (C : Ctx) (w : World) (s : St) (a : Act) : Prop where
 sim : Sim E.P C w s.sto
 glob : Gc C (nx s.sto) w E
 tmps : TR C (nx s.sto) w s.tm a.tmps
 size : a.tmps.size = s.nt
 dfs : DR C (nx s.sto) w s.df a.defers
def Q3 (P : Program) (f : FuncId) : Prop := ∃ fn, P.funcs[f]? = some fn /\ (fn.name == "runtime.NumGoroutine") = false /\ fn.body.isNone = false
def Ar1 (P : Program) (C : Ctx) (N : Nat) (w : World) (v : AV) (U' : Sto) : Ending -> World -> Prop
 | .returned x,w' => ∃ C',Sim P C' w' U' /\ Ext C N w C' (nx U') w' /\ R C' (nx U') w' v x
 | _,_ => False
def Ev (E : Env) (f : Nat) (g : List AV -> Sto -> Res) : Prop :=
 ∀ (C : Ctx) (w : World) (U : Sto) (args : List AV) (vs : Array Value) (v : AV) (U' : Sto),Sim E.P C w U -> Gc C (nx U) w E -> RL C (nx U) w args vs.toList -> g args U = some (v,U') ->
  Q3 E.P f /\ Calls E.P f vs w (Ar1 E.P C (nx U) w v U')
def Be (E : Env) (Rr : Rec) : Prop := ∀ f,Ev E f (Rr f)
section
variable {E : Env} {C C' : Ctx} {N N' : Nat} {w w' : World} {Rr : Rec}
theorem DR.ext (e : Ext C N w C' N' w') : ∀ {l : List (Nat × List AV)} {ds : List Deferred},DR C N w l ds -> DR C' N' w' l ds
 | [],[],_ => by unfold DR; trivial
 | x :: r,d :: s,h => by
  unfold DR at *;obtain ⟨h,h3⟩ := h;refine ⟨?_,DR.ext e h3⟩
  rcases h with ⟨h0,cap,h1,h2⟩ | ⟨h0,a,b,h1,⟨h2,hb,hle⟩,h3,h4,h5⟩
  ·exact .inl ⟨h0,cap,h1,h2.ext e⟩
  ·obtain ⟨k1,k2⟩ := e.keep _ (ba_.1 h5).1 h4;refine .inr ⟨h0,a,b,h1,?_⟩;rw [e.stm a h2,e.stm b hb];exact ⟨⟨al_ h2 e.next,al_ hb e.next,hle⟩,h3,k1,k2.trans h5⟩
 | [],_ :: _,h => by unfold DR at h; exact h.elim
 | _ :: _,[],h => by unfold DR at h; exact h.elim
theorem Abl (a : Act) (v : Value) : (a.put none v) = a := rfl
theorem TR.put {tm tm' : Tr AV} {a : Act} {nt : Nat} {dst : Option Nat} {v : AV} {x : Value} (ht : TR C N w tm a.tmps) (hsz : a.tmps.size = nt) (h : Jx dst tm nt v = some tm') (hx : R C N w v x) :
  TR C N w tm' (a.put dst x).tmps /\ (a.put dst x).tmps.size = nt /\ (a.put dst x).defers = a.defers := by
 cases dst with
 | none => simp only [Jx,ad_] at h; subst h; exact ⟨ht,hsz,rfl⟩
 | some d =>
  simp only [Jx,Ei] at h;cases hb : Nat.blt d nt
  ·simp [hb] at h
  ·simp only [hb,cond_true,ad_] at h;subst h;have hlt : d < nt := aj_ hb
   refine ⟨fun i y hy => ?_,by simp [Act.put,hsz],rfl⟩
   rw [de_] at hy;simp only [Act.put]
   by_cases hi : i = d
   ·subst hi;rw [if_pos rfl] at hy; cases hy
    simp [hsz,hlt]; exact hx
   ·rw [if_neg hi] at hy;have := ht i y hy
    simpa [cv_ (fi_ hi)] using this
theorem SSt.put {s : St} {a : Act} {U' : Sto} {dst : Option Nat} {v : AV} {x : Value} {tm' : Tr AV} (st : SSt E C w s a) (hs : Sim E.P C' w' U') (e : Ext C (nx s.sto) w C' (nx U') w') (hx : R C' (nx U') w' v x) (h : Jx dst s.tm s.nt v = some tm') :
  SSt E C' w' ⟨tm',s.nt,s.df,U'⟩ (a.put dst x) := by
 obtain ⟨h1,h2,h3⟩ := TR.put (st.tmps.ext e) st.size h hx
 exact ⟨hs,st.glob.ext e,h1,h2,by rw [h3]; exact st.dfs.ext e⟩
theorem Sv : R C N w Au undef := by unfold Au R; exact ⟨#[],rfl,by unfold RL; trivial⟩
theorem Anx {x : AV} {v : Value} (h : R C N w x v) (h1 : x ≠ .any) (h2 : ∀ b,x ≠ .bool b) (b : Bool) : v ≠ .bool b := by
 intro hv;subst hv;cases x <;> unfold R at h
 case any => exact h1 rfl
 case bool b' => exact h2 _ rfl
 case nil y => obtain ⟨rfl,h⟩ := h; simp [Ut] at h
 all_goals first
  | (cases h; done)
  | (obtain ⟨_,h,_⟩ := h; cases h; done)
  | (obtain ⟨_,_,h,_⟩ := h; cases h; done)
  | (obtain ⟨h,_⟩ := h; cases h; done)
theorem Ge {ops : Array Oper} {o : Oper} {tm : Tr AV} {a : Act} (ht : TR C N w tm a.tmps) {b : Bool} (h : Co ops.toList o tm = some b) : Region.wanted o (yielded ops a.tmps) = b := by
 unfold Co at h;unfold Region.wanted
 split at h
 ·rename_i hg; rw [hg]; cases h; rfl
 ·rename_i j want hg
  rw [hg];simp only
  split at h
  ·rename_i oj hoj
   have kh : ops[j]? = some oj := by simpa using hoj
   split at h
   ·rename_i d hd
    have hy1 : ∀ b,a.tmps[d]? = some (.bool b) -> yielded ops a.tmps j = some b := fun b hh => by
     unfold yielded; simp [kh,hd,hh]
    have hy2 : (∀ b,a.tmps[d]? ≠ some (.bool b)) -> yielded ops a.tmps j = none := fun hh => by
     unfold yielded;simp only [kh,fn_,hd]
    split at h
    ·rename_i b' b9
     cases h;have := ht d _ b9;unfold R at this
     have hh : a.tmps[d]? = some (.bool b') := by
      cases hh : a.tmps[d]? with
      | none => simp [hh,undef] at this
      | some z => simp [hh] at this; rw [this]
     rw [hy1 b' hh];cases b' <;> cases want <;> rfl
    ·cases h
    ·rename_i x hx1 hx2 b9
     cases h;have hr := ht d _ b9;have hnb := Anx hr (fun hh => hx2 hh) (fun b hh => hx1 b hh)
     rw [hy2 fun b hh => by
      have := hnb b;rw [bd_,hh] at this;exact this rfl]
     rfl
    ·cases h
   ·cases h
  ·cases h
theorem Abm (m : String) (x : Value) (args : Array Value) : invoke (.fn (.method m) #[]) (#[x] ++ args) = callMethod x m args := by
 have b9 : (#[x] ++ args)[0]? = some x := by rw [cw_ (by simp)]; rfl
 have hex : (#[x] ++ args).extract 1 (#[x] ++ args).size = args := by
  apply Array.ext'
  simp
 simp only [invoke,b9,hex]
theorem Al3 (a : Array TypeId) (t : TypeId) (ad : Addr) (name : String) : Builtin.ssaWrapNilChk_ a t #[.pointer (some ad), strVal "", strVal name] = pure (.pointer (some ad)) := rfl
theorem Abn {U : Sto} (hs : Sim E.P C w U) {t : TypeId} {name : String} {x : AV} {X : Value} (hx : R C (nx U) w x X) {f : Nat} {y : AV} (h : Adw E t name x U = some (f,y)) :
  ∃ Y,(method (E.P.types.size + Made.depth) t X name).run E.P w = .ok (f,Y) w /\ R C (nx U) w y Y := by
 obtain ⟨fl,ke⟩ : ∃ fl,E.P.types.size + Made.depth = fl + 1 := ⟨_,rfl⟩;rw [ke];unfold Adw at h
 split at h
 ·rename_i i hi
  split at h
  ·rename_i m hm
   split at h
   ·rename_i iy
    have hpe : m.path.isEmpty = true := by
     have : m.path = #[] := by rw [← Array.toArray_toList (xs := m.path),iy]
     rw [this]; rfl
    split at h
    ·rename_i g ptr hg
     split at h
     ·rename_i d hd
      have start : ∀ r : Sem Value, ∀ Y, r.run E.P w = .ok Y w -> (r = receiverAt t (.val X) ptr (some ((name.splitOn ".").getLastD name))) ->
        (method (fl + 1) t X name).run E.P w = .ok (g,Y) w := by
       intro r Y hr he;subst he;simp only [method,typeInfo,Sem.run_bind,run_program,Result.andThen_ok,hi,Sem.run_pure,hm,iy,follow,hg,hpe,if_true,hr]
      split at h
      ·rename_i e
       split at h
       ·cases h;refine ⟨X,start _ X ?_ rfl,hx⟩;simp only [receiverAt,Sem.run_bind,Aa hd,Result.andThen_ok,Place.get,Sem.run_pure]
       ·split at h
        ·rename_i te hte
         split at h
         ·rename_i u U' hu
          cases h;obtain ⟨_,Y,h1,h2⟩ := N2 hs hte hx hu
          have hX : ∃ ad,X = .pointer (some ad) := by
           unfold L6 at hu
           split at hu
           ·unfold R at hx; obtain ⟨ad,hx,_⟩ := hx; exact ⟨ad,hx⟩
           ·unfold R at hx; obtain ⟨c,o,hx,_⟩ := hx; exact ⟨_,hx⟩
           ·cases hu
          obtain ⟨ad,rfl⟩ := hX;refine ⟨Y,start _ Y ?_ rfl,h2⟩;simp only [receiverAt,Sem.run_bind,Aa hd,Result.andThen_ok,Place.get,Sem.run_pure,Al3];have e1 : (Instr.loadAt e (.pointer (some ad))) = loadVar e ad := rfl;have e2 : (asAddr (.pointer (some ad))) = pure ad := rfl;rw [e1] at h1;simp only [e2,Sem.run_pure,Result.andThen_ok,h1]
         ·cases h
        ·cases h
      ·rename_i hnp
       split at h
       ·cases h
       ·cases h;refine ⟨X,start _ X ?_ rfl,hx⟩;cases d with
        | pointer e => exact absurd rfl (hnp e)
        | _ => simp only [receiverAt,Sem.run_bind,Aa hd,Result.andThen_ok,Place.get,Sem.run_pure]
     ·cases h
    ·cases h
   ·cases h
  ·cases h
 ·cases h
theorem T7 (hR : Be E Rr) {s : St} {a : Act} (st : SSt E C w s a) {o : Oper} {v : AV} {U' : Sto} (h : opA E o.op Rr s.tm s.sto = some (v,U')) {K : Act -> World -> Prop} {Q : Exit -> Act -> World -> Prop}
  (hK : ∀ C' w' x,Sim E.P C' w' U' -> Ext C (nx s.sto) w C' (nx U') w' -> R C' (nx U') w' v x -> K (a.put o.dst x) w') : o.wp E.P a w K Q := by
 have viaStep : Az E o.op s.tm s.sto = some (v,U') -> o.wp E.P a w K Q := by
  intro h;obtain ⟨x,w',C',h1,h2,h3,h4⟩ := (Afm st.sim rfl st.glob st.tmps h).1;unfold Oper.wp
  rcases h1 with h1 | ⟨h1,rfl⟩
  ·rw [h1,Oper.upon_value]; exact hK C' w' x h3 h4 h2
  ·rw [h1,Oper.upon_skip]; exact hK C' w' undef h3 h4 h2
 cases hop : o.op with
 | call c =>
  cases hc : c.callee with
  | value f =>
   rw [hop] at h;simp only [opA,hc] at h
   split at h
   ·rename_i k args hk
    unfold Ph at hk
    split at hk
    ·rename_i k' first cap hf
     cases hk;have hV := Br st.glob st.tmps f;rw [hf] at hV;unfold R at hV;obtain ⟨p,q,hV,hp,hq⟩ := hV;have bj := Dw st.glob st.tmps c.args.toList
     have bi : RL C (nx s.sto) w (first ++ opds E s.tm c.args.toList ++ cap) (p ++ c.args.map a.eval ++ q).toList := by
      simp only [db_,cb_];exact (hp.append bj).append hq
     obtain ⟨⟨fn,g1,g2,g3⟩,bo⟩ := hR k C w s.sto _ _ v U' st.sim st.glob bi h
     have bx : (execOp a.eval o).run E.P w = .ok (.enter k (p ++ c.args.map a.eval ++ q)) w := by
      have g2' : fn.name ≠ "runtime.NumGoroutine" := by simpa using g2
      have g3' : fn.body ≠ none := fun hh => by rw [hh] at g3; cases g3
      simp [execOp,hop,resolve,hc,hV,Deferred.ofValue,invoke,callFunc,g1,g2',g3']
     unfold Oper.wp;rw [bx,Oper.upon_enter];refine bo.mono fun e w' he => ?_
     cases e with
     | returned x => obtain ⟨C',k1,k2,k3⟩ := he; exact hK C' w' x k1 k2 k3
     | panicked _ => exact he.elim
     | outgrown => exact he.elim
    ·cases hk
   ·cases h
  | invoke r m =>
   rw [hop] at h;simp only [opA,hc] at h
   split at h
   ·rename_i t v' hr
    split at h
    ·rename_i f rv hm
     have hV := Br st.glob st.tmps r;rw [hr] at hV;unfold R at hV;obtain ⟨X,hV,hX⟩ := hV;obtain ⟨Y,h1,h2⟩ := Abn st.sim hX hm;have bj := Dw st.glob st.tmps c.args.toList
     have bi : RL C (nx s.sto) w (rv :: opds E s.tm c.args.toList) (#[Y] ++ c.args.map a.eval).toList := by
      simp only [db_,cb_]
      show RL _ _ _ _ (Y :: _)
      unfold RL;exact ⟨h2,bj⟩
     obtain ⟨⟨fn,g1,g2,g3⟩,bo⟩ := hR f C w s.sto _ _ v U' st.sim st.glob bi h
     have bx : (execOp a.eval o).run E.P w = .ok (.enter f (#[Y] ++ c.args.map a.eval)) w := by
      have g2' : fn.name ≠ "runtime.NumGoroutine" := by simpa using g2
      have g3' : fn.body ≠ none := fun hh => by rw [hh] at g3; cases g3
      have e1 : execOp a.eval o = callMethod (a.eval r) m (c.args.map a.eval) := by
       have : execOp a.eval o = invoke (.fn (.method m) #[]) (#[a.eval r] ++ c.args.map a.eval) := by
        simp only [execOp,hop,resolve,hc,pure_bind]
       rw [this,Abm]
      rw [e1,hV];simp only [callMethod,Sem.run_bind,run_program,Result.andThen_ok,h1,callFunc,g1]
      simp [g2',g3']
     unfold Oper.wp;rw [bx,Oper.upon_enter];refine bo.mono fun e w' he => ?_
     cases e with
     | returned x => obtain ⟨C',k1,k2,k3⟩ := he; exact hK C' w' x k1 k2 k3
     | panicked _ => exact he.elim
     | outgrown => exact he.elim
    ·cases h
   ·cases h
  | builtin b => refine viaStep ?_; rw [hop] at h ⊢; simpa only [opA,hc] using h
 | _ => refine viaStep ?_; rw [hop] at h ⊢; exact h
theorem Q4 (hR : Be E Rr) {s s' : St} {a : Act} (st : SSt E C w s a) {ops : Array Oper} {o : Oper} (h : Nq E ops.toList o Rr s = some s') {K : Act -> World -> Prop} {Q : Exit -> Act -> World -> Prop}
  (hK : ∀ C' w' a',SSt E C' w' s' a' -> Ext C (nx s.sto) w C' (nx s'.sto) w' -> K a' w') :
  (Region.wanted o (yielded ops a.tmps) = true /\ o.wp E.P a w K Q) ∨ (Region.wanted o (yielded ops a.tmps) = false /\ K (a.put o.dst undef) w) := by
 unfold Nq at h
 split at h
 ·rename_i hg
  refine .inl ⟨Ge st.tmps hg,?_⟩
  split at h
  ·rename_i c hop
   split at h
   ·rename_i f hc hd
    split at h
    ·rename_i ka hk
     cases g8 : Nat.beq ka.1 Fo
     case true => simp [g8] at h
     simp only [g8,cond_false,ad_] at h;subst h
     have oi : ka.1 ≠ Fo := fun hh => by rw [hh] at g8; cases g8
     unfold Ph at hk
     split at hk
     ·rename_i k' first cap hf
      cases hk;have hV := Br st.glob st.tmps f;rw [hf] at hV;unfold R at hV;obtain ⟨p,q,hV,hp,hq⟩ := hV;have bj := Dw st.glob st.tmps c.args.toList
      have bx : (execOp a.eval o).run E.P w = .ok (.defer { target := .fn (.func k') q,args := p ++ c.args.map a.eval }) w := by
       simp [execOp,hop,resolve,hc,hV,Deferred.ofValue]
      unfold Oper.wp;rw [bx,Oper.upon_defer,hd,Abl];refine hK C w _ ⟨st.sim,st.glob,st.tmps,st.size,?_⟩ (by_ _ _ _);unfold DR;refine ⟨.inl ⟨oi,q,rfl,?_⟩,st.dfs⟩;simp only [db_,cb_];exact (hp.append bj).append hq
     ·cases hk
    ·cases h
   ·cases h
  ·split at h
   ·rename_i v U' hv
    split at h
    ·rename_i tm htm
     cases h;exact T7 hR st hv fun C' w' x k1 k2 k3 => hK C' w' _ (st.put k1 k2 k3 htm) k2
    ·cases h
   ·cases h
 ·rename_i hg
  refine .inr ⟨Ge st.tmps hg,?_⟩
  split at h
  ·rename_i tm htm
   cases h;exact hK C w _ (st.put st.sim (by_ _ _ _) Sv htm) (by_ _ _ _)
  ·cases h
 ·cases h
theorem I4 (hR : Be E Rr) {ops : Array Oper} {Q : Exit -> Act -> World -> Prop} {s' : St} : ∀ (r : List Oper) (i : Nat) (C : Ctx) (w : World) (s : St) (a : Act),(∀ j,r[j]? = ops[i + j]?) -> SSt E C w s a -> Jy E ops.toList Rr r s = some s' ->
  (∀ C' w' a',SSt E C' w' s' a' -> Ext C (nx s.sto) w C' (nx s'.sto) w' -> Q .normal a' w') -> wpOps E.P ops Q (List.range' i r.length) a w
 | [],i,C,w,s,a,_,st,h,hQ => by
  simp only [Jy,ad_] at h; subst h;simp only [cs_,go_,wpOps];exact hQ C w a st (by_ _ _ _)
 | o :: r,i,C,w,s,a,hr,st,h,hQ => by
  simp only [Jy] at h
  split at h
  ·rename_i s1 h1
   have ho : ops[i]? = some o := by have := hr 0; simpa using this.symm
   simp only [at_,d_,wpOps,ho];have := Q4 (K := wpOps E.P ops Q (List.range' (i + 1) r.length)) (Q := Q) hR st h1 fun C' w' a' st' e' =>
    I4 hR r (i + 1) C' w' s1 a' (fun j => by have := hr (j + 1); simp only [be_] at this; rw [this]; congr 1; omega) st' h fun C2 w2 a2 st2 e2 => hQ C2 w2 a2 st2 (e'.trans e2)
   rcases this with ⟨h2,h3⟩ | ⟨h2,h3⟩
   ·rw [if_pos h2]; exact .inl h3
   ·rw [if_neg (by rw [h2]; simp)]; exact h3
  ·cases h
end
section
theorem Ab7 {a b : List Nat} (h : Ft a b = true) : a = b := (Fx a b).1 h
theorem Afn {a b : Int} (h : Rv a b = true) : a = b := by rw [Ir] at h; exact eq_of_beq h
theorem Aj8 {a b : Option Nat} (h : beqO a b = true) : a = b := by
 cases a <;> cases b <;> simp only [beqO] at h
 ·rfl
 ·cases h
 ·cases h
 ·rw [ac_ h]
theorem Al4 {a b : Value} (h : Ah2 a b = true) : a = b := by
 unfold Ah2 at h
 split at h <;> first | rfl | cases h
theorem Anz {a b : Fn} (h : Anr a b = true) : a = b := by
 unfold Anr at h
 split at h
 ·rw [ac_ h]
 ·cases h
mutual
theorem AV.beq_eq : ∀ (x y : AV),AV.beq x y = true -> x = y
 | .any,y,h => by cases y <;> simp only [AV.beq] at h <;> first | rfl | cases h
 | .bool a,y,h => by
  cases y <;> simp only [AV.beq] at h <;> first | (cases h; done) | skip
  rename_i b; cases a <;> cases b <;> first | rfl | cases h
 | .int k n,y,h => by
  cases y <;> simp only [AV.beq] at h <;> first | (cases h; done) | skip
  rw [af_] at h;rw [(Ks _ _).1 h.1,Afn h.2]
 | .str l,y,h => by
  cases y <;> simp only [AV.beq] at h <;> first | (cases h; done) | skip
  rw [Ab7 h]
 | .nil v,y,h => by
  cases y <;> simp only [AV.beq] at h <;> first | (cases h; done) | skip
  rw [Al4 h]
 | .pr a o,y,h => by
  cases y <;> simp only [AV.beq] at h <;> first | (cases h; done) | skip
  rw [af_] at h;rw [ac_ h.1,ac_ h.2]
 | .pv l,y,h => by
  cases y <;> simp only [AV.beq] at h <;> first | (cases h; done) | skip
  rw [AV.beqs_eq _ _ h]
 | .sr a o s n c,y,h => by
  cases y <;> simp only [AV.beq] at h <;> first | (cases h; done) | skip
  simp only [af_] at h;rw [ac_ h.1.1.1.1,ac_ h.1.1.1.2,ac_ h.1.1.2,ac_ h.1.2,Aj8 h.2]
 | .sv l s n c,y,h => by
  cases y <;> simp only [AV.beq] at h <;> first | (cases h; done) | skip
  simp only [af_] at h;rw [AV.beqs_eq _ _ h.1.1.1,ac_ h.1.1.2,ac_ h.1.2,Aj8 h.2]
 | .mp a,y,h => by
  cases y <;> simp only [AV.beq] at h <;> first | (cases h; done) | skip
  rw [ac_ h]
 | .it a,y,h => by
  cases y <;> simp only [AV.beq] at h <;> first | (cases h; done) | skip
  rw [ac_ h]
 | .stp a,y,h => by
  cases y <;> simp only [AV.beq] at h <;> first | (cases h; done) | skip
  rw [ac_ h]
 | .flt k a,y,h => by
  cases y <;> simp only [AV.beq] at h <;> first | (cases h; done) | skip
  simp only [af_,decide_eq_true_eq] at h;rw [h.1,ac_ h.2]
 | .yl a,y,h => by
  cases y <;> simp only [AV.beq] at h <;> first | (cases h; done) | skip
  rw [ac_ h]
 | .fn f a b,y,h => by
  cases y <;> simp only [AV.beq] at h <;> first | (cases h; done) | skip
  simp only [af_] at h;rw [Anz h.1.1,AV.beqs_eq _ _ h.1.2,AV.beqs_eq _ _ h.2]
 | .ifc t a,y,h => by
  cases y <;> simp only [AV.beq] at h <;> first | (cases h; done) | skip
  rw [af_] at h;rw [ac_ h.1,AV.beq_eq _ _ h.2]
 | .agg l,y,h => by
  cases y <;> simp only [AV.beq] at h <;> first | (cases h; done) | skip
  rw [AV.beqs_eq _ _ h]
 | .tup l,y,h => by
  cases y <;> simp only [AV.beq] at h <;> first | (cases h; done) | skip
  rw [AV.beqs_eq _ _ h]
theorem AV.beqs_eq : ∀ (l m : List AV),AV.beqs l m = true -> l = m
 | [],m,h => by cases m <;> simp only [AV.beqs] at h <;> first | rfl | cases h
 | x :: r,m,h => by
  cases m <;> simp only [AV.beqs] at h <;> first | (cases h; done) | skip
  rw [af_] at h;rw [AV.beq_eq _ _ h.1,AV.beqs_eq _ _ h.2]
end
def Le (x y : AV) : Prop := y = x ∨ y = .any
theorem Ad8 (x y : AV) : Le x (AV.join x y) := by
 unfold AV.join; cases h : AV.beq x y
 ·exact .inr rfl
 ·exact .inl rfl
theorem Ad9 (x y : AV) : Le y (AV.join x y) := by
 unfold AV.join; cases h : AV.beq x y
 ·exact .inr rfl
 ·exact .inl (AV.beq_eq _ _ h)
section
variable {C C' : Ctx} {N N' : Nat} {w w' : World} {P : Program}
theorem Le.R {x y : AV} (h : Le x y) {v : Value} (hr : R C N w x v) : R C N w y v := by
 rcases h with rfl | rfl
 ·exact hr
 ·unfold AM.R; trivial
inductive LeL : List AV -> List AV -> Prop
 | nil : LeL [] []
 | cons {x y r s} : Le x y -> LeL r s -> LeL (x :: r) (y :: s)
inductive LeE : List (Key × AV) -> List (Key × AV) -> Prop
 | nil : LeE [] []
 | cons {k l x y r s} : (∀ v,KV k v -> KV l v) -> Le x y -> LeE r s -> LeE ((k,x) :: r) ((l,y) :: s)
theorem LeL.RC {l m : List AV} (h : LeL l m) : ∀ {c o : Nat},RC C N w c l o -> RC C N w c m o := by
 induction h with
 | nil => intro c o _; unfold AM.RC; trivial
 | cons h1 _ ih =>
  intro c o hr;unfold AM.RC at hr ⊢;obtain ⟨⟨v,a,b,d⟩,e⟩ := hr;exact ⟨⟨v,a,b,h1.R d⟩,ih e⟩
theorem LeE.ER {l m : List (Key × AV)} (h : LeE l m) : ∀ {L : List MapEntry},ER C N w l L -> ER C N w m L := by
 induction h with
 | nil => intro L h; exact h
 | cons h1 h2 _ ih =>
  intro L hr;cases L with
  | nil => unfold AM.ER at hr; exact hr.elim
  | cons e L => unfold AM.ER at hr ⊢; exact ⟨⟨h1 _ hr.1.1,h2.R hr.1.2⟩,ih hr.2⟩
inductive LeO : AO -> AO -> Prop
 | cells {l m} : LeL l m -> LeO (.cells l) (.cells m)
 | map {kt es es' v} : LeE es es' -> LeO (.map kt es v) (.map kt es' v)
theorem Sw : ∀ {l m r : List AV},Ip l m = some r -> LeL l r /\ LeL m r
 | [],[],r,h => by simp only [Ip,ad_] at h; subst h; exact ⟨.nil,.nil⟩
 | x :: l,y :: m,r,h => by
  simp only [Ip] at h
  split at h
  ·rename_i s hs
   cases h;obtain ⟨h1,h2⟩ := Sw hs;exact ⟨.cons (Ad8 _ _) h1,.cons (Ad9 _ _) h2⟩
  ·cases h
 | [],_ :: _,r,h => by simp [Ip] at h
 | _ :: _,[],r,h => by simp [Ip] at h
mutual
theorem Key.eq_KV : ∀ (k l : Key),Key.eq k l = true -> ∀ v,KV l v -> KV k v
 | .bool a,l,h,v,hv => by
  cases l <;> simp only [Key.eq] at h <;> first | (cases h; done) | skip
  rename_i b; unfold KV at hv ⊢; cases a <;> cases b <;> first | exact hv | cases h
 | .int k n,l,h,v,hv => by
  cases l <;> simp only [Key.eq] at h <;> first | (cases h; done) | skip
  rw [af_] at h;unfold KV at hv ⊢;rw [(Ks _ _).1 h.1,Afn h.2]; exact hv
 | .str s,l,h,v,hv => by
  cases l <;> simp only [Key.eq] at h <;> first | (cases h; done) | skip
  unfold KV at hv ⊢;rw [Ab7 h]; exact hv
 | .agg a,l,h,v,hv => by
  cases l <;> simp only [Key.eq] at h <;> first | (cases h; done) | skip
  unfold KV at hv ⊢;obtain ⟨b,rfl,hb⟩ := hv;exact ⟨b,rfl,Key.eqs_KVs _ _ h _ hb⟩
theorem Key.eqs_KVs : ∀ (k l : List Key),Key.eqs k l = true -> ∀ v,KVs l v -> KVs k v
 | [],l,h,v,hv => by cases l <;> simp only [Key.eqs] at h <;> first | exact hv | cases h
 | x :: r,l,h,v,hv => by
  cases l <;> simp only [Key.eqs] at h <;> first | (cases h; done) | skip
  cases v with
  | nil => unfold KVs at hv; exact hv.elim
  | cons v vs =>
   unfold KVs at hv ⊢
   rename_i y s
   cases hb : Key.eq x y
   ·rw [hb] at h; cases h
   ·rw [hb] at h; exact ⟨Key.eq_KV _ _ hb _ hv.1,Key.eqs_KVs _ _ h _ hv.2⟩
end
theorem Ab8 : ∀ {l m r : List (Key × AV)},Qv l m = some r -> LeE l r /\ LeE m r
 | [],[],r,h => by simp only [Qv,ad_] at h; subst h; exact ⟨.nil,.nil⟩
 | (k,x) :: l,(k',y) :: m,r,h => by
  simp only [Qv] at h;cases hb : Key.eq k k'
  ·simp [hb] at h
  ·simp only [hb,cond_true] at h
   split at h
   ·rename_i s hs
    cases h;obtain ⟨h1,h2⟩ := Ab8 hs;exact ⟨.cons (fun v h => h) (Ad8 _ _) h1,.cons (Key.eq_KV _ _ hb) (Ad9 _ _) h2⟩
   ·cases h
 | [],_ :: _,r,h => by simp [Qv] at h
 | _ :: _,[],r,h => by simp [Qv] at h
theorem Afo {x y z : AO} (h : Ans x y = some z) : LeO x z /\ LeO y z := by
 unfold Ans at h
 split at h
 ·split at h
  ·rename_i l hl; cases h; obtain ⟨h1,h2⟩ := Sw hl; exact ⟨.cells h1,.cells h2⟩
  ·cases h
 ·rename_i k a v k' b v'
  cases hb : (Nat.beq v v' && Nat.beq k k')
  ·simp [hb] at h
  ·simp only [hb,cond_true] at h;rw [af_] at hb;have h1 := ac_ hb.1;have h2 := ac_ hb.2;subst h1 h2
   split at h
   ·rename_i l hl; cases h; obtain ⟨h1,h2⟩ := Ab8 hl; exact ⟨.map h1,.map h2⟩
   ·cases h
 ·cases h
theorem Pm : ∀ (s t : Tr AV) (i : Nat) (v : AV),(Gq s t).get i = some v -> ∃ x y,s.get i = some x /\ t.get i = some y /\ Le x v /\ Le y v
 | .n a l r,.n b l' r',i,v,h => by
  cases i with
  | zero =>
   cases a with
   | none => simp [Gq,er_] at h
   | some x =>
    cases b with
    | none => simp [Gq,er_] at h
    | some y => simp [Gq,er_] at h; subst h; exact ⟨x,y,rfl,rfl,Ad8 _ _,Ad9 _ _⟩
  | succ i =>
   have e : (Gq (.n a l r) (.n b l' r')).get (i + 1) = if i % 2 = 0 then (Gq l l').get (i / 2) else (Gq r r').get (i / 2) := by
    cases a <;> cases b <;> simp only [Gq,cj_]
   rw [e] at h;rw [cj_,cj_]
   by_cases hi : i % 2 = 0
   ·rw [if_pos hi] at h ⊢; rw [if_pos hi]; exact Pm l l' _ v h
   ·rw [if_neg hi] at h ⊢; rw [if_neg hi]; exact Pm r r' _ v h
 | .e,.e,i,v,h => by simp [Gq,Tr.get] at h
 | .e,.n _ _ _,i,v,h => by simp [Gq,Tr.get] at h
 | .n _ _ _,.e,i,v,h => by simp [Gq,Tr.get] at h
theorem N8 : ∀ (s t : Tr AO) (i : Nat) (v : AO),(C9 s t).get i = some v -> ∃ x y,s.get i = some x /\ t.get i = some y /\ LeO x v /\ LeO y v
 | .n a l r,.n b l' r',i,v,h => by
  cases i with
  | zero =>
   cases a with
   | none => simp [C9,er_] at h
   | some x =>
    cases b with
    | none => simp [C9,er_] at h
    | some y => simp only [C9,er_] at h; exact ⟨x,y,rfl,rfl,(Afo h).1,(Afo h).2⟩
  | succ i =>
   have e : (C9 (.n a l r) (.n b l' r')).get (i + 1) = if i % 2 = 0 then (C9 l l').get (i / 2) else (C9 r r').get (i / 2) := by
    cases a <;> cases b <;> simp only [C9,cj_]
   rw [e] at h;rw [cj_,cj_]
   by_cases hi : i % 2 = 0
   ·rw [if_pos hi] at h ⊢; rw [if_pos hi]; exact N8 l l' _ v h
   ·rw [if_neg hi] at h ⊢; rw [if_neg hi]; exact N8 r r' _ v h
 | .e,.e,i,v,h => by simp [C9,Tr.get] at h
 | .e,.n _ _ _,i,v,h => by simp [C9,Tr.get] at h
 | .n _ _ _,.e,i,v,h => by simp [C9,Tr.get] at h
def LeS (U τ : Sto) : Prop := nx τ = nx U /\ ∀ a O,τ.get a = some O -> ∃ O₀,U.get a = some O₀ /\ LeO O₀ O
theorem Y4 {a b t : Sto} (h : Sf a b = some t) : LeS a t /\ LeS b t := by
 unfold Sf at h;cases hb : Nat.beq a.next b.next
 ·simp [hb] at h
 ·simp only [hb,cond_true,ad_] at h;have hn := ac_ hb;subst h
  have key : ∀ i O,(Sto.mk (C9 a.objs b.objs) a.next).get i = some O -> ∃ x y,a.get i = some x /\ b.get i = some y /\ LeO x O /\ LeO y O := fun i O hi => by
   obtain ⟨x,y,h1,h2,h3⟩ := N8 _ _ _ _ hi;cases a; cases b; exact ⟨x,y,h1,h2,h3⟩
  refine ⟨⟨by cases a; rfl,fun i O hi => ?_⟩,⟨by cases a; cases b; exact hn,fun i O hi => ?_⟩⟩
  ·obtain ⟨x,y,h1,h2,h3,h4⟩ := key i O hi; exact ⟨x,h1,h3⟩
  ·obtain ⟨x,y,h1,h2,h3,h4⟩ := key i O hi; exact ⟨y,h2,h4⟩
def Ctx.keep (C : Ctx) (τ : Sto) : Ctx := { C with loc := fun a => if (τ.get a).isSome then C.loc a else none }
theorem Sim.weaken {U τ : Sto} (h : Sim P C w U) (l : LeS U τ) : Sim P (C.keep τ) w τ /\ Ext C (nx U) w (C.keep τ) (nx τ) w := by
 obtain ⟨hn,hl⟩ := l
 have bq : ∀ a p,(C.keep τ).loc a = some p -> C.loc a = some p /\ (τ.get a).isSome = true := fun a p hp => by
  simp only [Ctx.keep] at hp
  split at hp
  ·exact ⟨hp,by assumption⟩
  ·cases hp
 have e : Ext C (nx U) w (C.keep τ) (nx τ) w := ⟨by omega,nl,fun b _ ho => ⟨fun hh => hh.elim (fun hr => ho (.inl hr)) fun ⟨a,o,ha⟩ => ho (.inr ⟨a,o,(bq a _ ha).1⟩),rfl⟩,
  fun a _ p hp => (bq a p hp).1,fun _ _ => rfl,fun _ _ => rfl,fun _ _ _ _ _ => rfl,⟨rfl,fun _ _ => rfl⟩,rfl,rfl⟩
 refine ⟨⟨fun a O hg => ?_,fun a O hg => ?_,fun a p hp => ?_,fun a b c o o' ha hb => h.inj a b c o o' (bq a _ ha).1 (bq b _ hb).1,fun a c o ha => h.lt a c o (bq a _ ha).1,h.rlt,fun a c o ha => h.rdis a c o (bq a _ ha).1⟩,e⟩
 ·obtain ⟨O₀,h1,h2⟩ := hl a O hg;have ho := h.obj a O₀ h1
  have hk : (C.keep τ).loc a = C.loc a := by simp [Ctx.keep,hg]
  cases h2 with
  | cells hc =>
   obtain ⟨c,o,cs,T,k1,k2,k3⟩ := ho;exact ⟨c,o,cs,T,hk.trans k1,k2,hc.RC (RC.extHeap e c rfl _ _ k3)⟩
  | map hm =>
   obtain ⟨c,E,clock,k1,k2,k3⟩ := ho;refine ⟨c,E,clock,hk.trans k1,k2,?_⟩;have k4 := k3.ext e;obtain ⟨L,q1,q2⟩ := k4.perm;exact ⟨k4.typed,⟨L,q1,hm.ER q2⟩,k4.keys,k4.born,k4.apart⟩
 ·obtain ⟨O₀,h1,_⟩ := hl a O hg;have := h.bound a O₀ h1; omega
 ·obtain ⟨h1,h2⟩ := bq a p hp;obtain ⟨O,hO⟩ := br_.1 h2;refine ⟨O,hO,?_⟩;obtain ⟨O₀,_,h4⟩ := hl a O hO;cases h4 <;> rfl
theorem SSt.weaken {E : Env} {s t : St} {a : Act} (h : SSt E C w s a) (l : LeS s.sto t.sto) (ht : ∀ i v,t.tm.get i = some v -> ∃ x,s.tm.get i = some x /\ Le x v) (hn : t.nt = s.nt) (hd : t.df = s.df) :
  ∃ C',SSt E C' w t a /\ Ext C (nx s.sto) w C' (nx t.sto) w := by
 obtain ⟨h1,h2⟩ := h.sim.weaken l
 refine ⟨_,⟨h1,h.glob.ext h2,fun i v hi => ?_,by rw [hn]; exact h.size,by rw [hd]; exact h.dfs.ext h2⟩,h2⟩
 obtain ⟨x,k1,k2⟩ := ht i v hi;exact k2.R (R.ext h2 _ _ (h.tmps i x k1))
theorem Sy {E : Env} {s s' t : St} (h : Ah3 s s' = some t) : (∀ {C a},SSt E C w s a -> ∃ C',SSt E C' w t a /\ Ext C (nx s.sto) w C' (nx t.sto) w) /\ (∀ {C a},SSt E C w s' a -> ∃ C',SSt E C' w t a /\ Ext C (nx s'.sto) w C' (nx t.sto) w) := by
 unfold Ah3 at h
 split at h
 ·rename_i hd hd'
  cases hb : Nat.beq s.nt s'.nt
  ·simp [hb] at h
  ·simp only [hb,cond_true] at h;have hn := ac_ hb
   split at h
   ·rename_i U hU
    cases h;obtain ⟨l1,l2⟩ := Y4 hU;refine ⟨fun st => st.weaken l1 (fun i v hi => ?_) rfl hd.symm,fun st => st.weaken l2 (fun i v hi => ?_) hn hd'.symm⟩
    ·obtain ⟨x,y,k1,k2,k3,k4⟩ := Pm _ _ i v hi; exact ⟨x,k1,k3⟩
    ·obtain ⟨x,y,k1,k2,k3,k4⟩ := Pm _ _ i v hi; exact ⟨y,k2,k4⟩
   ·cases h
 ·cases h
end
end
def Jl : XE -> Exit
 | .normal => .normal
 | .exit id => .exit id
 | .ret => .ret
def Qk (E : Env) (C : Ctx) (N : Nat) (w : World) (l : List (XE × St)) : Exit -> Act -> World -> Prop := fun e a' w' =>
 ∃ y ∈ l,∃ C',Jl y.1 = e /\ SSt E C' w' y.2 a' /\ Ext C N w C' (nx y.2.sto) w'
def T8 (E : Env) (Rr : Rec) : Prop := ∀ (ops : Array Oper) (s s' : St) (C : Ctx) (w : World) (a : Act) (id : Nat),SSt E C w s a -> Nx E ops Rr s = some s' ->
 (Code.region id ops true).wp E.P (Qk E C (nx s.sto) w [(.normal,s')]) a w
section
variable {E : Env} {C C' : Ctx} {N N' : Nat} {w w' : World} {Rr : Rec}
theorem Qk.mono {l m : List (XE × St)} {e : Exit} {a : Act} (h : Qk E C' N' w' l e a w) (hl : ∀ y ∈ l,y ∈ m) {w₀ : World} (hx : Ext C N w₀ C' N' w') : Qk E C N w₀ m e a w := by
 obtain ⟨y,h1,C₂,h2,h3,h4⟩ := h;exact ⟨y,hl y h1,C₂,h2,h3,hx.trans h4⟩
theorem Kx {k : St -> Out} : ∀ {l r : List (XE × St)},Qe k l = some r -> ∀ y ∈ l,(y.1 = .normal -> ∃ m,k y.2 = some m /\ ∀ z ∈ m,z ∈ r) /\ (y.1 ≠ .normal -> y ∈ r)
 | [],r,h,y,hy => by simp at hy
 | (.normal,s) :: l,r,h,y,hy => by
  simp only [Qe] at h
  split at h
  ·rename_i a ha
   split at h
   ·rename_i b hb
    cases h
    rcases aq_.1 hy with rfl | hy
    ·exact ⟨fun _ => ⟨a,ha,fun z hz => cd_ _ hz⟩,fun hn => absurd rfl hn⟩
    ·obtain ⟨h1,h2⟩ := Kx hb y hy;exact ⟨fun hn => let ⟨m,k1,k2⟩ := h1 hn; ⟨m,k1,fun z hz => ee_ _ (k2 z hz)⟩,fun hn => ee_ _ (h2 hn)⟩
   ·cases h
  ·cases h
 | (.exit id,s) :: l,r,h,y,hy => by
  simp only [Qe] at h
  split at h
  ·rename_i b hb
   cases h
   rcases aq_.1 hy with rfl | hy
   ·exact ⟨fun hn => (by cases hn),fun _ => ar_ ..⟩
   ·obtain ⟨h1,h2⟩ := Kx hb y hy;exact ⟨fun hn => let ⟨m,k1,k2⟩ := h1 hn; ⟨m,k1,fun z hz => ak_ _ (k2 z hz)⟩,fun hn => ak_ _ (h2 hn)⟩
  ·cases h
 | (.ret,s) :: l,r,h,y,hy => by
  simp only [Qe] at h
  split at h
  ·rename_i b hb
   cases h
   rcases aq_.1 hy with rfl | hy
   ·exact ⟨fun hn => (by cases hn),fun _ => ar_ ..⟩
   ·obtain ⟨h1,h2⟩ := Kx hb y hy;exact ⟨fun hn => let ⟨m,k1,k2⟩ := h1 hn; ⟨m,k1,fun z hz => ak_ _ (k2 z hz)⟩,fun hn => ak_ _ (h2 hn)⟩
  ·cases h
theorem XE.beq_eq {a b : XE} (h : XE.beq a b = true) : a = b := by
 cases a <;> cases b <;> simp only [XE.beq] at h <;> first | rfl | (cases h; done) | rw [ac_ h]
theorem Sz : ∀ {l r : List (XE × St)},Pg l = some r -> ∀ y ∈ l,∃ z ∈ r,z.1 = y.1 /\ ∀ {C w a},SSt E C w y.2 a -> ∃ C',SSt E C' w z.2 a /\ Ext C (nx y.2.sto) w C' (nx z.2.sto) w
 | [],r,h,y,hy => by simp at hy
 | [x],r,h,y,hy => by
  simp only [Pg,ad_] at h; subst h;rw [am_] at hy; subst hy;exact ⟨y,bu_ _,rfl,fun {C w a} st => ⟨C,st,by_ _ _ _⟩⟩
 | x :: x' :: l,r,h,y,hy => by
  simp only [Pg] at h
  split at h
  ·rename_i z hz
   cases hb : XE.beq x.1 z.1
   ·simp [hb] at h
   ·simp only [hb,cond_true] at h
    split at h
    ·rename_i t ht
     cases h
     rcases aq_.1 hy with rfl | hy
     ·exact ⟨_,bu_ _,rfl,fun {C w a} st => (Sy ht).1 st⟩
     ·obtain ⟨z',k1,k2,k3⟩ := Sz hz y hy;rw [am_] at k1; subst k1;refine ⟨_,bu_ _,(XE.beq_eq hb).trans k2,fun {C w a} st => ?_⟩
      obtain ⟨C₁,q1,q2⟩ := k3 st;obtain ⟨C₂,q3,q4⟩ := (Sy ht).2 q1;exact ⟨C₂,q3,q2.trans q4⟩
    ·cases h
  ·cases h
theorem Va {id : Nat} : ∀ {l : List (XE × St)} {y : XE × St},y ∈ l -> (y.1 = .exit id /\ (.normal,y.2) ∈ H2 id l) ∨ (y.1 ≠ .exit id /\ y ∈ H2 id l)
 | [],y,h => by simp at h
 | x :: l,y,h => by
  rcases aq_.1 h with rfl | h
  ·obtain ⟨x,s⟩ := y;cases x with
   | normal => exact .inr ⟨by simp,by simp [H2]⟩
   | ret => exact .inr ⟨by simp,by simp [H2]⟩
   | exit j =>
    by_cases hj : j = id
    ·subst hj; exact .inl ⟨rfl,by simp [H2]⟩
    ·exact .inr ⟨by simpa using hj,by simp [H2,Asp hj]⟩
  ·have : ∀ z,z ∈ H2 id l -> z ∈ H2 id (x :: l) := fun z hz => by
    obtain ⟨x,s⟩ := x;cases x <;> simp [H2,hz]
   rcases Va (id := id) h with ⟨h1,h2⟩ | ⟨h1,h2⟩
   ·exact .inl ⟨h1,this _ h2⟩
   ·exact .inr ⟨h1,this _ h2⟩
theorem Aj9 {c : Code} {body : St -> Out} (cj : ∀ (C : Ctx) (w : World) (s : St) (a : Act) l,SSt E C w s a -> body s = some l -> c.wp E.P (Qk E C (nx s.sto) w l) a w) :
  ∀ (n : Nat) (C : Ctx) (w : World) (s : St) (a : Act) (l : List (XE × St)),SSt E C w s a -> Aby body n s = some l -> ∀ (b : Frame) (k : List Item) (cs : List Frame),
   ∃ e a' w',Qk E C (nx s.sto) w l e a' w' /\ Arrives E.P (lone (b.at a (.code c :: .inLoop c :: k)) cs w) b k cs e a' w'
 | 0,_,_,_,_,_,_,h,_,_,_ => by simp [Aby] at h
 | n + 1,C,w,s,a,l,st,h,b,k,cs => by
  simp only [Aby] at h
  split at h
  ·rename_i m hm
   obtain ⟨e,a₁,w₁,hq,br⟩ := cj C w s a m st hm b (.inLoop c :: k) cs;obtain ⟨y,hy,C₁,hye,hst,bh⟩ := hq;obtain ⟨b1,b2⟩ := Kx h y hy;obtain ⟨x,s₁⟩ := y;cases x with
   | normal =>
    obtain ⟨m₁,h1,h2⟩ := b1 rfl;subst hye;obtain ⟨e₂,a₂,w₂,hq₂,harr₂⟩ := Aj9 cj n C₁ w₁ s₁ a₁ m₁ hst h1 b k cs;exact ⟨e₂,a₂,w₂,hq₂.mono h2 bh,.of_steps (Steps.trans br (.one step_inLoop)) harr₂⟩
   | exit id =>
    subst hye
    exact ⟨.exit id,a₁,w₁,⟨_,b2 (by simp),C₁,rfl,hst,bh⟩,.pass (x := .inLoop c) rfl (fun _ _ => .inl (by simp)) br⟩
   | ret =>
    subst hye
    exact ⟨.ret,a₁,w₁,⟨_,b2 (by simp),C₁,rfl,hst,bh⟩,.pass (x := .inLoop c) rfl (fun _ _ => .inl (by simp)) br⟩
  ·cases h
theorem N9 {α : Type} : ∀ {l : List (Option α)} {r : List α},Qw l = some r -> ∀ x ∈ l,∃ y ∈ r,x = some y
 | [],r,h,x,hx => by simp at hx
 | x :: l,r,h,z,hz => by
  simp only [Qw] at h
  split at h
  ·rename_i x'
   split at h
   ·rename_i m hm
    cases h
    rcases aq_.1 hz with rfl | hz
    ·exact ⟨x',ar_ ..,rfl⟩
    ·obtain ⟨y,h1,h2⟩ := N9 hm z hz; exact ⟨y,ak_ _ h1,h2⟩
   ·cases h
  ·cases h
theorem Be.none : Be E (fun _ _ _ => Option.none) := fun _ _ _ _ _ _ _ _ _ _ _ h => by cases h
abbrev dr_ := @Be.none
theorem Afp {ops : Array Oper} {s : St} {a : Act} (st : SSt E C w s a) {l : List St} (h : Ant E ops.toList s = some l) (id : Nat) :
  (Code.region id ops false).wp E.P (Qk E C (nx s.sto) w (l.map fun s' => (.normal,s'))) a w := by
 unfold Ant at h
 split at h
 ·rename_i o r ek
  split at h
  ·rename_i x hop hg
   have hX := Br st.glob st.tmps x
   split at h
   ·rename_i b heq
    rw [heq] at hX
    split at h
    ·rename_i m ver left cur b9
     split at h
     ·rename_i hv
      have ho : ops[0]? = some o := by rw [← bb_,ek]; rfl
      have hsz : ops.size = r.length + 1 := by rw [← bx_,ek]; rfl
      have hw : Region.wanted o (yielded ops a.tmps) = true := by unfold Region.wanted; rw [hg]
      obtain ⟨y,w₁,bx,bh,co⟩ := Y2 (P := E.P) (ty := o.type) st.sim hX b9 hv
      have fh : (execOp a.eval o).run E.P w = .ok (.value y) w₁ := by
       obtain ⟨dst,op,ty,pos,after,guard⟩ := o;simp only at hop; subst hop
       simp [execOp,bx]
      refine wp_region ?_;rw [hsz,dl_,d_];simp only [wpOps,ho];rw [if_pos hw];refine .inl ?_;unfold Oper.wp;rw [fh,Oper.upon_value]
      have hr : ∀ j,r[j]? = ops[0 + 1 + j]? := fun j => by
       rw [← bb_,ek,show 0 + 1 + j = j + 1 by omega]; rfl
      have fin : ∀ (v : AV) (left' : List (Key × AV)) (cur' : Option (Key × AV)) (s' : St),Adx E ops.toList o.dst r s b m ver v left' cur' = some s' -> Sim E.P C w₁ (s.sto.set b (.iter m ver left' cur')) -> R C (nx s.sto) w₁ v y -> s' ∈ l ->
        wpOps E.P ops (Qk E C (nx s.sto) w (l.map fun s' => (.normal,s'))) (List.range' (0 + 1) r.length) (a.put o.dst y) w₁ := by
       intro v left' cur' s' hgo hs' hv' hm';unfold Adx at hgo
       split at hgo
       ·rename_i tm htm
        have dz : Ext C (nx s.sto) w C (nx (s.sto.set b (.iter m ver left' cur'))) w₁ := by rw [Ac]; exact bh
        have st' := st.put (x := y) hs' dz (by rw [Ac]; exact hv') htm
        refine I4 dr_ r (0 + 1) C w₁ _ _ hr st' hgo fun C₂ w₂ a₂ st₂ e₂ => ?_
        exact ⟨(.normal,s'),dc_ hm',C₂,rfl,st₂,dz.trans e₂⟩
       ·cases hgo
      rcases co with ⟨h0,hs',hv'⟩ | ⟨p,hp,hs',hv'⟩
      ·subst h0;simp only at h
       split at h
       ·rename_i s' hgo
        cases h;exact fin _ _ _ s' hgo hs' hv' (bu_ _)
       ·cases h
      ·split at h
       ·simp [Fu] at hp
       ·obtain ⟨s',h1,h2⟩ := N9 h _ (dc_ hp);exact fin _ _ _ s' h2 hs' hv' h1
     ·cases h
    ·cases h
   ·cases h
  ·cases h
 ·cases h
theorem Oa (hR : Be E Rr) (hD : T8 E Rr) (lf : Nat) : ∀ (c : Code) (C : Ctx) (w : World) (s : St) (a : Act) (l : List (XE × St)),SSt E C w s a -> Fp E lf Rr c s = some l -> c.wp E.P (Qk E C (nx s.sto) w l) a w := by
 intro c
 induction c with
 | skip => intro C w s a l st h; simp only [Fp,ad_] at h; subst h; exact wp_skip ⟨_,bu_ _,C,rfl,st,by_ _ _ _⟩
 | label n => intro C w s a l st h; simp only [Fp,ad_] at h; subst h; exact wp_label ⟨_,bu_ _,C,rfl,st,by_ _ _ _⟩
 | exit id => intro C w s a l st h; simp only [Fp,ad_] at h; subst h; exact wp_exit ⟨_,bu_ _,C,rfl,st,by_ _ _ _⟩
 | ret => intro C w s a l st h; simp only [Fp,ad_] at h; subst h; exact wp_ret ⟨_,bu_ _,C,rfl,st,by_ _ _ _⟩
 | region id ops draw =>
  intro C w s a l st h;simp only [Fp] at h;cases draw with
  | true =>
   simp only at h
   split at h
   ·rename_i s' hs'; cases h; exact hD ops s s' C w a id st hs'
   ·cases h
  | false =>
   simp only at h
   split at h
   ·split at h
    ·rename_i m hm; cases h; exact Afp st hm id
    ·cases h
   ·split at h
    ·rename_i s' hs'
     cases h;refine wp_region ?_;rw [dl_,← bx_]
     exact I4 hR ops.toList 0 C w s a (fun j => by simp) st hs' fun C₂ w₂ a₂ st₂ e₂ => ⟨_,bu_ _,C₂,rfl,st₂,e₂⟩
    ·cases h
 | seq x y ihx ihy =>
  intro C w s a l st h;simp only [Fp] at h
  split at h
  ·rename_i m hm
   refine wp_seq (wp_mono (ihx C w s a m st hm) fun e a₁ w₁ hq => ?_)
   obtain ⟨z,hz,C₁,hze,hst,bh⟩ := hq;obtain ⟨b1,b2⟩ := Kx h z hz;obtain ⟨x',s₁⟩ := z;subst hze;cases x' with
   | normal =>
    obtain ⟨m₁,h1,h2⟩ := b1 rfl;exact wp_mono (ihy C₁ w₁ s₁ a₁ m₁ hst h1) fun e a₂ w₂ hq₂ => hq₂.mono h2 bh
   | exit id => exact ⟨_,b2 (by simp),C₁,rfl,hst,bh⟩
   | ret => exact ⟨_,b2 (by simp),C₁,rfl,hst,bh⟩
  ·cases h
 | cond c x y ihx ihy =>
  intro C w s a l st h;simp only [Fp] at h;have hc := Br st.glob st.tmps c
  split at h
  ·rename_i heq; rw [heq] at hc; unfold R at hc
   exact wp_cond_true hc (ihx C w s a l st h)
  ·rename_i heq; rw [heq] at hc; unfold R at hc
   exact wp_cond_false hc (ihy C w s a l st h)
  ·cases h
 | block id x ih =>
  intro C w s a l st h;simp only [Fp] at h
  split at h
  ·rename_i m hm
   cases h;refine wp_block (wp_mono (ih C w s a m st hm) fun e a₁ w₁ hq => ?_)
   obtain ⟨z,hz,C₁,hze,hst,bh⟩ := hq;obtain ⟨x',s₁⟩ := z;subst hze
   rcases Va (id := id) hz with ⟨h1,h2⟩ | ⟨h1,h2⟩
   ·simp only at h1; subst h1;simp only [Jl,Exit.inBlock,if_true];exact ⟨_,h2,C₁,rfl,hst,bh⟩
   ·cases x' with
    | normal => exact ⟨_,h2,C₁,rfl,hst,bh⟩
    | ret => exact ⟨_,h2,C₁,rfl,hst,bh⟩
    | exit j =>
     have hj : j ≠ id := fun hh => h1 (by rw [hh])
     simp only [Jl,Exit.inBlock,if_neg hj];exact ⟨_,h2,C₁,rfl,hst,bh⟩
  ·cases h
 | loop x ih =>
  intro C w s a l st h;simp only [Fp] at h
  split at h
  ·rename_i m hm
   intro b k cs;obtain ⟨e,a',w',⟨y,hy,C₁,hye,hst,bh⟩,br⟩ := Aj9 ih lf C w s a m st hm b k cs;obtain ⟨z,hz,hze,hzs⟩ := Sz (E := E) h y hy;obtain ⟨C₂,q1,q2⟩ := hzs hst
   exact ⟨e,a',w',⟨z,hz,C₂,by rw [hze]; exact hye,q1,bh.trans q2⟩,.of_steps (.one step_loop) br⟩
  ·cases h
 | scope x ih =>
  intro C w s a l st h;simp only [Fp] at h;refine wp_scope_straight (wp_mono (ih C w s a l st h) fun e a₁ w₁ hq => ?_)
  obtain ⟨y,hy,C₁,hye,hst,bh⟩ := hq;obtain ⟨x',s₁⟩ := y;subst hye;cases x' <;> exact ⟨_,hy,C₁,rfl,hst,bh⟩
 | _ => intro C w s a l st h; simp [Fp] at h
end
def Aea (E : Env) (f : Nat) (g : List AV -> Sto -> Option Sto) : Prop :=
 ∀ (C : Ctx) (w : World) (U : Sto) (args : List AV) (vs : Array Value) (U' : Sto),Sim E.P C w U -> Gc C (nx U) w E -> RL C (nx U) w args vs.toList -> g args U = some U' ->
  Q3 E.P f /\ CallsD E.P f vs .returning w fun
   | .returned _,u',w' => u' = .returning /\ ∃ C',Sim E.P C' w' U' /\ Ext C (nx U) w C' (nx U') w'
   | _,_,_ => False
section
variable {E : Env} {C C' : Ctx} {N N' : Nat} {w w' : World} {Rr : Rec}
theorem E6 : ∀ (l : List AV) (i : Nat) (t : Tr AV) (j : Nat),(Fq l i t).get j = if i <= j /\ j < i + l.length then l[j - i]? else t.get j
 | [],i,t,j => by simp only [Fq]; rw [if_neg (by simp)]
 | x :: r,i,t,j => by
  simp only [Fq];rw [E6 r (i + 1),de_];simp only [at_]
  by_cases h1 : i + 1 <= j /\ j < i + 1 + r.length
  ·rw [if_pos h1,if_pos Om,show j - i = (j - (i + 1)) + 1 by omega]; rfl
  ·rw [if_neg h1]
   by_cases h2 : j = i
   ·subst h2; rw [if_pos rfl,if_pos Om]; simp
   ·rw [if_neg h2,if_neg Om]
theorem Aeb {P : Program} {U : Sto} (hs : Sim P C w U) {tm : Tr AV} {tmps : Array Value} (ht : TR C (nx U) w tm tmps) {r : ResultVar} {v : AV} (h : Yi P tm U r = some v) :
  ∃ x,((match r with
   | .tmp t => pure (tmps.getD t undef)
   | .cell a t => do loadVar t (← asAddr (tmps.getD a undef)) : Sem Value)).run P w = .ok x w /\ R C (nx U) w v x := by
 cases r with
 | tmp t => exact ⟨_,rfl,ht t v h⟩
 | cell a t =>
  simp only [Yi] at h
  split at h
  ·rename_i ti hti
   split at h
   ·rename_i b off b9
    split at h
    ·rename_i vs hvs
     have hX := ht a _ b9
     have hl : L6 ti (.pr b off) U = some (v,U) := by simp [L6,hvs,h]
     obtain ⟨_,x,q1,q2⟩ := N2 hs hti hX hl;unfold R at hX;obtain ⟨ad,hX,_⟩ := hX;refine ⟨x,?_,q2⟩
     show ((do loadVar t (← asAddr (tmps.getD a undef)) : Sem Value)).run P w = _
     rw [hX] at q1 ⊢
     simpa [Instr.loadAt,Instr.sureAddr,asAddr] using q1
    ·cases h
   ·cases h
  ·cases h
theorem Y5 {P : Program} {U : Sto} (hs : Sim P C w U) {tm : Tr AV} {tmps : Array Value} (ht : TR C (nx U) w tm tmps) {f : ResultVar -> Sem Value}
  (hf : ∀ r,f r = match r with
   | .tmp t => pure (tmps.getD t undef)
   | .cell a t => do loadVar t (← asAddr (tmps.getD a undef))) : ∀ {rs : List ResultVar} {vs : List AV},Vz P tm U rs = some vs -> ∃ xs,(rs.mapM f).run P w = .ok xs w /\ RL C (nx U) w vs xs
 | [],vs,h => by simp only [Vz,ad_] at h; subst h; exact ⟨[],by simp,by unfold RL; trivial⟩
 | r :: rs,vs,h => by
  simp only [Vz] at h
  split at h
  ·rename_i v l hv hl
   cases h;obtain ⟨x,h1,h2⟩ := Aeb hs ht hv;obtain ⟨xs,h3,h4⟩ := Y5 hs ht hf hl
   refine ⟨x :: xs,?_,by unfold RL; exact ⟨h2,h4⟩⟩
   have h1' : (f r).run P w = .ok x w := by rw [hf r]; exact h1
   simp [gy_,h1',h3]
  ·cases h
theorem C6 {P : Program} {U : Sto} (hs : Sim P C w U) {tm : Tr AV} {fn : Func} {tmps : Array Value} (ht : TR C (nx U) w tm tmps) {vs : List AV} (h : Vz P tm U fn.results.toList = some vs) :
  ∃ x,(results fn tmps).run P w = .ok x w /\ R C (nx U) w (Wa vs) x := by
 obtain ⟨f,hf,he⟩ : ∃ f : ResultVar -> Sem Value,(∀ r,f r = match r with
   | .tmp t => pure (tmps.getD t undef)
   | .cell a t => do loadVar t (← asAddr (tmps.getD a undef))) /\ results fn tmps = (do let vs ← fn.results.mapM f; pure (if h : vs.size = 1 then vs[0] else .tuple vs)) :=
  ⟨_,fun r => by cases r <;> rfl,rfl⟩
 obtain ⟨xs,h1,h2⟩ := Y5 hs ht hf h
 have hr : (results fn tmps).run P w = .ok (if h : xs.toArray.size = 1 then xs.toArray[0] else .tuple xs.toArray) w := by
  rw [he];simp only [Array.mapM_eq_mapM_toList,Sem.run_bind,Sem.run_map];rw [h1]
  simp
 refine ⟨_,hr,?_⟩
 match vs,xs,h2 with
 | [],[],_ => unfold Wa R; exact ⟨#[],rfl,by unfold RL; trivial⟩
 | [v],[x],h2 => unfold RL at h2; exact h2.1
 | v :: v' :: r,x :: x' :: s,h2 =>
  have : ¬ (x :: x' :: s).toArray.size = 1 := by simp
  rw [dif_neg this];simp only [Wa]; unfold R; exact ⟨_,rfl,h2⟩
 | [],_ :: _,h2 => unfold RL at h2; exact h2.elim
 | [_],[],h2 => unfold RL at h2; exact h2.elim
 | [_],_ :: _ :: _,h2 => unfold RL at h2; have := h2.2; unfold RL at this; exact this.elim
 | _ :: _ :: _,[],h2 => unfold RL at h2; exact h2.elim
 | _ :: _ :: _,[_],h2 => unfold RL at h2; have := h2.2; unfold RL at this; exact this.elim
theorem S0 (hmk : E.dsum Fo = none) (dy : ∀ f d,E.dsum f = some d -> Aea E f d) {tm : Tr AV} {tmps : Array Value} {fn : Func} {U' : Sto} {vs : List AV} :
  ∀ (df : List (Nat × List AV)) (C : Ctx) (w : World) (U : Sto) (ds : List Deferred) (RR : Ending -> World -> Prop),Sim E.P C w U -> Gc C (nx U) w E -> TR C (nx U) w tm tmps -> DR C (nx U) w df ds -> T0 E df U = some U' -> Vz E.P tm U' fn.results.toList = some vs ->
   (∀ x w' C',Sim E.P C' w' U' -> Ext C (nx U) w C' (nx U') w' -> R C' (nx U') w' (Wa vs) x -> RR (.returned x) w') -> Leaves E.P fn tmps RR ds .returning w
 | [],C,w,U,[],RR,hs,hg,ht,_,hd,hr,hRR => by
  simp only [T0,ad_] at hd; subst hd;obtain ⟨x,h1,h2⟩ := C6 hs ht hr;exact ⟨x,h1,hRR x w C hs (by_ _ _ _) h2⟩
 | (f,args) :: df,C,w,U,d :: ds,RR,hs,hg,ht,hdr,hd,hr,hRR => by
  unfold DR at hdr;obtain ⟨hh,h3⟩ := hdr;simp only [T0] at hd
  rcases hh with ⟨_,cap,h1,h2⟩ | ⟨h0,_⟩
  case inr => simp only at h0; subst h0; simp [hmk] at hd
  split at hd
  ·rename_i g hg'
   split at hd
   ·rename_i U₁ hU₁
    obtain ⟨⟨fn',g1,g2,g3⟩,bo⟩ := dy f g hg' C w U args _ U₁ hs hg h2 hU₁
    refine ⟨by simp,_,_,_,_,h1,?_,bo.mono fun e u' w' he => ?_⟩
    ·have g2' : fn'.name ≠ "runtime.NumGoroutine" := by simpa using g2
     have g3' : fn'.body ≠ none := fun hh => by rw [hh] at g3; cases g3
     rw [h1];simp only [invoke,callFunc,Sem.run_bind,run_program,Result.andThen_ok,g1]
     simp [g2',g3']
    ·cases e with
     | returned v =>
      obtain ⟨rfl,C',k1,k2⟩ := he;exact S0 hmk dy df C' w' U₁ ds RR k1 (hg.ext k2) (ht.ext k2) (h3.ext k2) hd hr fun x w'' C'' q1 q2 q3 => hRR x w'' C'' q1 (k2.trans q2) q3
     | panicked _ => exact he.elim
     | outgrown => exact he.elim
   ·cases hd
  ·cases hd
 | [],_,_,_,_ :: _,_,_,_,_,h,_,_,_ => by unfold DR at h; exact h.elim
 | _ :: _,_,_,_,[],_,_,_,_,h,_,_,_ => by unfold DR at h; exact h.elim
theorem Y6 : ∀ {rs : List (AV × Sto)} {r : AV × Sto},Yj rs = some r -> ∀ y ∈ rs,∀ {P : Program} {C : Ctx} {w : World} {x : Value},Sim P C w y.2 -> R C (nx y.2) w y.1 x -> ∃ C',Sim P C' w r.2 /\ Ext C (nx y.2) w C' (nx r.2) w /\ R C' (nx r.2) w r.1 x
 | [],r,h,y,hy => by simp at hy
 | [z],r,h,y,hy => by
  simp only [Yj,ad_] at h; subst h;rw [am_] at hy; subst hy;intro hs hr;exact ⟨_,hs,by_ _ _ _,hr⟩
 | z :: z' :: rs,r,h,y,hy => by
  have h : (match Yj (z' :: rs) with | some q => (match Sf z.2 q.2 with | some U => some (AV.join z.1 q.1,U) | none => none) | none => none) = some r := h
  split at h
  ·rename_i q hq
   split at h
   ·rename_i U hU
    cases h;obtain ⟨l1,l2⟩ := Y4 hU;intro hs hr
    rcases aq_.1 hy with rfl | hy
    ·obtain ⟨h1,h2⟩ := hs.weaken l1;exact ⟨_,h1,h2,(Ad8 _ _).R (R.ext h2 _ _ hr)⟩
    ·obtain ⟨C₁,k1,k2,k3⟩ := Y6 hq y hy hs hr;obtain ⟨h1,h2⟩ := k1.weaken l2;exact ⟨_,h1,k2.trans h2,(Ad9 _ _).R (R.ext h2 _ _ k3)⟩
   ·cases h
  ·cases h
theorem Ob (hD : ∀ Rr, Be E Rr -> T8 E Rr) (cy : ∀ (f : Nat) (fn : Func), E.P.funcs[f]? = some fn -> (fn.name == "runtime.NumGoroutine") = false)
  (ff : ∀ f s,E.sum f = some s -> Ev E f s) (hmk : E.dsum Fo = none) (dy : ∀ f d,E.dsum f = some d -> Aea E f d) (lf : Nat) : ∀ n,Be E (Jq E lf n)
 | 0 => fun _ _ _ _ _ _ _ _ _ _ _ h => by cases h
 | n + 1 => by
  have ih := Ob hD cy ff hmk dy lf n;intro f C w U args vs v U' hs hg bj h;simp only [Jq] at h
  split at h
  ·rename_i g hg'; exact ff f g hg' C w U args vs v U' hs hg bj h
  ·split at h
   ·rename_i fn hfn
    unfold Ary at h
    split at h
    ·rename_i c hc
     cases hb : Nat.ble args.length fn.ntmps
     ·simp [hb] at h
     ·simp only [hb,cond_true] at h;have hle := aj_ hb;have bv := bj.length;simp only [bx_] at bv
      refine ⟨⟨fn,hfn,cy f fn hfn,by rw [hc]; rfl⟩,?_⟩
      split at h
      ·rename_i l hl
       split at h
       ·rename_i rs hrs
        refine calls_of_wp_defers hfn hc ?_
        have st : SSt E C w ⟨Fq args 0 .e,fn.ntmps,[],U⟩ { tmps := vs ++ Array.replicate (fn.ntmps - vs.size) undef,defers := [] } := by
         refine ⟨hs,hg,fun i y hy => ?_,by simp; omega,by unfold DR; trivial⟩
         simp only at hy;rw [E6] at hy
         split at hy
         ·rename_i hi
          rw [ed_] at hy;obtain ⟨x,k1,k2⟩ := bj.get i y hy
          have : (vs ++ Array.replicate (fn.ntmps - vs.size) undef).getD i undef = x := by
           rw [bd_,cw_ Om,← bb_,k1]; rfl
          rw [this]; exact k2
         ·simp [Tr.get] at hy
        refine wp_mono (Oa ih (hD _ ih) lf c C w _ _ l st hl) fun e a' w' hq => ?_
        obtain ⟨y,hy,C₁,hye,hst,bh⟩ := hq;obtain ⟨z,hz,dk⟩ := N9 hrs _ (dc_ hy)
        have fin : y.1 = .normal ∨ y.1 = .ret -> Leaves E.P fn a'.tmps (Ar1 E.P C (nx U) w v U') a'.defers .returning w' := by
         intro hx;have c5 : (match T0 E y.2.df y.2.sto with
          | some U => match Vz E.P y.2.tm U fn.results.toList with
           | some vs => some (Wa vs,U)
           | none => none
          | none => none) = some z := by
          obtain ⟨x,s⟩ := y;simp only at hx
          rcases hx with rfl | rfl <;> exact dk
         split at c5
         ·rename_i U₁ hU₁
          split at c5
          ·rename_i vs₁ hvs₁
           cases c5;refine S0 hmk dy y.2.df C₁ w' y.2.sto a'.defers _ hst.sim hst.glob hst.tmps hst.dfs hU₁ hvs₁ fun x w₂ C₂ q1 q2 q3 => ?_
           obtain ⟨C₃,k1,k2,k3⟩ := Y6 h _ hz q1 q3;exact ⟨C₃,k1,bh.trans (q2.trans k2),k3⟩
          ·cases c5
         ·cases c5
        obtain ⟨x,s⟩ := y;subst hye;cases x with
        | normal => exact fin (.inl rfl)
        | ret => exact fin (.inr rfl)
        | exit id => simp [finA] at dk
       ·cases h
      ·cases h
    ·cases h
   ·cases h
end
section
variable {E : Env} {tm tm' : Tr AV} {U U' : Sto}
theorem Iu : ∀ {l : List Operand},(∀ x ∈ l,opd E tm x = opd E tm' x) -> opds E tm l = opds E tm' l
 | [],_ => rfl
 | x :: r,h => by simp only [opds,h x (by simp),Iu fun y hy => h y (ak_ _ hy)]
theorem Ql {P : Program} {fs : List Field} : ∀ {l : List (Nat × Operand)},(∀ x ∈ l.map (·.2),opd E tm x = opd E tm' x) -> I1 P E tm fs l = I1 P E tm' fs l
 | [],_ => rfl
 | (i,x) :: r,h => by
  simp only [I1,h x (by simp),Ql (l := r) fun y hy => h y (ak_ _ hy)]
theorem Lv {n : Nat} : ∀ {l : List (Nat × Operand)},(∀ x ∈ l.map (·.2),opd E tm x = opd E tm' x) -> G0 E tm n l = G0 E tm' n l
 | [],_ => rfl
 | (i,x) :: r,h => by
  simp only [G0,h x (by simp),Lv (l := r) fun y hy => h y (ak_ _ hy)]
theorem Vb {op : Op} (h : ∀ x ∈ op.operands,opd E tm x = opd E tm' x) : Az E op tm U = Az E op tm' U := by
 cases op <;> simp only [Op.operands] at h <;> simp only [Az]
 case build t ps =>
  have h' : ∀ x ∈ ps.toList.map (·.2),opd E tm x = opd E tm' x := fun x hx => h x (by simpa using hx)
  simp only [Ql h',Lv h']
 case buildSlice t n ps =>
  have h' : ∀ x ∈ ps.toList.map (·.2),opd E tm x = opd E tm' x := fun x hx => h x (by simpa using hx)
  simp only [Lv h']
 case makeFunc f first cap =>
  rw [Iu (l := first.toList) fun x hx => h x (by simp at hx; simp [hx]),Iu (l := cap.toList) fun x hx => h x (by simp at hx; simp [hx])]
 case makeMap t r =>
  cases hti : A4 E.P t with
  | none => rfl
  | some ti =>
   obtain ⟨d,n,b,z,g⟩ := ti;cases r with
   | none => cases d <;> rfl
   | some x => cases d <;> first | rfl | simp only [h x (by simp)]
 case slice t x lo hi mx => cases lo <;> cases hi <;> cases mx <;> simp_all [opdO]
 case call c =>
  have h' : opds E tm c.args.toList = opds E tm' c.args.toList := Iu fun x hx => h x (by simp [Call.operands]; right; simpa using hx)
  cases hc : c.callee with
  | builtin b =>
   simp only;cases hx : c.args.toList with
   | nil => cases c.argTypes.toList <;> rfl
   | cons y ys =>
    rw [hx] at h';simp only [opds,cq_] at h';cases c.argTypes.toList with
    | nil => rfl
    | cons t ts => simp only [h'.1,h'.2]
  | value f => rfl
  | invoke r m => rfl
 all_goals (first | rfl | (simp_all; done))
theorem Al5 {Rr : Rec} {op : Op} (h : ∀ x ∈ op.operands,opd E tm x = opd E tm' x) : opA E op Rr tm U = opA E op Rr tm' U := by
 cases op
 case call c =>
  cases hc : c.callee with
  | value f =>
   simp only [opA,hc]
   rw [h f (by simp [Op.operands,Call.operands,hc]),Iu (l := c.args.toList) fun x hx => h x (by simp [Op.operands,Call.operands,hc]; right; simpa using hx)]
  | builtin b => simp only [opA,hc]; exact Vb h
  | invoke r m =>
   simp only [opA,hc]
   rw [h r (by simp [Op.operands,Call.operands,hc]),Iu (l := c.args.toList) fun x hx => h x (by simp [Op.operands,Call.operands,hc]; right; simpa using hx)]
 all_goals (simp only [opA]; exact Vb h)
def F3 (f : Sto -> Res) : Prop := ∀ U U' v,f U = some (v,U') -> U' = U /\ ∀ τ,f τ = some (v,τ)
theorem F3.const (r : Option AV) : F3 fun U => match r with | some v => some (v,U) | none => none := by
 intro U U' v h;cases r with
 | none => cases h
 | some u => cases h; exact ⟨rfl,fun _ => rfl⟩
theorem F3.none : F3 fun _ => Option.none := fun _ _ _ h => by cases h
abbrev ay_ := @F3.none
theorem F3.some (v : AV) : F3 fun U => Option.some (v,U) := fun _ _ _ h => by cases h; exact ⟨rfl,fun _ => rfl⟩
abbrev cg_ := @F3.some
theorem Ab9 (x : AV) : F3 (Yc x) := cg_ x
theorem An0 (t : Nat) (x : AV) : F3 (sIfc t x) := cg_ _
theorem Al6 (f : Fn) (a b : List AV) : F3 (Ajz f a b) := cg_ _
theorem Al7 (c a b : AV) : F3 (Abx c a b) := by
 unfold Abx; split
 ·exact cg_ _
 ·exact cg_ _
 ·exact ay_
theorem Abo (x : AV) : F3 (Im x) := by
 unfold Im; split
 ·exact cg_ _
 ·exact cg_ _
 ·exact cg_ _
 ·exact ay_
theorem Afq (r : Option AV) : F3 (Vy r) := by
 unfold Vy; split
 ·exact cg_ _
 ·exact ay_
theorem Y7 (z : List AV) (ps : List (Nat × Nat × AV)) : F3 (Lt z ps) := by
 unfold Lt; split
 ·exact cg_ _
 ·exact ay_
theorem Wm (z : List AV) (size len : Nat) (ps : List (Nat × Nat × AV)) : F3 (Fv z size len false ps) := by
 unfold Fv; split
 ·exact cg_ _
 ·exact ay_
theorem An1 (n : Nat) (x : AV) : F3 (Anp n x) := by
 unfold Anp; split
 ·exact cg_ _
 ·exact ay_
theorem Aic (ti : TI) (n : Nat) (x : AV) : F3 (Yd ti n x) := by
 unfold Yd; split
 ·split
  ·exact cg_ _
  ·exact ay_
 ·exact ay_
theorem Mb (b : Bool) {f g : Sto -> Res} (hf : F3 f) (hg : F3 g) : F3 fun U => cond b (f U) (g U) := by
 cases b
 ·exact hg
 ·exact hf
theorem Y8 (n : Nat) (x i : AV) : F3 (Hf n x i) := by
 unfold Hf; split
 ·split
  ·simp only [Ai]; exact Mb _ (cg_ _) ay_
  ·exact Mb _ (cg_ _) ay_
  ·exact ay_
 ·exact ay_
theorem S1 (l n : Nat) (x i : AV) : F3 (Fh l n x i) := by
 unfold Fh; split
 ·exact Mb _ (F3.const _) ay_
 ·exact ay_
theorem Abp (x i : AV) : F3 (Ki x i) := by
 unfold Ki; split
 ·split
  ·exact cg_ _
  ·exact ay_
 ·exact ay_
theorem Abq (te : TI) (l : Nat) (x i : AV) : F3 (Io te l x i) := by
 unfold Io; split
 ·exact Mb _ (F3.const _) ay_
 ·exact ay_
theorem Qm (x : AV) (lo hi : Option AV) : F3 (Kh x lo hi) := by
 unfold Kh; split
 ·split
  ·exact cg_ _
  ·exact ay_
 ·exact ay_
theorem Y9 (n : Nat) (x : AV) (lo hi mx : Option AV) : F3 (Lu n x lo hi mx) := by
 unfold Lu; split
 ·split
  ·split
   ·simp only [Ai]; exact cg_ _
   ·exact ay_
  ·exact ay_
 ·split
  ·split
   ·split
    ·simp only [Ai]; exact cg_ _
    ·exact ay_
   ·exact ay_
  ·exact ay_
 ·split
  ·exact cg_ _
  ·exact ay_
 ·exact ay_
theorem Aec (i : Nat) (x : AV) : F3 (L7 i x) := by
 unfold L7; split
 ·split
  ·exact cg_ _
  ·exact ay_
 ·exact ay_
theorem Afr (t : Nat) (z : Option AV) (ok : Bool) (x : AV) : F3 (Xk t z ok x) := by
 intro U U' v h; cases h
theorem An2 (x : AV) : F3 (Jk x) := by
 unfold Jk; split
 ·exact cg_ _
 ·exact cg_ _
 ·exact cg_ _
 ·exact ay_
theorem Afs (f : Int -> Int -> Int) (x y : AV) : F3 (Uu f x y) := by
 unfold Uu; split
 ·exact Mb _ (cg_ _) ay_
 ·exact ay_
theorem Al8 {op : Op} (hc : Bl E op = .pure) : F3 (Az E op tm) := by
 show F3 fun U => Az E op tm U
 cases op <;> simp only [Bl] at hc <;> try (cases hc; done)
 case move x => exact Ab9 _
 case assign x => exact Ab9 _
 case pick c a b => exact Al7 _ _ _
 case nilCheck x => exact Abo _
 case build t ps =>
  simp only [Az]; split
  ·split
   ·split
    ·exact Y7 _ _
    ·exact ay_
   ·split
    ·exact Y7 _ _
    ·exact ay_
   ·exact ay_
  ·exact ay_
 case buildSlice t n ps =>
  simp only [Az]
  split at hc
  ·rename_i ti hti
   split at hc
   ·rename_i e hd
    split at hc
    ·cases hc
    ·rename_i hb
     split
     ·split
      ·split
       ·rw [hb]; exact Wm _ _ _ _
       ·exact ay_
      ·exact ay_
     ·exact ay_
   ·cases hc
  ·cases hc
 case binOp op t x y _ => exact Afq _
 case unOp op t x => exact Afq _
 case makeInterface t x =>
  simp only [Az]; split
  ·split
   ·exact ay_
   ·exact An0 _ _
  ·exact ay_
 case makeFunc f a b => exact Al6 _ _ _
 case slice t x lo hi mx =>
  simp only [Az]
  split at hc
  ·rename_i ti hti
   split at hc
   ·cases hc
   ·rename_i hd
    split
    ·split
     ·exact Qm _ _ _
     ·exact ay_
    ·split
     ·exact Y9 _ _ _ _ _
     ·exact ay_
    ·rename_i n e hd'; exact absurd hd' (hd n e)
    ·exact ay_
  ·cases hc
 case fieldAddr t x i =>
  simp only [Az]; split
  ·split
   ·split
    ·split
     ·split
      ·exact ay_
      ·exact An1 _ _
     ·exact ay_
    ·exact ay_
   ·exact ay_
  ·exact ay_
 case field t x i =>
  simp only [Az]; split
  ·split
   ·split
    ·split
     ·exact Aic _ _ _
     ·exact ay_
    ·exact ay_
   ·exact ay_
  ·exact ay_
 case indexAddr t x i =>
  simp only [Az]; split
  ·split
   ·split
    ·exact Y8 _ _ _
    ·exact ay_
   ·split
    ·exact S1 _ _ _ _
    ·exact ay_
   ·exact ay_
  ·exact ay_
 case index t x i =>
  simp only [Az]; split
  ·split
   ·exact Abp _ _
   ·split
    ·exact Abq _ _ _ _
    ·exact ay_
   ·exact ay_
  ·exact ay_
 case extract x i => exact Aec _ _
 case typeAssert x xt t ok =>
  simp only [Az]; split
  ·split
   ·exact ay_
   ·exact Afr _ _ _ _
  ·exact ay_
 case call c =>
  simp only [Az]
  split at hc <;> try (cases hc; done)
  all_goals rename_i hb
  all_goals simp only [hb]
  all_goals split <;> try exact ay_
  all_goals split <;> try exact ay_
  all_goals simp only [C8]
  ·split
   ·exact An2 _
   ·exact ay_
  ·split
   ·exact Afs _ _ _
   ·exact ay_
  ·split
   ·exact Afs _ _ _
   ·exact ay_
theorem Aid {op : Op} (hc : Bl E op = .read) {v : AV} (h : Az E op tm U = some (v,U')) : U' = U := by
 cases op <;> simp only [Bl] at hc <;> try (cases hc; done)
 case load t x =>
  simp only [Az] at h
  split at h
  ·unfold L6 at h
   (repeat' (split at h)) <;> first | (cases h; done) | (cases h; rfl)
  ·cases h
 case lookup t m k ok =>
  simp only [Az] at h
  (repeat' (split at h)) <;> try (cases h; done)
  unfold Jw at h
  (repeat' (split at h)) <;> first | (cases h; done) | (cases h; rfl)
 case entry x =>
  simp only [Az] at h;unfold Yf at h
  split at h
  ·split at h
   ·split at h
    ·unfold cond at h
     split at h
     ·cases h; rfl
     ·cases h
    ·cases h
   ·cases h
  ·cases h
 case convert s d x =>
  simp only [Az] at h
  (repeat' (split at h)) <;> try (cases h; done)
  ·unfold Nw at h
   (repeat' (split at h)) <;> first | (cases h; done) | (cases h; rfl)
  ·unfold Rz at h
   (repeat' (split at h)) <;> first | (cases h; done) | (cases h; rfl)
  ·unfold Jv at h
   (repeat' (split at h)) <;> first | (cases h; done) | (cases h; rfl)
 case slice t x lo hi mx =>
  simp only [Az] at h
  (repeat' (split at h)) <;> try (cases h; done)
  ·exact (Qm _ _ _ _ _ _ h).1
  ·exact (Y9 _ _ _ _ _ _ _ _ h).1
 case call c =>
  simp only [Az] at h
  split at hc <;> try (cases hc; done)
  rename_i hb
  simp only [hb] at h
  (repeat' (split at h)) <;> try (cases h; done)
  simp only [C8] at h
  (repeat' (split at h)) <;> try (cases h; done)
  ·unfold sLen at h
   (repeat' (split at h)) <;> first | (cases h; done) | (cases h; rfl)
  ·unfold Xl at h;simp only [Ai] at h
   (repeat' (split at h)) <;> first | (cases h; done) | (cases h; rfl)
  ·unfold Pe at h;simp only [Ai] at h
   (repeat' (split at h)) <;> first | (cases h; done) | (cases h; rfl)
  ·cases h; rfl
 all_goals (split at hc <;> first | (cases hc; done) | (split at hc <;> first | (cases hc; done) | (split at hc <;> cases hc)))
end
abbrev Ae := List (Nat × AV)
def Ae.at : Ae -> Nat -> Option AV
 | [],_ => none
 | (j,v) :: r,i => cond (Nat.beq j i) (some v) (Ae.at r i)
def Has (tm : Tr AV) (J : Ae) : Prop := ∀ i v,Ae.at J i = some v -> tm.get i = some v
def hdV : AV -> Option AV
 | .any => none
 | .bool b => some (.bool b)
 | .int k n => some (.int k n)
 | .str l => some (.str l)
 | .nil v => some (.nil v)
 | .agg l => some (.agg l)
 | .fn f a b => some (.fn f a b)
 | .tup l => some (.tup l)
 | _ => none
theorem Asr {v u : AV} (h : hdV v = some u) : v = u := by cases v <;> simp_all [hdV]
section
variable {E : Env} {J : Ae} {tm : Tr AV} {U U' U'' : Sto} {Rr : Rec} {lf nt : Nat} {df : List (Nat × List AV)}
def Ak (E : Env) (J : Ae) : Operand -> Option AV
 | .tmp t => Ae.at J t
 | .const v => hdV (ofV v)
 | .global g => match E.gl g with | some cs => some (.pv cs) | none => none
 | .func f => some (.fn (.func f) [] [])
def Ky (E : Env) (J : Ae) : List Operand -> Option (List AV)
 | [] => some []
 | x :: r => match Ak E J x,Ky E J r with
  | some v,some l => some (v :: l)
  | _,_ => none
def Gp (E : Env) (J : Ae) : Option Operand -> Option (Option AV)
 | none => some none
 | some x => match Ak E J x with | some v => some (some v) | none => none
theorem Has.opd (h : Has tm J) {x : Operand} {v : AV} (hx : Ak E J x = some v) : opd E tm x = v := by
 cases x with
 | tmp t => simp only [Ak] at hx; simp only [Go.AM.opd,h t v hx]
 | const c => exact Asr hx
 | global g =>
  simp only [Ak] at hx;simp only [Go.AM.opd]
  split at hx
  ·rename_i cs hg; cases hx; simp only [hg]
  ·cases hx
 | func f => simp only [Ak,ad_] at hx; exact hx
theorem Has.opds (h : Has tm J) : ∀ {l : List Operand} {vs : List AV},Ky E J l = some vs -> opds E tm l = vs
 | [],vs,hl => by simp only [Ky,ad_] at hl; subst hl; rfl
 | x :: r,vs,hl => by
  simp only [Ky] at hl
  split at hl
  ·rename_i v l hv hr
   cases hl;simp only [Go.AM.opds,h.opd hv,Has.opds h hr]
  ·cases hl
theorem Has.opdO (h : Has tm J) {x : Option Operand} {v : Option AV} (hx : Gp E J x = some v) : opdO E tm x = v := by
 cases x with
 | none => simp only [Gp,ad_] at hx; subst hx; rfl
 | some x =>
  simp only [Gp] at hx
  split at hx
  ·rename_i u hu; cases hx; simp only [Go.AM.opdO,h.opd hu]
  ·cases hx
theorem Has.put (h : Has tm J) (d : Nat) (v : AV) : Has (tm.put (d + 1) d (some v)) ((d,v) :: J) := by
 intro i u hu;rw [de_];simp only [Ae.at] at hu;cases hb : Nat.beq d i with
 | true => rw [hb] at hu; have := ac_ hb; subst this; rw [if_pos rfl]; exact hu
 | false =>
  rw [hb] at hu
  rw [if_neg (fun he => by subst he; rw [bf_] at hb; cases hb)]
  exact h i u hu
def A0 (E : Env) (Rr : Rec) (op : Op) (J : Ae) (U : Sto) (v : AV) (U' : Sto) : Prop := ∀ tm,Has tm J -> opA E op Rr tm U = some (v,U')
variable {x y c a b : Operand} {v u u' z : AV} {l l' : List AV} {t : Nat} {n : Nat}
theorem Al (hx : Ak E J x = some v) : A0 E Rr (.move x) J U v U := fun tm h => by simp only [opA,Az,Yc,h.opd hx]
theorem Fi (hx : Ak E J x = some v) : A0 E Rr (.assign x) J U v U := fun tm h => by simp only [opA,Az,Yc,h.opd hx]
theorem B8 {bb : Bool} (hc : Ak E J c = some (.bool bb)) (hb : bb = true) (hx : Ak E J a = some v) : A0 E Rr (.pick c a b) J U v U := fun tm h => by
 subst hb; simp only [opA,Az,Abx,h.opd hc,h.opd hx]
theorem A7 {bb : Bool} (hc : Ak E J c = some (.bool bb)) (hb : bb = false) (hx : Ak E J b = some v) : A0 E Rr (.pick c a b) J U v U := fun tm h => by
 subst hb; simp only [opA,Az,Abx,h.opd hc,h.opd hx]
theorem Al9 {ad off : Nat} (hx : Ak E J x = some (.pr ad off)) : A0 E Rr (.nilCheck x) J U (.pr ad off) U := fun tm h => by simp only [opA,Az,Im,h.opd hx]
theorem Ex (hx : Ak E J x = some (.pv l)) : A0 E Rr (.nilCheck x) J U (.pv l) U := fun tm h => by simp only [opA,Az,Im,h.opd hx]
def zI (P : Program) (t : Nat) : Option (List AV) := match A4 P t with | some ti => ti.zero | none => none
def ldI (P : Program) (t : Nat) : Option (Nat × Bool) := match A4 P t with | some ti => some (ti.size,ti.isAgg) | none => none
def okI (P : Program) (t : Nat) : Bool := match A4 P t with | some _ => true | none => false
def fdI (P : Program) (t i : Nat) : Option (Nat × Nat × Bool) := match A4 P t with
 | some ti => match ti.desc with
  | .struct fs => match fs.toList[i]? with
   | some f => match A4 P f.type with
    | some tf => some (f.offset,tf.size,tf.isAgg)
    | none => none
   | none => none
  | _ => none
 | none => none
def elI (P : Program) (t : Nat) : Option (Nat × Nat × Option (List AV)) := match A4 P t with
 | some ti => match ti.desc with
  | .slice e => match A4 P e with
   | some te => some (te.size,te.bytes,te.zero)
   | none => none
  | _ => none
 | none => none
def arI (P : Program) (t : Nat) : Option (Nat × Nat × Bool) := match A4 P t with
 | some ti => match ti.desc with
  | .array n e => match A4 P e with
   | some te => some (n,te.size,te.isAgg)
   | none => none
  | _ => none
 | none => none
def bdF (P : Program) : List Field -> Option (List (Nat × Nat))
 | [] => some []
 | f :: r => match A4 P f.type,bdF P r with
  | some ti,some l => some ((f.offset,ti.size) :: l)
  | _,_ => none
def bdI (P : Program) (t : Nat) : Option (List AV × List (Nat × Nat)) := match A4 P t with
 | some ti => match ti.zero,ti.desc with
  | some z,.struct fs => match Pc P fs.toList,bdF P fs.toList with
   | true,some l => some (z,l)
   | _,_ => none
  | _,_ => none
 | none => none
def mpI (P : Program) (t : Nat) : Option (Nat × AV × Nat × Bool) := match A4 P t with
 | some ti => match ti.desc with
  | .map kt et => match A4 P et with
   | some te => match Km te with
    | some z => some (kt,z,te.size,te.isAgg)
    | none => none
   | none => none
  | _ => none
 | none => none
def Dy (P : Program) (t : Nat) : Bool := match A4 P t with | some ti => (match ti.desc with | .string => true | _ => false) | none => false
def Xq (P : Program) (t : Nat) : Bool := match A4 P t with | some ti => (match ti.desc with | .bool => true | _ => false) | none => false
def Oc (P : Program) (t : Nat) : Bool := match A4 P t with | some ti => (match ti.desc with | .slice _ => true | _ => false) | none => false
def Jc (sz : Nat) (agg : Bool) (l : List AV) : Option AV :=
 match agg with
 | true => match C7 sz l with | some cs => some (.agg cs) | none => none
 | false => match l with | v :: _ => some v | [] => none
def Bk (U : Sto) : AV -> Option (List AV)
 | .pr a off => match U.cells a with | some vs => some (vs.drop off) | none => none
 | .pv cs => some cs
 | _ => none
theorem Pn {P : Program} {sz : Nat} {agg : Bool} (h : ldI P t = some (sz,agg)) : ∃ ti,A4 P t = some ti /\ ti.size = sz /\ ti.isAgg = agg := by
 unfold ldI at h
 split at h
 ·rename_i ti hti; cases h; exact ⟨ti,hti,rfl,rfl⟩
 ·cases h
theorem Hr (ti : TI) (l : List AV) : Et ti l = Jc ti.size ti.isAgg l := by
 unfold Et Jc;cases ti.isAgg <;> rfl
theorem Ad {sz : Nat} {agg : Bool} {cs : List AV} (hi : ldI E.P t = some (sz,agg)) (hx : Ak E J x = some u) (hc : Bk U u = some cs) (hv : Jc sz agg cs = some v) :
  A0 E Rr (.load t x) J U v U := fun tm h => by
 obtain ⟨ti,h1,h2,h3⟩ := Pn hi;subst h2 h3;simp only [opA,Az,h1,h.opd hx];cases u <;> simp only [Bk] at hc <;> try (cases hc)
 ·rename_i a off
  split at hc
  ·rename_i vs hvs
   cases hc;simp only [L6,hvs,Hr,hv]
  ·cases hc
 ·simp only [L6,Hr,hv]
theorem Aw {sz : Nat} {agg : Bool} {ad off : Nat} {vs vs' cs : List AV} (hi : ldI E.P t = some (sz,agg)) (hx : Ak E J x = some (.pr ad off)) (hy : Ak E J y = some v)
  (hc : v.cellsN sz = some cs) (hv : U.cells ad = some vs) (hs : setAt vs off cs = some vs') : A0 E Rr (.store t x y) J U Au (U.set ad (.cells vs')) := fun tm h => by
 obtain ⟨ti,h1,h2,h3⟩ := Pn hi;subst h2 h3;simp only [opA,Az,h1,h.opd hx,h.opd hy,Adt,hc,hv,hs]
theorem Ct {z : List AV} (hi : zI E.P t = some z) : A0 E Rr (.alloc t) J U (.pr (nx U) 0) (U.new (.cells z)) := fun tm h => by
 unfold zI at hi
 split at hi
 ·rename_i ti hti
  simp only [opA,Az,hti,hi,X9]
 ·cases hi
theorem Aie {sz : Nat} {agg : Bool} {cs : List AV} (hi : ldI E.P t = some (sz,agg)) (hx : Ak E J x = some v) (hc : v.cellsN sz = some cs) :
  A0 E Rr (.box t x) J U (.pr (nx U) 0) (U.new (.cells cs)) := fun tm h => by
 obtain ⟨ti,h1,h2,h3⟩ := Pn hi;subst h2 h3;simp only [opA,Az,h1,h.opd hx,sBox,hc]
def addP : AV -> Nat -> Option AV
 | .pr a off,n => some (.pr a (off + n))
 | .pv cs,n => some (.pv (cs.drop n))
 | _,_ => none
theorem Aka (x : AV) (n : Nat) : Qt x n = addP x n := by cases x <;> simp only [Qt,addP,Ai]
theorem Aj {i off sz : Nat} {agg : Bool} (hi : fdI E.P t i = some (off,sz + 1,agg)) (hx : Ak E J x = some u) (hp : addP u off = some v) :
  A0 E Rr (.fieldAddr t x i) J U v U := fun tm h => by
 unfold fdI at hi
 split at hi
 ·rename_i ti hti
  split at hi
  ·rename_i fs hfs
   split at hi
   ·rename_i f hf
    split at hi
    ·rename_i tf htf
     simp only [ad_,bc_] at hi;obtain ⟨k1,k2,k3⟩ := hi;subst k1;simp only [opA,Az,hti,hfs,hf,htf,k2,h.opd hx,Anp,Aka,hp]
    ·cases hi
   ·cases hi
  ·cases hi
 ·cases hi
theorem Aft {i off sz : Nat} {agg : Bool} {cs : List AV} (hi : fdI E.P t i = some (off,sz,agg)) (hx : Ak E J x = some (.agg cs)) (hv : Jc sz agg (cs.drop off) = some v) :
  A0 E Rr (.field t x i) J U v U := fun tm h => by
 unfold fdI at hi
 split at hi
 ·rename_i ti hti
  split at hi
  ·rename_i fs hfs
   split at hi
   ·rename_i f hf
    split at hi
    ·rename_i tf htf
     simp only [ad_,bc_] at hi;obtain ⟨k1,k2,k3⟩ := hi;subst k1 k2 k3;simp only [opA,Az,hti,hfs,hf,htf,h.opd hx,Yd,Hr,hv]
    ·cases hi
   ·cases hi
  ·cases hi
 ·cases hi
theorem Od {sz by' : Nat} {zz : Option (List AV)} (h : elI E.P t = some (sz,by',zz)) : ∃ ti e te,A4 E.P t = some ti /\ ti.desc = .slice e /\ A4 E.P e = some te /\ te.size = sz /\ te.bytes = by' /\ te.zero = zz := by
 unfold elI at h
 split at h
 ·rename_i ti hti
  split at h
  ·rename_i e he
   split at h
   ·rename_i te hte
    simp only [ad_,bc_] at h;exact ⟨ti,e,te,hti,he,hte,h.1,h.2.1,h.2.2⟩
   ·cases h
  ·cases h
 ·cases h
theorem Za {u : AV} {n : Nat} (h : lenA u = some n) (hs : Yb u = true) : (∃ a off sz cap,u = .sr a off sz n cap) ∨ (∃ cs sz cap,u = .sv cs sz n cap) ∨ (u = .nil (.slice none 0 0) /\ n = 0) := by
 unfold lenA at h
 split at h
 ·cases h; exact .inl ⟨_,_,_,_,rfl⟩
 ·cases h; exact .inr (.inl ⟨_,_,_,rfl⟩)
 ·cases h; exact .inr (.inr ⟨rfl,rfl⟩)
 ·simp [Yb] at hs
 ·cases h
def Afu : AV -> Nat -> AV
 | .sr a off sz _ _,n => .pr a (off + n)
 | .sv cs _ _ _,n => .pv (cs.drop n)
 | _,_ => .any
theorem S3 {sz by' m : Nat} {zz : Option (List AV)} {k : IntKind} (hi : elI E.P t = some (sz,by',zz)) (hx : Ak E J x = some u) (hy : Ak E J y = some (.int k (.ofNat n)))
  (hl : lenA u = some m) (hs : Yb u = true) (hn : n < m) : A0 E Rr (.indexAddr t x y) J U (Afu u (n * sz)) U := fun tm h => by
 obtain ⟨ti,e,te,h1,h2,h3,h4,h5,h6⟩ := Od hi;subst h4;simp only [opA,Az,h1,h2,h3,h.opd hx,h.opd hy]
 have hb : ∀ m,n < m -> Nat.blt n m = true := fun m hm => by simpa using hm
 rcases Za hl hs with ⟨a,off,sz',cap,rfl⟩ | ⟨cs,sz',cap,rfl⟩ | ⟨rfl,rfl⟩
 ·simp only [Hf,hb _ hn,cond_true,Ai,Afu]
 ·simp only [Hf,hb _ hn,cond_true,Afu]
 ·omega
theorem Cl {sz m : Nat} {agg : Bool} {k : IntKind} (hi : arI E.P t = some (m,sz,agg)) (hx : Ak E J x = some u) (hy : Ak E J y = some (.int k (.ofNat n)))
  (hn : n < m) (hp : addP u (n * sz) = some v) : A0 E Rr (.indexAddr t x y) J U v U := fun tm h => by
 unfold arI at hi
 split at hi
 ·rename_i ti hti
  split at hi
  ·rename_i nn e he
   split at hi
   ·rename_i te hte
    simp only [ad_,bc_] at hi;obtain ⟨k1,k2,k3⟩ := hi;subst k1 k2
    have hb : Nat.blt n nn = true := by simpa using hn
    simp only [opA,Az,hti,he,hte,h.opd hx,h.opd hy,Fh,hb,cond_true,Aka,hp]
   ·cases hi
  ·cases hi
 ·cases hi
theorem Afv {s : List Nat} {k : IntKind} {w : Nat} (hi : Dy E.P t = true) (hx : Ak E J x = some (.str s)) (hy : Ak E J y = some (.int k (.ofNat n))) (hn : s[n]? = some w) :
  A0 E Rr (.index t x y) J U (.int .u8 (.ofNat w)) U := fun tm h => by
 unfold Dy at hi
 split at hi
 ·rename_i ti hti
  split at hi
  ·rename_i hd
   simp only [opA,Az,hti,hd,h.opd hx,h.opd hy,Ki,hn]
  ·cases hi
 ·cases hi
theorem Oe {P : Program} (h : okI P t = true) : ∃ ti,A4 P t = some ti := by
 unfold okI at h
 split at h
 ·rename_i ti hti; exact ⟨ti,hti⟩
 ·cases h
theorem Og (k : IntKind) : He k k = true := by cases k <;> rfl
theorem Kz {k : IntKind} {op : BinOp} {p q : Int} {ty : Nat} (hi : okI E.P t = true) (hx : Ak E J x = some (.int k p)) (hy : Ak E J y = some (.int k q)) (hv : Gm op k p q = some v) :
  A0 E Rr (.binOp op t x y ty) J U v U := fun tm h => by
 obtain ⟨ti,hti⟩ := Oe hi;simp only [opA,Az,h.opd hx,h.opd hy,Aba,hti,Og,cond_true,hv,Vy]
theorem Aed {op : BinOp} {p q : List Nat} {ty : Nat} (hi : okI E.P t = true) (hx : Ak E J x = some (.str p)) (hy : Ak E J y = some (.str q)) (hv : Rx op p q = some v) :
  A0 E Rr (.binOp op t x y ty) J U v U := fun tm h => by
 obtain ⟨ti,hti⟩ := Oe hi;simp only [opA,Az,h.opd hx,h.opd hy,Aba,hti,hv,Vy]
theorem Aqn {k : IntKind} {p q : Int} : Gm .lss k p q = some (.bool (decide (p < q))) := by
 simp only [Gm,Eb]; congr 2; by_cases h : q <= p <;> simp [h] <;> omega
theorem Aqo {k : IntKind} {p q : Int} : Gm .leq k p q = some (.bool (decide (p <= q))) := by simp only [Gm,Eb]
theorem Aqp {k : IntKind} {p q : Int} : Gm .gtr k p q = some (.bool (decide (q < p))) := by
 simp only [Gm,Eb]; congr 2; by_cases h : p <= q <;> simp [h] <;> omega
theorem Aqq {k : IntKind} {p q : Int} : Gm .geq k p q = some (.bool (decide (q <= p))) := by simp only [Gm,Eb]
theorem Aqr {k : IntKind} {p q : Int} : Gm .eql k p q = some (.bool (decide (p = q))) := by simp only [Gm,Ir]; congr 2
theorem Aqs {k : IntKind} {p q : Int} : Gm .neq k p q = some (.bool (!decide (p = q))) := by simp only [Gm,Ir]; congr 2
theorem Aqt {p q : Nat} (h : p + q < 9223372036854775808) : Gm .add .i64 (.ofNat p) (.ofNat q) = some (.int .i64 (.ofNat (p + q))) := by
 have : Nat.ble (p + q) 9223372036854775807 = true := ap_ Om;simp only [Gm,Ah1,L5,Ai,Ls,this,cond_true]
theorem Akb {p q : List Nat} : Rx .eql p q = some (.bool (decide (p = q))) := by
 simp only [Rx]; congr 2; by_cases h : p = q
 ·rw [(Fx p q).2 h]; simp [h]
 ·cases hb : Ft p q
  ·simp [h]
  ·exact absurd ((Fx p q).1 hb) h
theorem Aqu {p q : List Nat} : Rx .neq p q = some (.bool (!decide (p = q))) := by
 have := @Akb p q;simp only [Rx,ad_,AV.bool.injEq] at this ⊢;rw [this]
theorem Q5 {k : IntKind} {p q : Int} {ty : Nat} (hi : okI E.P t = true) (hx : Ak E J x = some (.int k p)) (hy : Ak E J y = some (.int k q)) : A0 E Rr (.binOp .lss t x y ty) J U (.bool (decide (p < q))) U := Kz hi hx hy Aqn
theorem T9 {k : IntKind} {p q : Int} {ty : Nat} (hi : okI E.P t = true) (hx : Ak E J x = some (.int k p)) (hy : Ak E J y = some (.int k q)) : A0 E Rr (.binOp .leq t x y ty) J U (.bool (decide (p <= q))) U := Kz hi hx hy Aqo
theorem Aee {k : IntKind} {p q : Int} {ty : Nat} (hi : okI E.P t = true) (hx : Ak E J x = some (.int k p)) (hy : Ak E J y = some (.int k q)) : A0 E Rr (.binOp .gtr t x y ty) J U (.bool (decide (q < p))) U := Kz hi hx hy Aqp
theorem Aif {k : IntKind} {p q : Int} {ty : Nat} (hi : okI E.P t = true) (hx : Ak E J x = some (.int k p)) (hy : Ak E J y = some (.int k q)) : A0 E Rr (.binOp .geq t x y ty) J U (.bool (decide (q <= p))) U := Kz hi hx hy Aqq
theorem Mz {k : IntKind} {p q : Int} {ty : Nat} (hi : okI E.P t = true) (hx : Ak E J x = some (.int k p)) (hy : Ak E J y = some (.int k q)) : A0 E Rr (.binOp .eql t x y ty) J U (.bool (decide (p = q))) U := Kz hi hx hy Aqr
theorem Aig {k : IntKind} {p q : Int} {ty : Nat} (hi : okI E.P t = true) (hx : Ak E J x = some (.int k p)) (hy : Ak E J y = some (.int k q)) : A0 E Rr (.binOp .neq t x y ty) J U (.bool (!decide (p = q))) U := Kz hi hx hy Aqs
theorem Dg {p q : Nat} {ty : Nat} (hi : okI E.P t = true) (hx : Ak E J x = some (.int .i64 (.ofNat p))) (hy : Ak E J y = some (.int .i64 (.ofNat q))) (hb : p + q < 9223372036854775808) :
  A0 E Rr (.binOp .add t x y ty) J U (.int .i64 (.ofNat (p + q))) U := Kz hi hx hy (Aqt hb)
theorem Ass {p q : List Nat} {ty : Nat} (hi : okI E.P t = true) (hx : Ak E J x = some (.str p)) (hy : Ak E J y = some (.str q)) : A0 E Rr (.binOp .eql t x y ty) J U (.bool (decide (p = q))) U := Aed hi hx hy Akb
theorem Ast {p q : List Nat} {ty : Nat} (hi : okI E.P t = true) (hx : Ak E J x = some (.str p)) (hy : Ak E J y = some (.str q)) : A0 E Rr (.binOp .neq t x y ty) J U (.bool (!decide (p = q))) U := Aed hi hx hy Aqu
theorem F4 {bb : Bool} (hx : Ak E J x = some (.bool bb)) : A0 E Rr (.unOp .not t x) J U (.bool (!bb)) U := fun tm h => by
 simp only [opA,Az,h.opd hx,unA,Vy]
theorem Aih {vs : List AV} {i : Nat} (hx : Ak E J x = some (.tup vs)) (hv : vs[i]? = some v) : A0 E Rr (.extract x i) J U v U := fun tm h => by
 simp only [opA,Az,h.opd hx,L7,hv]
theorem Akc {f : Fn} {p q : Array Operand} (hp : Ky E J p.toList = some l) (hq : Ky E J q.toList = some l') : A0 E Rr (.makeFunc f p q) J U (.fn f l l') U := fun tm h => by
 simp only [opA,Az,h.opds hp,h.opds hq,Ajz]
theorem Aqv {f : Operand} {args : Array Operand} {tys : Array Nat} {k : Nat} {vs first cap full : List AV} (hf : Ak E J f = some (.fn (.func k) first cap)) (ha : Ky E J args.toList = some vs)
  (hl : first ++ vs ++ cap = full) (hr : Rr k full U = some (v,U')) : A0 E Rr (.call ⟨.value f,args,tys⟩) J U v U' := fun tm h => by
 subst hl;simp only [opA,h.opd hf,h.opds ha,Ph,hr]
theorem S4 {kt sz : Nat} {agg : Bool} (h : mpI E.P t = some (kt,z,sz,agg)) : ∃ ti et te,A4 E.P t = some ti /\ ti.desc = .map kt et /\ A4 E.P et = some te /\ Km te = some z /\ te.size = sz /\ te.isAgg = agg := by
 unfold mpI at h
 split at h
 ·rename_i ti hti
  split at h
  ·rename_i kt' et he
   split at h
   ·rename_i te hte
    split at h
    ·rename_i z' hz
     simp only [ad_,bc_] at h;obtain ⟨k1,k2,k3,k4⟩ := h;subst k1 k2;exact ⟨ti,et,te,hti,he,hte,hz,k3,k4⟩
    ·cases h
   ·cases h
  ·cases h
 ·cases h
def Vc (U : Sto) (kt : Nat) (es : List (Key × AV)) : AV -> Prop
 | .mp r => ∃ ver,U.get r = some (.map kt es ver)
 | .nil (.map none) => es = []
 | _ => False
theorem Vd {kt : Nat} {es : List (Key × AV)} {u : AV} (h : Vc U kt es u) : (∃ r ver,u = .mp r /\ U.get r = some (.map kt es ver)) ∨ (u = .nil (.map none) /\ es = []) := by
 unfold Vc at h
 split at h
 ·obtain ⟨ver,h⟩ := h; exact .inl ⟨_,ver,rfl,h⟩
 ·exact .inr ⟨rfl,h⟩
 ·exact h.elim
theorem Aca {kt sz : Nat} {agg : Bool} {key : Key} {es : List (Key × AV)} (hi : mpI E.P t = some (kt,z,sz,agg)) (hx : Ak E J x = some u) (hm : Vc U kt es u)
  (hy : Ak E J y = some u') (hk : Er E.P kt u' = some key) : A0 E Rr (.lookup t x y false) J U ((De key es).getD z) U := fun tm h => by
 obtain ⟨ti,et,te,h1,h2,h3,h4,h5,h6⟩ := S4 hi;simp only [opA,Az,h1,h2,h3,h4,h.opd hx,h.opd hy,hk,Jw]
 rcases Vd hm with ⟨r,ver,rfl,hm'⟩ | ⟨rfl,rfl⟩
 ·simp only [hm',bf_];cases De key es <;> rfl
 ·simp [De,Ye]
theorem Zb {kt sz : Nat} {agg : Bool} {key : Key} {es : List (Key × AV)} (hi : mpI E.P t = some (kt,z,sz,agg)) (hx : Ak E J x = some u) (hm : Vc U kt es u)
  (hy : Ak E J y = some u') (hk : Er E.P kt u' = some key) : A0 E Rr (.lookup t x y true) J U (.tup [(De key es).getD z,.bool (De key es).isSome]) U := fun tm h => by
 obtain ⟨ti,et,te,h1,h2,h3,h4,h5,h6⟩ := S4 hi;simp only [opA,Az,h1,h2,h3,h4,h.opd hx,h.opd hy,hk,Jw]
 rcases Vd hm with ⟨r,ver,rfl,hm'⟩ | ⟨rfl,rfl⟩
 ·simp only [hm',bf_];cases De key es <;> rfl
 ·simp [De,Ye]
def Ama (k : Key) (v : AV) (es : List (Key × AV)) : List (Key × AV) := match De k es with | some _ => Np k v es | none => Mm k v es
theorem Acb {kt sz ver r : Nat} {agg : Bool} {key : Key} {es : List (Key × AV)} {w : Operand} (hi : mpI E.P t = some (kt,z,sz,agg)) (hx : Ak E J x = some (.mp r)) (hm : U.get r = some (.map kt es ver))
  (hy : Ak E J y = some u') (hk : Er E.P kt u' = some key) (hw : Ak E J w = some v) (hf : ∀ te : TI,te.size = sz -> te.isAgg = agg -> Nu te v = true) :
  A0 E Rr (.mapUpdate t x y w) J U Au (U.set r (.map kt (Ama key v es) (ver + 1))) := fun tm h => by
 obtain ⟨ti,et,te,h1,h2,h3,h4,h5,h6⟩ := S4 hi;simp only [opA,Az,h1,h2,h3,h.opd hx,h.opd hy,h.opd hw,hk,Mo,hm,bf_,hf te h5 h6,cl_,Ai,Ama];cases De key es <;> rfl
theorem M0 {kt sz : Nat} {agg : Bool} (hi : mpI E.P t = some (kt,z,sz,agg)) : A0 E Rr (.makeMap t none) J U (.mp (nx U)) (U.new (.map kt [] 0)) := fun tm h => by
 obtain ⟨ti,et,te,h1,h2,h3,h4,h5,h6⟩ := S4 hi;simp only [opA,Az,h1,h2,R0]
theorem B0 {t₀ : Nat} (hi : Oc E.P t₀ = true) (hx : Ak E J x = some u) (hl : lenA u = some n) (hs : Yb u = true) : A0 E Rr (.call ⟨.builtin .len,#[x],#[t₀]⟩) J U (.int .i64 (.ofNat n)) U := fun tm h => by
 unfold Oc at hi
 split at hi
 ·rename_i ti hti
  split at hi
  ·rename_i e hd
   simp only [opA,Az,hti,C8,hd,h.opd hx,opds,sLen]
   rcases Za hl hs with ⟨a,off,sz',cap,rfl⟩ | ⟨cs,sz',cap,rfl⟩ | ⟨rfl,rfl⟩ <;> rfl
  ·cases hi
 ·cases hi
theorem Amb {t₀ : Nat} {s : List Nat} (hi : Dy E.P t₀ = true) (hx : Ak E J x = some (.str s)) : A0 E Rr (.call ⟨.builtin .len,#[x],#[t₀]⟩) J U (.int .i64 (.ofNat s.length)) U := fun tm h => by
 unfold Dy at hi
 split at hi
 ·rename_i ti hti
  split at hi
  ·rename_i hd
   simp only [opA,Az,hti,C8,hd,h.opd hx,opds,Xl,Ai]
  ·cases hi
 ·cases hi
end
section
open Go Go.Proofs
def Aii : List AV := [.str [],.bool false,.int .i64 0,.int .i64 0,.str [36,99],.bool false,.int .i64 1,.int .i64 200,.str [36,118],.bool false,.int .i64 1,.int .i64 200,.str [36,102],.bool true,.int .i64 2,.int .i64 2,
 .str [36,101],.bool true,.int .i64 1,.int .i64 200,.str [36,100],.bool false,.int .i64 1,.int .i64 200,.str [36,97],.bool true,.int .i64 1,.int .i64 200,.str [36,112],.bool true,.int .i64 1,.int .i64 200,
 .str [36,123],.bool false,.int .i64 0,.int .i64 0,.str [36,125],.bool false,.int .i64 0,.int .i64 0]
def glW (g : Nat) : Option (List AV) := match Nat.beq g 4 with | true => some Aii | false => none
def Asu : List Int := (List.range 20).map fun i => ((10 ^ i : Nat) : Int)
def errP (cs : Array Value) : Prop := ∃ tp p,cs = #[.iface tp p]
def powP (cs : Array Value) : Prop := cs = (Asu.map fun z => Value.int .u64 z).toArray
def Zc : Nat -> Option (Array Value -> Prop)
 | 1 => some errP
 | 2 => some errP
 | 3 => some powP
 | _ => none
noncomputable def Ew : Env := { P := Tryz.prog,gl := glW,sum := fun _ => none,dsum := fun _ => none,byref := fun _ => false,hold := Zc }
theorem E8 : Tryz.prog.follows .mixedOrders = true := by kernel_rfl
def Zd (fn : Func) : Bool := !(fn.name == "runtime.NumGoroutine")
theorem Aef : Tryz.prog.funcs.toList.all Zd = true := by kernel_rfl
theorem Oh (f : Nat) (fn : Func) (h : Tryz.prog.funcs[f]? = some fn) : (fn.name == "runtime.NumGoroutine") = false := by
 have h1 : fn ∈ Tryz.prog.funcs.toList := by
  obtain ⟨h2,h3⟩ := ba_.1 h;rw [← h3]; exact Array.getElem_mem_toList h2
 have := da_.1 Aef fn h1
 simpa [Zd] using this
end
theorem Acc (A : Nat -> Nat) (i : Nat) : ∀ (l : List Edge) (s : Nat),(l.foldl (fun s e => if Region.binds .any e then s ||| 2 ^ e.on ||| A e.on else s) s).testBit i = true ->
  s.testBit i = true ∨ ∃ e ∈ l,Region.binds .any e = true /\ (i = e.on ∨ (A e.on).testBit i = true)
 | [],s,h => .inl h
 | e :: l,s,h => by
  simp only [fs_] at h
  rcases Acc A i l _ h with h1 | ⟨f,h1,h2⟩
  ·by_cases hb : Region.binds .any e = true
   ·rw [if_pos hb] at h1;simp only [Nat.testBit_or,ce_,Nat.testBit_two_pow,decide_eq_true_eq] at h1
    rcases h1 with (h1 | h1) | h1
    ·exact .inl h1
    ·exact .inr ⟨e,by simp,hb,.inl h1.symm⟩
    ·exact .inr ⟨e,by simp,hb,.inr h1⟩
   ·rw [if_neg hb] at h1; exact .inl h1
  ·exact .inr ⟨f,ak_ _ h1,h2⟩
theorem Acd (val : Array Nat -> Oper -> Nat) : ∀ (l : List Oper) (acc : Array Nat),
  (l.foldl (fun acc o => acc.push (val acc o)) acc).size = acc.size + l.length /\ (∀ k,k < acc.size -> (l.foldl (fun acc o => acc.push (val acc o)) acc)[k]? = acc[k]?) /\
  ∀ (k : Nat) (o : Oper),l[k]? = some o -> ∃ A : Array Nat,A.size = acc.size + k /\ (∀ m,m < A.size -> (l.foldl (fun acc o => acc.push (val acc o)) acc)[m]? = A[m]?) /\ (l.foldl (fun acc o => acc.push (val acc o)) acc)[acc.size + k]? = some (val A o)
 | [],acc => ⟨by simp,fun k _ => rfl,fun k o h => by simp at h⟩
 | x :: l,acc => by
  obtain ⟨h1,h2,h3⟩ := Acd val l (acc.push (val acc x));simp only [fs_];simp only [Array.size_push] at h1 h2 h3
  refine ⟨by rw [h1]; simp; omega,fun k hk => ?_,fun k o hk => ?_⟩
  ·rw [h2 k Om,e_ hk]; exact (cn_ hk).symm
  ·cases k with
   | zero =>
    simp at hk; subst hk
    refine ⟨acc,rfl,fun m hm => ?_,?_⟩
    ·rw [h2 m Om,e_ hm]; exact (cn_ hm).symm
    ·rw [ev_,h2 acc.size Om]; simp
   | succ k =>
    obtain ⟨A,a1,a2,a3⟩ := h3 k o (by simpa using hk)
    exact ⟨A,by omega,a2,by rw [← a3]; congr 1; omega⟩
theorem Afw {ops : Array Oper} {j : Nat} {o : Oper} (ho : ops[j]? = some o) {i : Nat} (h : ((Region.before ops).getD j 0).testBit i = true) :
  ∃ e ∈ o.after,Region.binds .any e = true /\ (i = e.on ∨ ((Region.before ops).getD e.on 0).testBit i = true) := by
 obtain ⟨f,hf⟩ : ∃ f : Array Nat -> Oper -> Nat,(∀ A o,f A o = o.after.toList.foldl (fun s e => if Region.binds .any e then s ||| 2 ^ e.on ||| A.getD e.on 0 else s) 0) /\
   Region.before ops = ops.toList.foldl (fun acc o => acc.push (f acc o)) #[] := by
  refine ⟨fun A o => o.after.foldl (fun s e => if Region.binds .any e then s ||| 2 ^ e.on ||| A.getD e.on 0 else s) 0,fun A o => by simp only []; rw [← ey_],?_⟩
  unfold Region.before;rw [← ey_]
 obtain ⟨hf1,hf2⟩ := hf;obtain ⟨_,_,h3⟩ := Acd f ops.toList #[]
 obtain ⟨A,a1,a2,a3⟩ := h3 j o (by simpa using ho)
 rw [← hf2] at a2 a3
 have hv : (Region.before ops).getD j 0 = f A o := by
  rw [bd_]
  have : (#[] : Array Nat).size + j = j := by simp
  rw [this] at a3; rw [a3]; rfl
 rw [hv,hf1] at h
 rcases Acc (fun k => A.getD k 0) i _ 0 h with h0 | ⟨e,h4,h5,h6⟩
 ·simp at h0
 ·refine ⟨e,by simpa using h4,h5,h6.imp id fun h7 => ?_⟩
  by_cases hk : e.on < A.size
  ·rw [bd_,a2 _ hk,← bd_]; exact h7
  ·have : A.getD e.on 0 = 0 := by rw [bd_,Array.getElem?_eq_none Om]; rfl
   simp only [this,Nat.zero_testBit] at h7; cases h7
section
variable {E : Env} {ops : List Oper} {Rr : Rec} {nt : Nat}
def OneD (E : Env) (ops : List Oper) (Rr : Rec) (o : Oper) (tm : Tr AV) (U : Sto) (v : AV) (U' : Sto) : Prop :=
 (Co ops o tm = some true /\ opA E o.op Rr tm U = some (v,U')) ∨ (Co ops o tm = some false /\ v = Au /\ U' = U)
def cnt (E : Env) : List Oper -> Nat -> Nat
 | [],_ => 0
 | _ :: _,0 => 0
 | o :: r,k + 1 => (if Bz (Bl E o.op) = true then 1 else 0) + cnt E r k
inductive Lex (E : Env) (ops : List Oper) (Rr : Rec) (nt : Nat) : List Oper -> Tr AV -> Sto -> List (Tr AV × AV) -> List Sto -> Tr AV -> Sto -> Prop
 | nil {tm U} : Lex E ops Rr nt [] tm U [] [] tm U
 | eff {o r tm U v U₁ tm₁ log eps tm' U'} : Bz (Bl E o.op) = true -> OneD E ops Rr o tm U v U₁ -> Jx o.dst tm nt v = some tm₁ -> Lex E ops Rr nt r tm₁ U₁ log eps tm' U' ->
   Lex E ops Rr nt (o :: r) tm U ((tm,v) :: log) (U₁ :: eps) tm' U'
 | calm {o r tm U v U₁ tm₁ log eps tm' U'} : Bz (Bl E o.op) = false -> OneD E ops Rr o tm U v U₁ -> Jx o.dst tm nt v = some tm₁ -> Lex E ops Rr nt r tm₁ U log eps tm' U' ->
   Lex E ops Rr nt (o :: r) tm U ((tm,v) :: log) eps tm' U'
theorem Mc : ∀ {r : List Oper} {d d' : DS},Sg E ops Rr r d = some d' -> ∃ log eps,Lex E ops Rr d.s.nt r d.s.tm d.s.sto log eps d'.s.tm d'.s.sto /\ d'.log.reverse = d.log.reverse ++ log /\ d'.eps.reverse = d.eps.reverse ++ eps /\ d'.s.nt = d.s.nt /\ d'.s.df = d.s.df
 | [],d,d',h => by
  simp only [Sg,ad_] at h; subst h
  exact ⟨[],[],.nil,by simp,by simp,rfl,rfl⟩
 | o :: r,d,d',h => by
  simp only [Sg] at h
  split at h
  ·rename_i d₁ h₁
   obtain ⟨log,eps,k1,k2,k3,k4,k5⟩ := Mc h;unfold Pk at h₁
   split at h₁
   ·rename_i hg
    split at h₁
    ·rename_i v U hv
     split at h₁
     ·rename_i tm htm
      split at h₁
      ·rename_i he
       cases h₁
       exact ⟨_,_,.eff he (.inl ⟨hg,hv⟩) htm k1,by rw [k2]; simp,by rw [k3]; simp,k4,k5⟩
      ·rename_i he
       cases h₁
       exact ⟨_,_,.calm he (.inl ⟨hg,hv⟩) htm k1,by rw [k2]; simp,k3,k4,k5⟩
     ·cases h₁
    ·cases h₁
   ·rename_i hg
    split at h₁
    ·rename_i tm htm
     split at h₁
     ·rename_i he
      cases h₁
      exact ⟨_,_,.eff he (.inr ⟨hg,rfl,rfl⟩) htm k1,by rw [k2]; simp,by rw [k3]; simp,k4,k5⟩
     ·rename_i he
      cases h₁
      exact ⟨_,_,.calm he (.inr ⟨hg,rfl,rfl⟩) htm k1,by rw [k2]; simp,k3,k4,k5⟩
    ·cases h₁
   ·cases h₁
  ·cases h
theorem Ze {r : List Oper} {tm tm' : Tr AV} {U U' : Sto} {log : List (Tr AV × AV)} {eps : List Sto} (h : Lex E ops Rr nt r tm U log eps tm' U') :
  log.length = r.length /\ eps.length = cnt E r r.length /\ (log.map (·.1) ++ [tm'])[0]? = some tm /\ (U :: eps)[eps.length]? = some U' /\
  ∀ (k : Nat) (o : Oper),r[k]? = some o -> ∃ t v t₁ Uk U₁,log[k]? = some (t,v) /\ (log.map (·.1) ++ [tm'])[k + 1]? = some t₁ /\ (U :: eps)[cnt E r k]? = some Uk /\ Jx o.dst t nt v = some t₁ /\ OneD E ops Rr o t Uk v U₁ /\
   (Bz (Bl E o.op) = true -> (U :: eps)[cnt E r k + 1]? = some U₁) := by
 induction h with
 | nil => exact ⟨rfl,rfl,rfl,rfl,fun k o h => by simp at h⟩
 | @eff o r tm U v U₁ tm₁ log eps tm' U' he em cd oo ih =>
  obtain ⟨h1,h2,h3,h4,h5⟩ := ih
  refine ⟨by simp [h1],by simp [cnt,he,h2]; omega,rfl,by simpa using h4,fun k o' hk => ?_⟩
  cases k with
  | zero =>
   simp at hk; subst hk
   exact ⟨tm,v,tm₁,U,U₁,rfl,by simpa using h3,rfl,cd,em,fun _ => by simp [cnt]⟩
  | succ k =>
   obtain ⟨t,u,t₁,Uk,U₂,a1,a2,a3,a4,a5,a6⟩ := h5 k o' (by simpa using hk)
   refine ⟨t,u,t₁,Uk,U₂,by simpa using a1,by simpa using a2,?_,a4,a5,fun hh => ?_⟩
   ·simp only [cnt,he,if_true]; rw [fz_,be_]; exact a3
   ·simp only [cnt,he,if_true]; rw [show 1 + cnt E r k + 1 = (cnt E r k + 1) + 1 by omega,be_]; exact a6 hh
 | @calm o r tm U v U₁ tm₁ log eps tm' U' he em cd oo ih =>
  obtain ⟨h1,h2,h3,h4,h5⟩ := ih
  refine ⟨by simp [h1],by simp [cnt,he,h2],rfl,h4,fun k o' hk => ?_⟩
  cases k with
  | zero =>
   simp at hk; subst hk
   exact ⟨tm,v,tm₁,U,U₁,rfl,by simpa using h3,rfl,cd,em,fun hh => by rw [he] at hh; cases hh⟩
  | succ k =>
   obtain ⟨t,u,t₁,Uk,U₂,a1,a2,a3,a4,a5,a6⟩ := h5 k o' (by simpa using hk)
   refine ⟨t,u,t₁,Uk,U₂,by simpa using a1,by simpa using a2,?_,a4,a5,fun hh => ?_⟩
   ·simp only [cnt,he,bo_,if_false,bq_]; exact a3
   ·simp only [cnt,he,bo_,if_false,bq_]; exact a6 hh
end
section
variable (ops : Array Oper) (V : Nat -> AV) (tm₀ : Tr AV)
def D4 (L : Nat -> Bool) : Nat -> Nat -> Option AV
 | 0,t => tm₀.get t
 | i + 1,t => if L i = true /\ (ops[i]?).bind (·.dst) = some t then some (V i) else D4 L i t
variable {ops V tm₀}
theorem I5 {L L' : Nat -> Bool} {t : Nat} : ∀ {k : Nat},(∀ i,i < k -> (ops[i]?).bind (·.dst) = some t -> L i = L' i) -> D4 ops V tm₀ L k t = D4 ops V tm₀ L' k t
 | 0,_ => rfl
 | i + 1,h => by
  simp only [D4];rw [I5 fun j hj => h j Om]
  by_cases hd : (ops[i]?).bind (·.dst) = some t
  ·rw [h i Om hd]
  ·rw [if_neg (fun hh => hd hh.2),if_neg (fun hh => hd hh.2)]
theorem Jz {L : Nat -> Bool} {t k : Nat} : ∀ {m : Nat},k <= m -> (∀ i,k <= i -> i < m -> (ops[i]?).bind (·.dst) = some t -> L i = false) -> D4 ops V tm₀ L m t = D4 ops V tm₀ L k t
 | 0,hk,_ => by rw [show k = 0 by omega]
 | m + 1,hk,h => by
  by_cases he : k = m + 1
  ·rw [he]
  ·simp only [D4];rw [if_neg,Jz Om fun i h1 h2 => h i h1 Om]
   rintro ⟨h1,h2⟩;rw [h m Om Om h2] at h1; cases h1
theorem Ace {T : Nat -> Tr AV} {nt n : Nat} (h0 : T 0 = tm₀) (hT : ∀ k,k < n -> ∃ o,ops[k]? = some o /\ Jx o.dst (T k) nt (V k) = some (T (k + 1))) : ∀ k,k <= n -> ∀ t,(T k).get t = D4 ops V tm₀ (fun _ => true) k t
 | 0,_,t => by rw [h0]; rfl
 | k + 1,hk,t => by
  obtain ⟨o,ho,cd⟩ := hT k Om;have ih := Ace h0 hT k Om t;simp only [D4,ho,fn_,true_and];cases hd : o.dst with
  | none =>
   rw [hd] at cd;simp only [Jx,ad_] at cd
   rw [if_neg (by simp),← cd]; exact ih
  | some d =>
   rw [hd] at cd;simp only [Jx,Ei] at cd;cases hb : Nat.blt d nt
   ·simp [hb] at cd
   ·simp only [hb,cond_true,ad_] at cd;rw [← cd,de_]
    by_cases ht : t = d
    ·subst ht; rw [if_pos rfl,if_pos rfl]
    ·rw [if_neg ht,if_neg (by simpa using fun hh => ht hh.symm)]; exact ih
def Aeg (ops : Array Oper) (j t : Nat) : Prop := ∀ i,i ≠ j -> (ops[i]?).bind (·.dst) = some t ->
 (i < j -> ((Region.before ops).getD j 0).testBit i = true) /\ (j < i -> ((Region.before ops).getD i 0).testBit j = true)
def Aij (ops : Array Oper) (L : Nat -> Bool) : Prop := ∀ j,L j = true -> ∀ i,((Region.before ops).getD j 0).testBit i = true -> L i = true
theorem An3 {L : Nat -> Bool} {j t n : Nat} (hj : j <= n) (hc : Aij ops L) (hL : L j = false) (hr : ∀ i,((Region.before ops).getD j 0).testBit i = true -> L i = true) (ho : Aeg ops j t) :
  D4 ops V tm₀ L n t = D4 ops V tm₀ (fun _ => true) j t := by
 rw [Jz (k := j) hj fun i h1 h2 hd => ?_]
 ·refine I5 fun i hi hd => ?_
  exact hr i ((ho i Om hd).1 hi)
 ·by_cases hij : i = j
  ·rw [hij]; exact hL
  ·rw [bw_];intro hi;have := hc i hi j ((ho i hij hd).2 Om);rw [hL] at this; cases this
theorem Amc {L : Nat -> Bool} {j t n : Nat} (hj : j < n) (hc : Aij ops L) (hL : L j = false) (ho : Aeg ops j t) (hd : (ops[j]?).bind (·.dst) = some t) :
  D4 ops V tm₀ (fun i => L i || i == j) n t = some (V j) := by
 rw [Jz (k := j + 1) Om fun i h1 h2 hdi => ?_]
 ·simp only [D4,beq_self_eq_true,g_,true_and]; rw [if_pos hd]
 ·rw [bw_];intro hi;rw [ce_] at hi
  rcases hi with hi | hi
  ·have := hc i hi j ((ho i Om hdi).2 Om);rw [hL] at this; cases this
  ·have : i = j := by simpa using hi
   omega
theorem Aik {L : Nat -> Bool} {j t n : Nat} (hd : (ops[j]?).bind (·.dst) ≠ some t) :
  D4 ops V tm₀ (fun i => L i || i == j) n t = D4 ops V tm₀ L n t := by
 refine I5 fun i _ hdi => ?_
 have : (i == j) = false := by
  rw [beq_eq_false_iff_ne]; intro hh; subst hh; exact hd hdi
 rw [this,ek_]
end
theorem Kj (A : Array Nat) (i : Nat) : A.toList.getD i 0 = A.getD i 0 := by
 rw [List.getD_eq_getElem?_getD,bd_,bb_]
theorem Zf {ops : Array Oper} (h : Pi ops (Region.before ops).toList = true) {j : Nat} {o : Oper} (ho : ops[j]? = some o) {t : Nat} (ht : t ∈ o.looksAt ops ∨ o.dst = some t) : Aeg ops j t := by
 have key : ∀ i j x y,i < j -> ops[i]? = some x -> ops[j]? = some y -> ((Region.before ops).getD j 0).testBit i = true ∨ Oper.apart ops x y = true := by
  intro i j x y hij hx hy;unfold Pi at h;rw [da_] at h;have hlt := (ba_.1 hy).1;have h1 := h j (gz_.2 hlt);rw [da_] at h1;have h2 := h1 i (gz_.2 hij);rw [ce_,Kj] at h2
  rcases h2 with h2 | h2
  ·exact .inl h2
  ·simp only [hx,hy] at h2; exact .inr h2
 intro i hne hd;cases hx : ops[i]? with
 | none => rw [hx] at hd; cases hd
 | some x =>
  rw [hx] at hd;simp only [fn_] at hd;refine ⟨fun hij => ?_,fun hji => ?_⟩
  ·rcases key i j x o hij hx ho with h1 | h1
   ·exact h1
   ·obtain ⟨a1,a2,_⟩ := Oper.apart_spec h1
    rcases ht with ht | ht
    ·exact absurd ht (a1 t hd)
    ·exact absurd ht (a2 t hd)
  ·rcases key j i o x hji ho hx with h1 | h1
   ·exact h1
   ·obtain ⟨_,a2,a3⟩ := Oper.apart_spec h1
    rcases ht with ht | ht
    ·exact absurd ht (a3 t hd)
    ·exact absurd hd (a2 t ht)
section
variable {E : Env}
theorem Oi : ∀ (l : List Oper) (i₀ : Nat),(∀ (k : Nat) (o : Oper),l[k]? = some o -> Bz (Bl E o.op) = true -> (Eh E l i₀)[cnt E l k]? = some (i₀ + k)) /\
  (∀ (m e : Nat),(Eh E l i₀)[m]? = some e -> ∃ (k : Nat) (o : Oper),e = i₀ + k /\ l[k]? = some o /\ Bz (Bl E o.op) = true /\ cnt E l k = m)
 | [],i₀ => ⟨fun k o h => by simp at h,fun m e h => by simp [Eh] at h⟩
 | o :: r,i₀ => by
  obtain ⟨h1,h2⟩ := Oi r (i₀ + 1);cases hb : Bz (Bl E o.op)
  ·simp only [Eh,hb];refine ⟨fun k o' hk he => ?_,fun m e hm => ?_⟩
   ·cases k with
    | zero => simp at hk; subst hk; rw [hb] at he; cases he
    | succ k =>
     simp only [cnt,hb,bo_,if_false,bq_]
     rw [h1 k o' (by simpa using hk) he]; congr 1; omega
   ·obtain ⟨k,o',e1,e2,e3,e4⟩ := h2 m e hm
    exact ⟨k + 1,o',by omega,by simpa using e2,e3,by simp only [cnt,hb,bo_,if_false,bq_]; exact e4⟩
  ·simp only [Eh,hb];refine ⟨fun k o' hk he => ?_,fun m e hm => ?_⟩
   ·cases k with
    | zero => simp [cnt]
    | succ k =>
     simp only [cnt,hb,if_true]
     rw [fz_ 1,be_,h1 k o' (by simpa using hk) he]; congr 1; omega
   ·cases m with
    | zero => simp at hm; exact ⟨0,o,by omega,rfl,hb,rfl⟩
    | succ m =>
     obtain ⟨k,o',e1,e2,e3,e4⟩ := h2 m e (by simpa using hm)
     exact ⟨k + 1,o',by omega,by simpa using e2,e3,by simp only [cnt,hb,if_true]; omega⟩
theorem S5 {b : List Nat} : ∀ {l : List Nat},Mp b l = true -> ∀ (k i j : Nat),l[k]? = some i -> l[k + 1]? = some j -> (b.getD j 0).testBit i = true
 | [],_,k,i,j,h,_ => by simp at h
 | [x],_,k,i,j,_,h => by simp at h
 | x :: y :: l,hc,k,i,j,hi,hj => by
  simp only [Mp,af_] at hc;cases k with
  | zero => simp at hi hj; subst hi hj; exact hc.1
  | succ k => exact S5 (l := y :: l) hc.2 k i j (by simpa using hi) (by simpa using hj)
theorem Ve {p : Nat -> Bool} : ∀ {l : List Nat} {k e : Nat},k < Bv p l -> l[k]? = some e -> p e = true
 | [],k,e,h,_ => by simp [Bv] at h
 | x :: l,k,e,h,he => by
  simp only [Bv] at h
  split at h
  ·rename_i hp
   cases k with
   | zero => simp at he; subst he; exact hp
   | succ k => exact Ve (l := l) (k := k) Om (by simpa using he)
  ·omega
theorem Vf {p : Nat -> Bool} : ∀ {l : List Nat} {m : Nat},m <= l.length -> (∀ k e,k < m -> l[k]? = some e -> p e = true) -> m <= Bv p l
 | l,0,_,_ => bh_ _
 | [],m + 1,h,_ => by simp at h
 | x :: l,m + 1,h,hp => by
  simp only [Bv];rw [hp 0 x Om rfl]
  have := Vf (l := l) (m := m) (by simpa using h) fun k e hk he => hp (k + 1) e Om (by simpa using he)
  simp only; omega
theorem S6 {p : Nat -> Bool} : ∀ (l : List Nat),Bv p l <= l.length
 | [] => by simp [Bv]
 | x :: l => by
  simp only [Bv]
  split
  ·have := S6 (p := p) l; simp; omega
  ·omega
theorem H5 {b effs : List Nat} : ∀ (l : List Oper) (i k : Nat) (o : Oper),l[k]? = some o -> (Jb E b effs l i)[k]? = some ⟨Bl E o.op,Bv (fun e => (b.getD (i + k) 0).testBit e) effs,Bv (fun e => !(b.getD e 0).testBit (i + k)) effs⟩
 | [],i,k,o,h => by simp at h
 | x :: l,i,k,o,h => by
  cases k with
  | zero =>
   simp at h; subst h
   simp only [Jb,Ai];cases hc : Bl E x.op <;> rfl
  | succ k =>
   have ih := H5 (b := b) (effs := effs) l (i + 1) k o (by simpa using h)
   simp only [Jb,Ai]
   cases hc : Bl E x.op <;> (simp only [be_]; rw [ih]; simp only [show i + 1 + k = i + (k + 1) by omega])
def Aeh (E : Env) (ops : List Oper) (o : Oper) (tm : Tr AV) (v : AV) (l : List Sto) : Prop := Co ops o tm = some true -> ∀ U ∈ l,∃ U',Az E o.op tm U = some (v,U')
theorem Afx {E : Env} {ops : List Oper} {o : Oper} {tm : Tr AV} {v : AV} {l : List Sto} (h : steady E ops o tm v l = true) : Aeh E ops o tm v l := by
 intro hg U hU;unfold steady at h;rw [hg] at h;simp only at h;have := da_.1 h U hU
 split at this
 ·rename_i u U' hu
  rw [AV.beq_eq _ _ this] at hu;exact ⟨U',hu⟩
 ·cases this
theorem Qn {ops : List Oper} {eps : List Sto} : ∀ {az : List Ann} {os : List Oper} {log : List (Tr AV × AV)},Ga E ops eps az os log = true -> ∀ (k : Nat) (a : Ann) (o : Oper) (t : Tr AV) (v : AV),az[k]? = some a -> os[k]? = some o -> log[k]? = some (t,v) -> a.cls = .read ->
  steady E ops o t v ((eps.drop a.lo).take (a.hi + 1 - a.lo)) = true
 | [],[],[],_,k,a,o,t,v,h,_,_,_ => by simp at h
 | x :: az,y :: os,(t',v') :: log,hs,k,a,o,t,v,ha,ho,hl,hc => by
  simp only [Ga,af_] at hs;cases k with
  | zero =>
   simp at ha ho hl
   obtain ⟨rfl,rfl⟩ := hl;subst ha ho;have := hs.1;rw [hc] at this; exact this
  | succ k => exact Qn hs.2 k a o t v (by simpa using ha) (by simpa using ho) (by simpa using hl) hc
 | [],_ :: _,_,hs,_,_,_,_,_,_,_,_,_ => by simp [Ga] at hs
 | [],[],_ :: _,hs,_,_,_,_,_,_,_,_,_ => by simp [Ga] at hs
 | _ :: _,[],_,hs,_,_,_,_,_,_,_,_,_ => by simp [Ga] at hs
 | _ :: _,_ :: _,[],hs,_,_,_,_,_,_,_,_,_ => by simp [Ga] at hs
end
theorem Amd {ops : Array Oper} (he : Pj ops = true) {listed : Array Bool} (hs : listed.size = ops.size) (h : Region.ready .any ops listed = []) : ∀ i,i < ops.size -> listed.getD i false = true := by
  intro i
  induction i using Nat.strongRecOn with
  | _ i ih =>
    intro hi;cases hl : listed.getD i false with
    | true => rfl
    | false =>
      exfalso
      have hm : i ∈ Region.ready .any ops listed := by
        rw [mem_ready]
        have ho : ops[i]? = some ops[i] := by simp [hi]
        refine ⟨?_,ops[i],ho,fun e hem hb => ?_⟩
        · have : i < listed.size := by omega
          rw [bd_,cn_ this] at hl ⊢;exact hl
        · unfold Pj at he
          rw [da_] at he;have h1 := he i (gz_.2 hi);simp only [ho] at h1;rw [Array.all_eq_true_iff_forall_mem] at h1;have h2 := h1 e hem;rw [ce_] at h2
          rcases h2 with h2 | h2
          · rw [hb] at h2; cases h2
          · exact ih e.on (by simpa using h2) (by have : e.on < i := by simpa using h2
                                                  omega)
      rw [h] at hm; cases hm
theorem An4 {listed : Array Bool} {j n : Nat} (hs : listed.size = n) (hj : j < n) (i : Nat) : (listed.setIfInBounds j true).getD i false = (listed.getD i false || i == j) := by
 by_cases hij : i = j
 ·subst hij; simp [hs,hj]
 ·rw [getD_set_ne false (fi_ hij)]
  have : (i == j) = false := by simpa using hij
  rw [this,ek_]
section
variable {E : Env} {tm tm' : Tr AV} {ops : Array Oper}
theorem Aei {o : Oper} (h : ∀ t ∈ o.looksAt ops,tm.get t = tm'.get t) : Co ops.toList o tm = Co ops.toList o tm' := by
 unfold Co;cases hg : o.guard with
 | none => rfl
 | some gw =>
  obtain ⟨j,want⟩ := gw;simp only;cases hj : ops.toList[j]? with
  | none => rfl
  | some oj =>
   simp only;cases hd : oj.dst with
   | none => rfl
   | some d =>
    simp only
    have hj' : ops[j]? = some oj := by simpa using hj
    rw [h d (by simp [Oper.looksAt,hg,hj',hd])]
theorem Ame {o : Oper} (h : ∀ t ∈ o.looksAt ops,tm.get t = tm'.get t) : ∀ x ∈ o.op.operands,opd E tm x = opd E tm' x := by
 intro x hx;cases x with
 | tmp t =>
  have : t ∈ o.looksAt ops := cd_ _ (List.mem_filterMap.2 ⟨.tmp t,by simpa using hx,rfl⟩)
  simp only [opd,h t this]
 | _ => rfl
def only (tm : Tr AV) : List Nat -> Tr AV
 | [] => .e
 | t :: l => match tm.get t with
  | some v => (only tm l).put (t + 1) t (some v)
  | none => only tm l
theorem S7 {tm : Tr AV} : ∀ {l : List Nat} {t : Nat} {v : AV},(only tm l).get t = some v -> t ∈ l /\ tm.get t = some v
 | [],t,v,h => by simp [only,Tr.get] at h
 | u :: l,t,v,h => by
  simp only [only] at h
  split at h
  ·rename_i x hx
   rw [de_] at h
   by_cases ht : t = u
   ·subst ht; rw [if_pos rfl] at h; cases h; exact ⟨by simp,hx⟩
   ·rw [if_neg ht] at h; obtain ⟨h1,h2⟩ := S7 h; exact ⟨by simp [h1],h2⟩
  ·obtain ⟨h1,h2⟩ := S7 h; exact ⟨by simp [h1],h2⟩
theorem Xr {tm : Tr AV} : ∀ {l : List Nat} {t : Nat},t ∈ l -> (only tm l).get t = tm.get t
 | [],t,h => by simp at h
 | u :: l,t,h => by
  simp only [only]
  by_cases ht : t = u
  ·subst ht
   split
   ·rename_i x hx; rw [de_,if_pos rfl,hx]
   ·rename_i hx
    cases hg : (only tm l).get t with
    | none => exact hx.symm
    | some v => have := (S7 hg).2; rw [hx] at this; cases this
  ·have hl : t ∈ l := by simpa [ht] using h
   split
   ·rw [de_,if_neg ht]; exact Xr hl
   ·exact Xr hl
end
structure Afy (E : Env) (ops : Array Oper) (Rr : Rec) (nt : Nat) (tm₀ : Tr AV) (es : List Nat) (T : Nat -> Tr AV) (V : Nat -> AV) (S : List Sto) : Prop where
 slots : Pi ops (Region.before ops).toList = true
 hes : es = Eh E ops.toList 0
 len : S.length = es.length + 1
 chain : Mp (Region.before ops).toList es = true
 here : ∀ (j : Nat) (o : Oper),ops[j]? = some o -> ∃ Uk U₁,S[cnt E ops.toList j]? = some Uk /\ Jx o.dst (T j) nt (V j) = some (T (j + 1)) /\ OneD E ops.toList Rr o (T j) Uk (V j) U₁ /\ (Bz (Bl E o.op) = true -> S[cnt E ops.toList j + 1]? = some U₁)
 get : ∀ j,j <= ops.size -> ∀ t,(T j).get t = D4 ops V tm₀ (fun _ => true) j t
 steady : ∀ (j : Nat) (o : Oper),ops[j]? = some o -> Bl E o.op = .read -> Aeh E ops.toList o (T j) (V j)
  ((S.drop (Bv (fun e => ((Region.before ops).getD j 0).testBit e) es)).take (Bv (fun e => !((Region.before ops).getD e 0).testBit j) es + 1 - Bv (fun e => ((Region.before ops).getD j 0).testBit e) es))
structure Inv (E : Env) (ops : Array Oper) (nt : Nat) (df : List (Nat × List AV)) (tm₀ : Tr AV) (es : List Nat) (V : Nat -> AV) (S : List Sto) (C₀ : Ctx) (N₀ : Nat) (w₀ : World)
  (L : Nat -> Bool) (m : Nat) (U : Sto) (C : Ctx) (w : World) (a : Act) : Prop where
 closed : Aij ops L
 effs : ∀ k e,es[k]? = some e -> (L e = true ↔ k < m)
 sto : S[m]? = some U
 sim : Sim E.P C w U
 glob : Gc C (nx U) w E
 slots : ∀ t x,D4 ops V tm₀ L ops.size t = some x -> R C (nx U) w x (a.tmps.getD t undef)
 size : a.tmps.size = nt
 dfs : DR C (nx U) w df a.defers
 ext : Ext C₀ N₀ w₀ C (nx U) w
section
variable {E : Env} {ops : Array Oper} {Rr : Rec} {nt : Nat} {df : List (Nat × List AV)} {tm₀ : Tr AV} {es : List Nat} {T : Nat -> Tr AV} {V : Nat -> AV} {S : List Sto} {C₀ C : Ctx} {N₀ : Nat} {w₀ w : World} {L : Nat -> Bool} {m : Nat} {U : Sto} {a : Act}
theorem Inv.next (lx : Afy E ops Rr nt tm₀ es T V S) (iv : Inv E ops nt df tm₀ es V S C₀ N₀ w₀ L m U C w a) {j : Nat} {o : Oper} (ho : ops[j]? = some o) (hL : L j = false) (hr : ∀ i,((Region.before ops).getD j 0).testBit i = true -> L i = true)
  {m' : Nat} {U' : Sto} {C' : Ctx} {w' : World} {x : Value} (o5 : S[m']? = some U') (ko : ∀ k e,es[k]? = some e -> ((L e || e == j) = true ↔ k < m')) (hs : Sim E.P C' w' U') (he : Ext C (nx U) w C' (nx U') w') (hx : R C' (nx U') w' (V j) x) :
  Inv E ops nt df tm₀ es V S C₀ N₀ w₀ (fun i => L i || i == j) m' U' C' w' (a.put o.dst x) := by
 have hj := (ba_.1 ho).1;obtain ⟨_,_,_,cd,_,_⟩ := lx.here j o ho
 have hdn : ∀ d,o.dst = some d -> d < nt := fun d hd => by
  rw [hd] at cd;simp only [Jx] at cd;cases hb : Nat.blt d nt
  ·simp [hb] at cd
  ·exact aj_ hb
 refine ⟨fun i hi k hk => ?_,ko,o5,hs,iv.glob.ext he,fun t y hy => ?_,?_,?_,iv.ext.trans he⟩
 ·rw [ce_] at hi ⊢
  rcases hi with hi | hi
  ·exact .inl (iv.closed i hi k hk)
  ·have : i = j := by simpa using hi
   subst this; exact .inl (hr k hk)
 ·by_cases hd : (ops[j]?).bind (·.dst) = some t
  ·have hd' : o.dst = some t := by rw [ho] at hd; exact hd
   rw [Amc hj iv.closed hL (Zf lx.slots ho (.inr hd')) hd] at hy;cases hy;have := hdn t hd';rw [hd']
   have : t < a.tmps.size := by rw [iv.size]; exact this
   simp [Act.put,this]; exact hx
  ·rw [Aik hd] at hy;have h1 := R.ext he _ _ (iv.slots t y hy);cases hod : o.dst with
   | none => exact h1
   | some d =>
    have hne : d ≠ t := fun hh => hd (by rw [ho]; simp [hod,hh])
    simpa [Act.put,cv_ hne] using h1
 ·cases hod : o.dst <;> simp [Act.put,iv.size]
 ·have : (a.put o.dst x).defers = a.defers := by cases o.dst <;> rfl
  rw [this]; exact iv.dfs.ext he
end
section
variable {E : Env} {ops : Array Oper} {Rr : Rec} {nt : Nat} {df : List (Nat × List AV)} {tm₀ : Tr AV} {es : List Nat} {T : Nat -> Tr AV} {V : Nat -> AV} {S : List Sto} {C₀ C : Ctx} {N₀ : Nat} {w₀ w : World} {L : Nat -> Bool} {m : Nat} {U : Sto} {a : Act}
theorem K0 {op : Op} (h : Bz (Bl E op) = false) : ∀ tm U,opA E op Rr tm U = Az E op tm U := by
 intro tm U;cases op
 case call c =>
  cases hc : c.callee with
  | value f => simp [Bl,hc,Bz] at h
  | builtin b => simp only [opA,hc]
  | invoke r n => simp [Bl,hc,Bz] at h
 all_goals rfl
theorem Inv.step (hR : Be E Rr) (lx : Afy E ops Rr nt tm₀ es T V S) (iv : Inv E ops nt df tm₀ es V S C₀ N₀ w₀ L m U C w a) {j : Nat} {o : Oper} (ho : ops[j]? = some o) (hL : L j = false) (hr : ∀ i,((Region.before ops).getD j 0).testBit i = true -> L i = true)
  {K : Act -> World -> Prop} {Q : Exit -> Act -> World -> Prop} (hK : ∀ m' U' C' w' a',Inv E ops nt df tm₀ es V S C₀ N₀ w₀ (fun i => L i || i == j) m' U' C' w' a' -> K a' w') : wpOp E.P ops Q j K a w := by
 have hj := (ba_.1 ho).1
 have hol : ops.toList[j]? = some o := by simpa using ho
 obtain ⟨Uk,U₁,h1,cd,em,h3⟩ := lx.here j o ho
 have i7 : ∀ t ∈ o.looksAt ops,D4 ops V tm₀ L ops.size t = (T j).get t := fun t ht => by
  rw [lx.get j Om];exact An3 Om iv.closed hL hr (Zf lx.slots ho (.inl ht))
 have st : SSt E C w ⟨only (T j) (o.looksAt ops),nt,df,U⟩ a := ⟨iv.sim,iv.glob,fun t y hy => by
  obtain ⟨k1,k2⟩ := S7 hy
  exact iv.slots t y (by rw [i7 t k1]; exact k2),iv.size,iv.dfs⟩
 have hgc : Co ops.toList o (only (T j) (o.looksAt ops)) = Co ops.toList o (T j) := Aei fun t ht => Xr ht
 have hoc : ∀ τ,opA E o.op Rr (only (T j) (o.looksAt ops)) τ = opA E o.op Rr (T j) τ := fun τ => Al5 (Ame fun t ht => Xr ht)
 obtain ⟨e1,e2⟩ := Oi (E := E) ops.toList 0;rw [← lx.hes] at e1 e2
 -- where the store stands
 have mc : Bz (Bl E o.op) = true -> U = Uk /\ ∀ k e,es[k]? = some e -> ((L e || e == j) = true ↔ k < cnt E ops.toList j + 1) := by
  intro he;have hc := e1 j o hol he;rw [bq_] at hc
  have hle : m <= cnt E ops.toList j := by
   have := iv.effs _ _ hc;rw [hL] at this
   have h0 : ¬ (cnt E ops.toList j < m) := fun hh => by have := this.2 hh; cases this
   omega
  have hge : cnt E ops.toList j <= m := by
   rcases cy_ (cnt E ops.toList j) with h0 | h0
   ·omega
   ·have hlt := (aa_.1 hc).1;have hp : es[cnt E ops.toList j - 1]? = some es[cnt E ops.toList j - 1] := an_ Om
    have hb := S5 lx.chain _ _ _ hp (by rw [show cnt E ops.toList j - 1 + 1 = cnt E ops.toList j by omega]; exact hc)
    rw [Kj] at hb;have := (iv.effs _ _ hp).1 (hr _ hb);omega
  have hm : m = cnt E ops.toList j := by omega
  refine ⟨by have := iv.sto; rw [hm,h1] at this; cases this; rfl,fun k e hk => ?_⟩
  obtain ⟨k',o',q1,q2,q3,q4⟩ := e2 k e hk;rw [ce_,iv.effs k e hk,beq_iff_eq]
  constructor
  ·rintro (h | h)
   ·omega
   ·have : k' = j := by omega
    subst this; omega
  ·intro h
   by_cases hkc : k = cnt E ops.toList j
   ·subst hkc; rw [hc] at hk; cases hk; exact .inr rfl
   ·exact .inl Om
 have il : Bz (Bl E o.op) = false -> ∀ k e,es[k]? = some e -> ((L e || e == j) = true ↔ k < m) := by
  intro he k e hk;obtain ⟨k',o',q1,q2,q3,q4⟩ := e2 k e hk
  have hne : (e == j) = false := by
   rw [beq_eq_false_iff_ne]; intro hh
   have : k' = j := by omega
   subst this; rw [hol] at q2; cases q2; rw [q3] at he; cases he
  rw [hne,ek_]; exact iv.effs k e hk
 unfold wpOp;simp only [ho]
 rcases em with ⟨hg,hv⟩ | ⟨hg,hv,hU⟩
 ·rw [← hgc] at hg;have hw := Ge (b := true) st.tmps hg;rw [if_pos hw];refine .inl ?_;cases he : Bz (Bl E o.op) with
  | true =>
   obtain ⟨rfl,q2⟩ := mc he
   exact T7 hR st (by rw [hoc]; exact hv) fun C' w' x k1 k2 k3 => hK _ _ _ _ _ (iv.next lx ho hL hr (h3 he) q2 k1 k2 k3)
  | false =>
   have md : Az E o.op (T j) U = some (V j,U) := by
    rw [K0 he] at hv;cases hc : Bl E o.op with
    | eff => rw [hc] at he; cases he
    | pure => exact (Al8 hc _ _ _ hv).2 U
    | read =>
     rw [hgc] at hg;have hst := lx.steady j o ho hc hg
     have mf : m <= es.length := by have := (aa_.1 iv.sto).1; rw [lx.len] at this; omega
     have hlo : Bv (fun e => ((Region.before ops).getD j 0).testBit e) es <= m := by
      rcases Nat.lt_or_ge m (Bv (fun e => ((Region.before ops).getD j 0).testBit e) es) with h | h
      ·exfalso
       have hlt : m < es.length := al_ h (S6 es);have hp : es[m]? = some es[m] := an_ hlt;have := (iv.effs _ _ hp).1 (hr _ (Ve h hp));omega
      ·exact h
     have hhi : m <= Bv (fun e => !((Region.before ops).getD e 0).testBit j) es := by
      refine Vf mf fun k e hk hek => ?_
      have hle := (iv.effs k e hek).2 hk;cases hb : ((Region.before ops).getD e 0).testBit j with
      | false => rfl
      | true => have := iv.closed e hle j hb; rw [hL] at this; cases this
     have i9 : U ∈ (S.drop (Bv (fun e => ((Region.before ops).getD j 0).testBit e) es)).take (Bv (fun e => !((Region.before ops).getD e 0).testBit j) es + 1 - Bv (fun e => ((Region.before ops).getD j 0).testBit e) es) := by
      refine ae_ (i := m - Bv (fun e => ((Region.before ops).getD j 0).testBit e) es) ?_
      rw [f_,if_pos Om,fa_,show Bv (fun e => ((Region.before ops).getD j 0).testBit e) es + (m - Bv (fun e => ((Region.before ops).getD j 0).testBit e) es) = m by omega]
      exact iv.sto
     obtain ⟨U₂,hs2⟩ := hst U i9;have := Aid hc hs2;subst this; exact hs2
   exact T7 (s := ⟨only (T j) (o.looksAt ops),nt,df,U⟩) hR st (by rw [hoc,K0 he]; exact md) fun C' w' x k1 k2 k3 => hK _ _ _ _ _ (iv.next lx ho hL hr iv.sto (il he) k1 k2 k3)
 ·rw [← hgc] at hg;have hw := Ge (b := false) st.tmps hg
  rw [if_neg (by rw [hw]; simp)]
  have hx : R C (nx U) w (V j) undef := by rw [hv]; exact Sv
  cases he : Bz (Bl E o.op) with
  | true =>
   obtain ⟨rfl,q2⟩ := mc he
   exact hK _ _ _ _ _ (iv.next lx ho hL hr (by rw [h3 he,hU]) q2 iv.sim (by_ _ _ _) hx)
  | false => exact hK _ _ _ _ _ (iv.next lx ho hL hr iv.sto (il he) iv.sim (by_ _ _ _) hx)
end
def Q6 (L : Nat -> Bool) : Nat -> Nat
 | 0 => 0
 | i + 1 => (if L i = true then 0 else 1) + Q6 L i
theorem Acf {L L' : Nat -> Bool} : ∀ {n : Nat},(∀ i,i < n -> L i = L' i) -> Q6 L n = Q6 L' n
 | 0,_ => rfl
 | n + 1,h => by
  simp only [Q6];rw [h n Om,Acf (L := L) (L' := L') (n := n) fun i hi => h i Om]
theorem Afz {L : Nat -> Bool} {j : Nat} (hL : L j = false) : ∀ {n : Nat},j < n -> Q6 (fun i => L i || i == j) n + 1 = Q6 L n
 | 0,h => by omega
 | n + 1,h => by
  by_cases hj : j = n
  ·subst hj
   have : Q6 (fun i => L i || i == j) j = Q6 L j := Acf fun i hi => by
    have : (i == j) = false := by rw [beq_eq_false_iff_ne]; omega
    rw [this,ek_]
   simp [Q6,hL,this]; omega
  ·have ih := Afz (n := n) hL Om
   have : (n == j) = false := by rw [beq_eq_false_iff_ne]; omega
   simp only [Q6,this,ek_]; omega
theorem Acg {L : Nat -> Bool} : ∀ {n : Nat},Q6 L n = 0 -> ∀ i,i < n -> L i = true
 | 0,_,i,hi => by omega
 | n + 1,h,i,hi => by
  simp only [Q6] at h
  by_cases hn : L n = true
  ·rw [if_pos hn] at h
   by_cases he : i = n
   ·subst he; exact hn
   ·exact Acg (n := n) Om i Om
  ·rw [if_neg hn] at h; omega
section
variable {E : Env} {ops : Array Oper} {Rr : Rec} {nt : Nat} {df : List (Nat × List AV)} {tm₀ : Tr AV} {es : List Nat} {T : Nat -> Tr AV} {V : Nat -> AV} {S : List Sto} {C₀ : Ctx} {N₀ : Nat} {w₀ : World}
theorem Inv.last (lx : Afy E ops Rr nt tm₀ es T V S) {L : Nat -> Bool} {m : Nat} {U : Sto} {C : Ctx} {w : World} {a : Act} (iv : Inv E ops nt df tm₀ es V S C₀ N₀ w₀ L m U C w a) (bi : ∀ i,i < ops.size -> L i = true) :
  S[es.length]? = some U /\ SSt E C w ⟨T ops.size,nt,df,U⟩ a := by
 have hm : m = es.length := by
  have h1 := (aa_.1 iv.sto).1;rw [lx.len] at h1
  rcases Nat.lt_or_ge m es.length with h | h
  ·exfalso
   have hp : es[m]? = some es[m] := an_ h;obtain ⟨_,e2⟩ := Oi (E := E) ops.toList 0;rw [← lx.hes] at e2;obtain ⟨k,o,q1,q2,_⟩ := e2 m _ hp;have hk := (aa_.1 q2).1
   have := (iv.effs m _ hp).1 (bi _ (by rw [q1,bq_]; simpa using hk))
   omega
  ·omega
 refine ⟨hm ▸ iv.sto,iv.sim,iv.glob,fun t y hy => iv.slots t y ?_,iv.size,iv.dfs⟩
 rw [← hy,lx.get ops.size nl];exact I5 fun i hi _ => bi i hi
theorem Ach (hR : Be E Rr) (lx : Afy E ops Rr nt tm₀ es T V S) (hed : Pj ops = true) {Q : Exit -> Act -> World -> Prop}
  (hQ : ∀ (L : Nat -> Bool) m U C w a,Inv E ops nt df tm₀ es V S C₀ N₀ w₀ L m U C w a -> (∀ i,i < ops.size -> L i = true) -> Q .normal a w) :
  ∀ (fuel : Nat) (listed : Array Bool) (m : Nat) (U : Sto) (C : Ctx) (w : World) (a : Act),listed.size = ops.size -> Q6 (fun i => listed.getD i false) ops.size = fuel ->
   Inv E ops nt df tm₀ es V S C₀ N₀ w₀ (fun i => listed.getD i false) m U C w a -> wpAny E.P .any ops Q fuel listed a w
 | 0,listed,m,U,C,w,a,hs,ht,iv => by
  have bi := Acg ht;refine ⟨?_,hQ _ m U C w a iv bi⟩;rw [List.eq_nil_iff_forall_not_mem];intro j hj;obtain ⟨h1,o,ho,_⟩ := mem_ready.1 hj;have hlt := (ba_.1 ho).1;have h2 := bi j hlt;simp only [bd_] at h1 h2
  rw [cn_ (by omega : j < listed.size)] at h1 h2
  simp only [gn_] at h1 h2;rw [h1] at h2; cases h2
 | fuel + 1,listed,m,U,C,w,a,hs,ht,iv => by
  refine ⟨fun h0 => hQ _ m U C w a iv (Amd hed hs h0),fun j hj => ?_⟩
  obtain ⟨h1,o,ho,bi⟩ := mem_ready.1 hj;have hlt := (ba_.1 ho).1
  have hL : listed.getD j false = false := by
   simp only [bd_] at h1 ⊢
   rw [cn_ (by omega : j < listed.size)] at h1 ⊢
   exact h1
  have hr : ∀ i,((Region.before ops).getD j 0).testBit i = true -> listed.getD i false = true := fun i hi => by
   obtain ⟨e,he,hb,h⟩ := Afw ho hi;have hon := bi e he hb
   rcases h with rfl | h
   ·exact hon
   ·exact iv.closed _ hon i h
  refine iv.step hR lx ho hL hr fun m' U' C' w' a' iv' => ?_
  have mg : (fun i => (listed.setIfInBounds j true).getD i false) = fun i => listed.getD i false || i == j := funext fun i => An4 hs hlt i
  refine Ach hR lx hed hQ fuel _ m' U' C' w' a' (by simp [hs]) ?_ (by rw [mg]; exact iv')
  rw [mg];have := Afz (L := fun i => listed.getD i false) hL hlt
  omega
end
theorem Aci {L : Nat -> Bool} : ∀ {n : Nat},(∀ i,L i = false) -> Q6 L n = n
 | 0,_ => rfl
 | n + 1,h => by simp only [Q6]; rw [if_neg (by rw [h n]; simp),Aci (n := n) h]; omega
theorem S8 {E : Env} : ∀ (l : List Oper) (i : Nat),cnt E l l.length = (Eh E l i).length
 | [],i => rfl
 | o :: r,i => by
  simp only [at_,cnt,Eh];cases hb : Bz (Bl E o.op)
  ·simp [S8 r (i + 1)]
  ·simp [S8 r (i + 1)]; omega
theorem Acj {E : Env} (hm : E.P.follows .mixedOrders = true) {Rr : Rec} (hR : Be E Rr) {ops : Array Oper} {s : St} {d : DS} {C : Ctx} {w : World} {a : Act} {id : Nat} (st : SSt E C w s a)
  (c1 : Pi ops (Region.before ops).toList = true) (c2 : Pj ops = true) (c3 : Mp (Region.before ops).toList (Eh E ops.toList 0) = true) (hd : Sg E ops.toList Rr ops.toList ⟨s,[s.sto],[]⟩ = some d)
  (hb : ∀ (j : Nat) (o : Oper) (t : Tr AV) (v : AV),ops[j]? = some o -> d.log.reverse[j]? = some (t,v) -> Bl E o.op = .read -> Aeh E ops.toList o t v
   ((d.eps.reverse.drop (Bv (fun e => ((Region.before ops).getD j 0).testBit e) (Eh E ops.toList 0))).take (Bv (fun e => !((Region.before ops).getD e 0).testBit j) (Eh E ops.toList 0) + 1 - Bv (fun e => ((Region.before ops).getD j 0).testBit e) (Eh E ops.toList 0)))) :
  (Code.region id ops true).wp E.P (Qk E C (nx s.sto) w [(.normal,d.s)]) a w := by
 obtain ⟨log,eps,lex,k2,k3,k4,k5⟩ := Mc hd;simp only [eo_,bg_,dn_] at k2 k3;obtain ⟨x1,x2,x3,x4,x5⟩ := Ze lex
 have bv : ops.toList.length = ops.size := by simp
 have hT : ∀ k,k < ops.size -> ∃ o,ops[k]? = some o /\ Jx o.dst (((log.map (·.1) ++ [d.s.tm])[k]?).getD .e) s.nt (((log[k]?).map (·.2)).getD .any) = some (((log.map (·.1) ++ [d.s.tm])[k + 1]?).getD .e) := by
  intro k hk
  have ho : ops.toList[k]? = some ops[k] := by simp [hk]
  obtain ⟨t,v,t₁,Uk,U₁,y1,y2,y3,y4,y5,y6⟩ := x5 k _ ho;have hlt := (aa_.1 y1).1
  refine ⟨ops[k],by simp [hk],?_⟩
  rw [bk_ (by simpa using hlt),bp_,y1,y2]
  exact y4
 have lx : Afy E ops Rr s.nt s.tm (Eh E ops.toList 0) (fun k => ((log.map (·.1) ++ [d.s.tm])[k]?).getD .e) (fun k => ((log[k]?).map (·.2)).getD .any) (s.sto :: eps) := by
  refine ⟨c1,rfl,by simp only [at_,x2,S8 ops.toList 0],c3,fun j o ho => ?_,fun j hj t => ?_,fun j o ho hc => ?_⟩
  ·obtain ⟨t,v,t₁,Uk,U₁,y1,y2,y3,y4,y5,y6⟩ := x5 j o (by simpa using ho)
   have hlt := (aa_.1 y1).1;refine ⟨Uk,U₁,y3,?_,?_,y6⟩
   ·rw [bk_ (by simpa using hlt),bp_,y1,y2]; exact y4
   ·rw [bk_ (by simpa using hlt),bp_,y1]; exact y5
  ·exact Ace (n := ops.size) (by rw [x3]; rfl) hT j hj t
  ·obtain ⟨t,v,t₁,Uk,U₁,y1,y2,y3,y4,y5,y6⟩ := x5 j o (by simpa using ho)
   have hlt := (aa_.1 y1).1
   have := hb j o t v ho (by rw [k2]; exact y1) hc
   rw [k3] at this
   rw [bk_ (by simpa using hlt),bp_,y1]
   exact this
 refine wp_region_any hm ?_;obtain ⟨t1,t2⟩ := st.sim.same (w' := { w with drawn := w.drawn + 1 }) nl (fun _ _ => rfl) ⟨rfl,rfl⟩
 have g9 : ∀ i,(Array.replicate ops.size false).getD i false = false := fun i => by
  rw [bd_,Array.getElem?_replicate]; split <;> rfl
 refine Ach (C₀ := C) (N₀ := nx s.sto) (w₀ := w) (df := s.df) hR lx c2 (fun L m U C' w' a' iv bi => ?_) ops.size _ 0 s.sto C _ a (by simp) (Aci g9) ?_
 ·obtain ⟨z1,z2⟩ := iv.last lx bi
  have hU : U = d.s.sto := by
   rw [← S8,← x2,x4] at z1; cases z1; rfl
  subst hU;refine ⟨(.normal,d.s),bu_ _,C',rfl,?_,iv.ext⟩
  have hTn : ((log.map (·.1) ++ [d.s.tm])[ops.size]?).getD .e = d.s.tm := by
   rw [← bv,← x1,ch_ (by simp)]; simp
  simp only [hTn] at z2
  exact ⟨z2.sim,z2.glob,z2.tmps,by rw [k4]; exact z2.size,by rw [k5]; exact z2.dfs⟩
 ·refine ⟨fun j hj => ?_,fun k e _ => ?_,rfl,t1,st.glob.ext t2,fun t x hx => ?_,st.size,st.dfs.ext t2,t2⟩
  ·rw [g9] at hj; cases hj
  ·rw [g9]; constructor
   ·intro hh; cases hh
   ·intro hh; omega
  ·refine R.ext t2 _ _ (st.tmps t x ?_);rw [← hx,Jz (k := 0) (bh_ _) fun i _ _ _ => g9 i]; rfl
theorem Po {E : Env} (hm : E.P.follows .mixedOrders = true) (Rr : Rec) (hR : Be E Rr) : T8 E Rr := by
 intro ops s s' C w a id st h;unfold Nx at h
 split at h
 ·cases h
 ·rename_i anns dt
  split at h
  ·rename_i d hd
   cases hb : Ga E ops.toList d.eps.reverse anns ops.toList d.log.reverse
   ·simp [hb] at h
   ·simp only [hb,cond_true,ad_] at h;subst h;unfold Ko at dt;simp only at dt
    split at dt
    ·rename_i fa
     cases dt;simp only [af_] at fa;obtain ⟨⟨⟨c1,c2⟩,c3⟩,_⟩ := fa;refine Acj hm hR st c1 c2 c3 hd fun j o t v ho hl hc => ?_
     have := Qn hb j _ o t v (H5 ops.toList 0 j o (by simpa using ho)) (by simpa using ho) hl hc
     simp only [bq_,Kj] at this;exact Afx this
    ·cases dt
  ·cases h
end Go.AM
