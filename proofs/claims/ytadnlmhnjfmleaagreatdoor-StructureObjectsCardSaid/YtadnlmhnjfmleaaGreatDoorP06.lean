/- A part of the proof; shortened by program. -/
import Derived.Scope
import Derived.Defers
import Derived.RangeFuncIn
import Derived.RangeFuncRecord
import Derived.RangeFuncLeaves
import Derived.OrdersIn
import Derived.TacticsIn
import Derived.Test.YtadnlmhnjfmleaaGreatDoorP05
set_option maxRecDepth 100000
set_option maxHeartbeats 4000000
set_option linter.unusedSimpArgs false
set_option linter.unusedVariables false
namespace Go.AM
open Go
def MB (C : Ctx) (N : Nat) (r : List (Nat × List AV)) (m : Nat) : Prop := ∀ x ∈ r,x.1 = Gh -> ∀ a b,x.2 = [.yl a,.yl b] -> a < N /\ (C.stm a).toNat < m
def DR (C : Ctx) (N : Nat) (w : World) : List (Nat × List AV) -> List Deferred -> Prop
 | [],[] => True
 | x :: r,d :: s => ((x.1 ≠ Gh /\ ∃ cap,d.target = .fn (.func x.1) cap /\ RL C N w x.2 (d.args ++ cap).toList) ∨
   (x.1 = Gh /\ ∃ a b,x.2 = [.yl a,.yl b] /\ (a < N /\ b < N /\ (C.stm b).toNat <= (C.stm a).toNat) /\ d = { target := .collected (C.stm a).toNat,args := #[] } /\ ¬ C.own (C.stm a).toNat /\ w.heap[(C.stm a).toNat]? = some (.deferred (some [])) /\ MB C N r (C.stm a).toNat)) /\ DR C N w r s
 | _,_ => False
structure SSt (E : Env) (C : Ctx) (w : World) (s : St) (a : Act) : Prop where
 sim : Sim E.P C w s.sto
 glob : Fo C (nx s.sto) w E
 tmps : TR C (nx s.sto) w s.tm a.tmps
 size : a.tmps.size = s.nt
 dfs : DR C (nx s.sto) w s.df a.defers
def Vl (P : Program) (f : FuncId) : Prop := ∃ fn, P.funcs[f]? = some fn /\ (fn.name == "runtime.NumGoroutine") = false /\ fn.body.isNone = false
def Akh (P : Program) (C : Ctx) (N : Nat) (w : World) (v : AV) (J' : Sto) : Ending -> World -> Prop
 | .returned x,w' => ∃ C',Sim P C' w' J' /\ Ext C N w C' (nx J') w' /\ R C' (nx J') w' v x
 | _,_ => False
def A7 (E : Env) (f : Nat) (g : List AV -> Sto -> Res) : Prop :=
 ∀ (C : Ctx) (w : World) (J : Sto) (args : List AV) (vs : Array Value) (v : AV) (J' : Sto),Sim E.P C w J -> Fo C (nx J) w E -> RL C (nx J) w args vs.toList -> g args J = some (v,J') ->
  Vl E.P f /\ Calls E.P f vs w (Akh E.P C (nx J) w v J')
def B8 (ro : Option Nat) : Fence := { Fence.wide with round := ro }
def Vm (E : Env) (a : Nat) (g : Hnd) : Prop :=
 ∀ (C : Ctx) (w : World) (J : Sto) (args : List AV) (vs : Array Value) (v : AV) (J' : Sto),Sim E.P C w J -> Fo C (nx J) w E -> RL C (nx J) w args vs.toList -> g args J = some (v,J') ->
  ∃ r b,v = .bool b /\ w.heap[(C.stm a).toNat]? = some (.loop (C5 r .ready)) /\ vs.size = r.params.size /\ ∀ ro n,RoundIn (B8 ro) n E.P (C.stm a).toNat r.fn ((r.params.zip vs).foldl (fun tmps (t,a) => tmps.setIfInBounds t a) r.tmps) r.assign r.body w fun e w' =>
   e = .returned (.bool b) /\ ∃ C',Sim E.P C' w' J' /\ Ext C (nx J) w C' (nx J') w'
def D4 (f : Sto -> Res) : Prop := ∀ J J' v,f J = some (v,J') -> J' = J /\ ∀ τ,f τ = some (v,τ)
structure Ao (E : Env) (Rr : Rec) : Prop where
 fn : ∀ f,A7 E f (Rr (.fn f))
 yl : ∀ a,Vm E a (Rr (.yl a))
 pu : ∀ f,E.pu f = true -> ∀ args,D4 (Rr (.fn f) args)
theorem As0 {ro : Option Nat} {n : Nat} {P : Program} {f : FuncId} {args : Array Value} {w : World} {R : Ending -> World -> Prop} (h : Calls P f args w R) : CallsIn (B8 ro) n P f args w R :=
 (callsIn_wide (n := n)).2 h
theorem rowsR {ro : Option Nat} {n : Nat} {P : Program} {row : String} {args : Array Value} {w : World} {R : Value -> World -> Prop} (h : Rows P row args w R) : RowsIn (B8 ro) n P row args w R :=
 fun c cs _ => let ⟨v,w',r,s⟩ := h c cs; ⟨v,w',r,stepsIn_wide.2 s⟩
def Aki (ro : Option Nat) (op : Op) : Prop := ro = none ∨ Tg op = false
theorem Dm {ro : Option Nat} {n : Nat} {P : Program} {o : Oper} {a : Act} {w : World} {next : Act -> World -> Prop} {Q : Exit -> Act -> World -> Prop} (hd : Aki ro o.op) (h : o.wp P a w next Q) :
  o.wpIn (B8 ro) n P a w next Q := by
 refine ⟨fun _ _ => trivial,?_⟩
 have hs : o.semAt (B8 ro).round a.eval = execOp a.eval o := by
  rcases hd with rfl | hd
  ·exact Oper.semAt_none _ _
  ·exact Oper.semAt_eq _ _ _ (fun c hc => by rw [hc] at hd; cases hd)
 rw [hs];unfold Oper.wp at h
 generalize (execOp a.eval o).run P w = r at h
 cases r with
 | ok x w' =>
  cases x with
  | value v => exact h
  | skip => exact h
  | defer d => exact h
  | enter f args => exact ⟨fun hh => (by cases hh),As0 h⟩
  | row row args => exact ⟨fun hh => (by cases hh),rowsR h⟩
  | round _ _ _ _ _ => exact h.elim
  | _ => exact h.elim
 | halt x w' =>
  cases x with
  | panic v => exact h
  | _ => exact h.elim
section
variable {E : Env} {C C' : Ctx} {N N' : Nat} {w w' : World} {Rr : Rec}
theorem DR.ext (e : Ext C N w C' N' w') : ∀ {l : List (Nat × List AV)} {ds : List Deferred},DR C N w l ds -> DR C' N' w' l ds
 | [],[],_ => by unfold DR; trivial
 | x :: r,d :: s,h => by
  unfold DR at *;obtain ⟨h,h3⟩ := h;refine ⟨?_,DR.ext e h3⟩
  rcases h with ⟨h0,cap,h1,h2⟩ | ⟨h0,a,b,h1,⟨h2,hb,hle⟩,h3,h4,h5,h6⟩
  ·exact .inl ⟨h0,cap,h1,h2.ext e⟩
  ·obtain ⟨k1,k2⟩ := e.keep _ (at_.1 h5).1 h4;refine .inr ⟨h0,a,b,h1,?_⟩;rw [e.stm a h2,e.stm b hb]
   exact ⟨⟨aq_ h2 e.next,aq_ hb e.next,hle⟩,h3,k1,k2.trans h5,fun y hy hk c d hcd => let ⟨q1,q2⟩ := h6 y hy hk c d hcd; ⟨aq_ q1 e.next,by rw [e.stm c q1]; exact q2⟩⟩
 | [],_ :: _,h => by unfold DR at h; exact h.elim
 | _ :: _,[],h => by unfold DR at h; exact h.elim
theorem Abp (a : Act) (v : Value) : (a.put none v) = a := rfl
theorem TR.put {tm tm' : Tr AV} {a : Act} {nt : Nat} {dst : Option Nat} {v : AV} {x : Value} (ht : TR C N w tm a.tmps) (hsz : a.tmps.size = nt) (h : Hu dst tm nt v = some tm') (hx : R C N w v x) :
  TR C N w tm' (a.put dst x).tmps /\ (a.put dst x).tmps.size = nt /\ (a.put dst x).defers = a.defers := by
 cases dst with
 | none => simp only [Hu,ac_] at h; subst h; exact ⟨ht,hsz,rfl⟩
 | some d =>
  simp only [Hu,Dq] at h;cases hb : Nat.blt d nt
  ·simp [hb] at h
  ·simp only [hb,cond_true,ac_] at h;subst h;have hlt : d < nt := ak_ hb
   refine ⟨fun i y hy => ?_,by simp [Act.put,hsz],rfl⟩
   rw [dl_] at hy;simp only [Act.put]
   by_cases hi : i = d
   ·subst hi;rw [if_pos rfl] at hy; cases hy
    simp [hsz,hlt]; exact hx
   ·rw [if_neg hi] at hy;have := ht i y hy
    simpa [cm_ (go_ hi)] using this
theorem SSt.put {s : St} {a : Act} {J' : Sto} {dst : Option Nat} {v : AV} {x : Value} {tm' : Tr AV} (st : SSt E C w s a) (hs : Sim E.P C' w' J') (e : Ext C (nx s.sto) w C' (nx J') w') (hx : R C' (nx J') w' v x) (h : Hu dst s.tm s.nt v = some tm') :
  SSt E C' w' ⟨tm',s.nt,s.df,J'⟩ (a.put dst x) := by
 obtain ⟨h1,h2,h3⟩ := TR.put (st.tmps.ext e) st.size h hx
 exact ⟨hs,st.glob.ext e,h1,h2,by rw [h3]; exact st.dfs.ext e⟩
theorem Pc : R C N w An undef := by unfold An R; exact ⟨#[],rfl,by unfold RL; trivial⟩
theorem An3 {x : AV} {v : Value} (h : R C N w x v) (h1 : x ≠ .any) (h2 : ∀ b,x ≠ .bool b) (b : Bool) : v ≠ .bool b := by
 intro hv;subst hv;cases x <;> unfold R at h
 case any => exact h1 rfl
 case bool b' => exact h2 _ rfl
 case nil y => obtain ⟨rfl,h⟩ := h; simp [Wf] at h
 all_goals first
  | (cases h; done)
  | (obtain ⟨_,h,_⟩ := h; cases h; done)
  | (obtain ⟨_,_,h,_⟩ := h; cases h; done)
  | (obtain ⟨h,_⟩ := h; cases h; done)
theorem D5 {ops : Array Oper} {o : Oper} {tm : Tr AV} {a : Act} (ht : TR C N w tm a.tmps) {b : Bool} (h : B7 ops.toList o tm = some b) : Region.wanted o (yielded ops a.tmps) = b := by
 unfold B7 at h;unfold Region.wanted
 split at h
 ·rename_i hg; rw [hg]; cases h; rfl
 ·rename_i j want hg
  rw [hg];simp only
  split at h
  ·rename_i oj hoj
   have kw : ops[j]? = some oj := by simpa using hoj
   split at h
   ·rename_i d hd
    have hy1 : ∀ b,a.tmps[d]? = some (.bool b) -> yielded ops a.tmps j = some b := fun b hh => by
     unfold yielded; simp [kw,hd,hh]
    have hy2 : (∀ b,a.tmps[d]? ≠ some (.bool b)) -> yielded ops a.tmps j = none := fun hh => by
     unfold yielded;simp only [kw,fp_,hd]
    split at h
    ·rename_i b' cw
     cases h;have := ht d _ cw;unfold R at this
     have hh : a.tmps[d]? = some (.bool b') := by
      cases hh : a.tmps[d]? with
      | none => simp [hh,undef] at this
      | some z => simp [hh] at this; rw [this]
     rw [hy1 b' hh];cases b' <;> cases want <;> rfl
    ·cases h
    ·rename_i x hx1 hx2 cw
     cases h;have hr := ht d _ cw;have hnb := An3 hr (fun hh => hx2 hh) (fun b hh => hx1 b hh)
     rw [hy2 fun b hh => by
      have := hnb b;rw [ba_,hh] at this;exact this rfl]
     rfl
    ·cases h
   ·cases h
  ·cases h
theorem Abq (m : String) (x : Value) (args : Array Value) : invoke (.fn (.method m) #[]) (#[x] ++ args) = callMethod x m args := by
 have cw : (#[x] ++ args)[0]? = some x := by rw [di_ (by simp)]; rfl
 have hex : (#[x] ++ args).extract 1 (#[x] ++ args).size = args := by
  apply Array.ext'
  simp
 simp only [invoke,cw,hex]
theorem Al4 (a : Array TypeId) (t : TypeId) (ad : Addr) (name : String) : Builtin.ssaWrapNilChk_ a t #[.pointer (some ad), strVal "", strVal name] = pure (.pointer (some ad)) := rfl
theorem Abr {J : Sto} (hs : Sim E.P C w J) {t : TypeId} {name : String} {x : AV} {X : Value} (hx : R C (nx J) w x X) {f : Nat} {y : AV} (h : Aeb E t name x J = some (f,y)) :
  ∃ Y,(method (E.P.types.size + Made.depth) t X name).run E.P w = .ok (f,Y) w /\ R C (nx J) w y Y := by
 obtain ⟨fl,kx⟩ : ∃ fl,E.P.types.size + Made.depth = fl + 1 := ⟨_,rfl⟩;rw [kx];unfold Aeb at h
 split at h
 ·rename_i i hi
  split at h
  ·rename_i m hm
   split at h
   ·rename_i ir
    have hpe : m.path.isEmpty = true := by
     have : m.path = #[] := by rw [← fs_ (xs := m.path),ir]
     rw [this]; rfl
    split at h
    ·rename_i g ptr hg
     split at h
     ·rename_i d hd
      have start : ∀ r : Sem Value, ∀ Y, r.run E.P w = .ok Y w -> (r = receiverAt t (.val X) ptr (some ((name.splitOn ".").getLastD name))) ->
        (method (fl + 1) t X name).run E.P w = .ok (g,Y) w := by
       intro r Y hr he;subst he;simp only [method,typeInfo,Sem.run_bind,run_program,Result.andThen_ok,hi,Sem.run_pure,hm,ir,follow,hg,hpe,if_true,hr]
      split at h
      ·rename_i e
       split at h
       ·cases h;refine ⟨X,start _ X ?_ rfl,hx⟩;simp only [receiverAt,Sem.run_bind,Aa hd,Result.andThen_ok,Place.get,Sem.run_pure]
       ·split at h
        ·rename_i te hte
         split at h
         ·rename_i u J' hu
          cases h;obtain ⟨_,Y,h1,h2⟩ := O5 hs hte hx hu
          have hX : ∃ ad,X = .pointer (some ad) := by
           unfold Lx at hu
           split at hu
           ·unfold R at hx; obtain ⟨ad,hx,_⟩ := hx; exact ⟨ad,hx⟩
           ·unfold R at hx; obtain ⟨c,o,hx,_⟩ := hx; exact ⟨_,hx⟩
           ·cases hu
          obtain ⟨ad,rfl⟩ := hX;refine ⟨Y,start _ Y ?_ rfl,h2⟩;simp only [receiverAt,Sem.run_bind,Aa hd,Result.andThen_ok,Place.get,Sem.run_pure,Al4];have e1 : (Instr.loadAt e (.pointer (some ad))) = loadVar e ad := rfl;have e2 : (asAddr (.pointer (some ad))) = pure ad := rfl;rw [e1] at h1;simp only [e2,Sem.run_pure,Result.andThen_ok,h1]
         ·cases h
        ·cases h
      ·rename_i hnp
       split at h
       ·cases h
       ·cases h;refine ⟨X,start _ X ?_ rfl,hx⟩;cases d with
        | pointer e => exact absurd rfl (hnp e)
        | _ => simp only [receiverAt,Sem.run_bind,Aa hd,Result.andThen_ok,Place.get,Sem.run_pure]
     ·cases h
    ·cases h
   ·cases h
  ·cases h
 ·cases h
theorem Qh (hR : Ao E Rr) {s : St} {a : Act} (st : SSt E C w s a) {o : Oper} {v : AV} {J' : Sto} (h : opA E o.op Rr s.tm s.sto = some (v,J')) {K : Act -> World -> Prop} {Q : Exit -> Act -> World -> Prop}
  (hK : ∀ C' w' x,Sim E.P C' w' J' -> Ext C (nx s.sto) w C' (nx J') w' -> R C' (nx J') w' v x -> K (a.put o.dst x) w') {ro : Option Nat} {n : Nat} : o.wpIn (B8 ro) n E.P a w K Q := by
 have viaStep : Ar E o.op s.tm s.sto = some (v,J') -> o.wpIn (B8 ro) n E.P a w K Q := by
  intro h;refine Dm (.inr ?_) ?_
  ·cases hop : o.op <;> first | rfl | (rw [hop] at h; simp [Ar] at h; done)
  obtain ⟨x,w',C',h1,h2,h3,h4⟩ := (Aga st.sim rfl st.glob st.tmps h).1;unfold Oper.wp
  rcases h1 with h1 | ⟨h1,rfl⟩
  ·rw [h1,Oper.upon_value]; exact hK C' w' x h3 h4 h2
  ·rw [h1,Oper.upon_skip]; exact hK C' w' undef h3 h4 h2
 cases hop : o.op with
 | call c =>
  cases hc : c.callee with
  | value f =>
   rw [hop] at h;simp only [opA,hc] at h
   split at h
   ·rename_i a' hv
    have hV := Bc st.glob st.tmps f;rw [hv] at hV;unfold R at hV;obtain ⟨hV,_⟩ := hV
    have hA' : RL C (nx s.sto) w (opds E s.tm c.args.toList) (c.args.map a.eval).toList := by
     simp only [c_]; exact Dh st.glob st.tmps c.args.toList
    obtain ⟨r,bb,rfl,dg,hsz,ey⟩ := hR.yl a' C w s.sto _ _ v J' st.sim st.glob hA' h;have hy := run_yield (P := E.P) (args := c.args.map a.eval) dg hsz
    have bl : (execOp a.eval o).run E.P w = .ok (.round (C.stm a').toNat r.fn ((r.params.zip (c.args.map a.eval)).foldl (fun tmps (t,a) => tmps.setIfInBounds t a) r.tmps) r.assign r.body) w := by
     simp [execOp,hop,resolve,hc,hV,Deferred.ofValue,invoke]
     simpa [C5] using hy
    refine ⟨fun _ _ => trivial,?_⟩
    rw [Oper.semAt_eq _ _ _ (fun c hc => by rw [hop] at hc; cases hc),bl,Oper.uponIn_round]
    refine ⟨fun hh => (by cases hh),(ey ro (n - 1)).mono fun e w' he => ?_⟩
    obtain ⟨rfl,C',k1,k2⟩ := he
    exact hK C' w' _ k1 k2 (by unfold R; rfl)
   split at h
   ·rename_i k args hk
    refine Dm (.inr (by rw [hop]; rfl)) ?_
    unfold Qc at hk
    split at hk
    ·rename_i k' first cap hf
     cases hk;have hV := Bc st.glob st.tmps f;rw [hf] at hV;unfold R at hV;obtain ⟨p,q,hV,hp,hq⟩ := hV;have bg := Dh st.glob st.tmps c.args.toList
     have bt : RL C (nx s.sto) w (first ++ opds E s.tm c.args.toList ++ cap) (p ++ c.args.map a.eval ++ q).toList := by
      simp only [cs_,c_];exact (hp.append bg).append hq
     obtain ⟨⟨fn,g1,g2,g3⟩,b8⟩ := hR.fn k C w s.sto _ _ v J' st.sim st.glob bt h
     have bl : (execOp a.eval o).run E.P w = .ok (.enter k (p ++ c.args.map a.eval ++ q)) w := by
      have g2' : fn.name ≠ "runtime.NumGoroutine" := by simpa using g2
      have g3' : fn.body ≠ none := fun hh => by rw [hh] at g3; cases g3
      simp [execOp,hop,resolve,hc,hV,Deferred.ofValue,invoke,callFunc,g1,g2',g3']
     unfold Oper.wp;rw [bl,Oper.upon_enter];refine b8.mono fun e w' he => ?_
     cases e with
     | returned x => obtain ⟨C',k1,k2,k3⟩ := he; exact hK C' w' x k1 k2 k3
     | panicked _ => exact he.elim
     | outgrown => exact he.elim
    ·cases hk
   ·cases h
  | invoke r m =>
   rw [hop] at h;simp only [opA,hc] at h
   split at h
   ·rename_i t v' hr
    split at h
    ·rename_i f rv hm
     refine Dm (.inr (by rw [hop]; rfl)) ?_
     have hV := Bc st.glob st.tmps r;rw [hr] at hV;unfold R at hV;obtain ⟨X,hV,hX⟩ := hV;obtain ⟨Y,h1,h2⟩ := Abr st.sim hX hm;have bg := Dh st.glob st.tmps c.args.toList
     have bt : RL C (nx s.sto) w (rv :: opds E s.tm c.args.toList) (#[Y] ++ c.args.map a.eval).toList := by
      simp only [cs_,c_]
      show RL _ _ _ _ (Y :: _)
      unfold RL;exact ⟨h2,bg⟩
     obtain ⟨⟨fn,g1,g2,g3⟩,b8⟩ := hR.fn f C w s.sto _ _ v J' st.sim st.glob bt h
     have bl : (execOp a.eval o).run E.P w = .ok (.enter f (#[Y] ++ c.args.map a.eval)) w := by
      have g2' : fn.name ≠ "runtime.NumGoroutine" := by simpa using g2
      have g3' : fn.body ≠ none := fun hh => by rw [hh] at g3; cases g3
      have e1 : execOp a.eval o = callMethod (a.eval r) m (c.args.map a.eval) := by
       have : execOp a.eval o = invoke (.fn (.method m) #[]) (#[a.eval r] ++ c.args.map a.eval) := by
        simp only [execOp,hop,resolve,hc,pure_bind]
       rw [this,Abq]
      rw [e1,hV];simp only [callMethod,Sem.run_bind,run_program,Result.andThen_ok,h1,callFunc,g1]
      simp [g2',g3']
     unfold Oper.wp;rw [bl,Oper.upon_enter];refine b8.mono fun e w' he => ?_
     cases e with
     | returned x => obtain ⟨C',k1,k2,k3⟩ := he; exact hK C' w' x k1 k2 k3
     | panicked _ => exact he.elim
     | outgrown => exact he.elim
    ·cases h
   ·cases h
  | builtin b => refine viaStep ?_; rw [hop] at h ⊢; simpa only [opA,hc] using h
 | _ => refine viaStep ?_; rw [hop] at h ⊢; exact h
theorem Rw (hR : Ao E Rr) {s s' : St} {a : Act} (st : SSt E C w s a) {ops : Array Oper} {o : Oper} (h : Vb E ops.toList o Rr s = some s') {K : Act -> World -> Prop} {Q : Exit -> Act -> World -> Prop}
  (hK : ∀ C' w' a',SSt E C' w' s' a' -> Ext C (nx s.sto) w C' (nx s'.sto) w' -> K a' w') {ro : Option Nat} {n : Nat} (hpl : Aki ro o.op) :
  (Region.wanted o (yielded ops a.tmps) = true /\ o.wpIn (B8 ro) n E.P a w K Q) ∨ (Region.wanted o (yielded ops a.tmps) = false /\ K (a.put o.dst undef) w) := by
 unfold Vb at h
 split at h
 ·rename_i hg
  refine .inl ⟨D5 st.tmps hg,?_⟩
  split at h
  ·rename_i c hop
   split at h
   ·rename_i f hc hd
    split at h
    ·rename_i ka hk
     cases im : Nat.beq ka.1 Gh
     case true => simp [im] at h
     simp only [im,cond_false,ac_] at h;subst h
     have ni : ka.1 ≠ Gh := fun hh => by rw [hh] at im; cases im
     unfold Qc at hk
     split at hk
     ·rename_i k' first cap hf
      cases hk;have hV := Bc st.glob st.tmps f;rw [hf] at hV;unfold R at hV;obtain ⟨p,q,hV,hp,hq⟩ := hV;have bg := Dh st.glob st.tmps c.args.toList
      have bl : (execOp a.eval o).run E.P w = .ok (.defer { target := .fn (.func k') q,args := p ++ c.args.map a.eval }) w := by
       simp [execOp,hop,resolve,hc,hV,Deferred.ofValue]
      refine Dm hpl ?_;unfold Oper.wp;rw [bl,Oper.upon_defer,hd,Abp];refine hK C w _ ⟨st.sim,st.glob,st.tmps,st.size,?_⟩ (bz_ _ _ _);unfold DR;refine ⟨.inl ⟨ni,q,rfl,?_⟩,st.dfs⟩;simp only [cs_,c_];exact (hp.append bg).append hq
     ·cases hk
    ·cases h
   ·cases h
  ·split at h
   ·rename_i v J' hv
    split at h
    ·rename_i tm htm
     cases h;exact Qh hR st hv fun C' w' x k1 k2 k3 => hK C' w' _ (st.put k1 k2 k3 htm) k2
    ·cases h
   ·cases h
 ·rename_i hg
  refine .inr ⟨D5 st.tmps hg,?_⟩
  split at h
  ·rename_i tm htm
   cases h;exact hK C w _ (st.put st.sim (bz_ _ _ _) Pc htm) (bz_ _ _ _)
  ·cases h
 ·cases h
theorem Lm (hR : Ao E Rr) {ro : Option Nat} {n : Nat} {ops : Array Oper} {Q : Exit -> Act -> World -> Prop} {s' : St} : ∀ (r : List Oper) (i : Nat) (C : Ctx) (w : World) (s : St) (a : Act),(ro = none ∨ E4 r = true) -> (∀ j,r[j]? = ops[i + j]?) -> SSt E C w s a -> Qd E ops.toList Rr r s = some s' ->
  (∀ C' w' a',SSt E C' w' s' a' -> Ext C (nx s.sto) w C' (nx s'.sto) w' -> Q .normal a' w') -> wpOpsIn (B8 ro) n E.P ops Q (List.range' i r.length) a w
 | [],i,C,w,s,a,_,_,st,h,hQ => by
  simp only [Qd,ac_] at h; subst h;simp only [dr_,gk_,wpOpsIn];exact hQ C w a st (bz_ _ _ _)
 | o :: r,i,C,w,s,a,hn,hr,st,h,hQ => by
  simp only [Qd] at h
  split at h
  ·rename_i s1 h1
   have ho : ops[i]? = some o := by have := hr 0; simpa using this.symm
   simp only [ap_,cl_,wpOpsIn,ho]
   have hn1 : Aki ro o.op /\ (ro = none ∨ E4 r = true) := by
    rcases hn with hn | hn
    ·exact ⟨.inl hn,.inl hn⟩
    ·simp only [E4,dg_,ae_] at hn
     exact ⟨.inr (by simpa using hn.1),.inr hn.2⟩
   have := Rw (K := wpOpsIn (B8 ro) n E.P ops Q (List.range' (i + 1) r.length)) (Q := Q) hR st h1 (ro := ro) (n := n) (hpl := hn1.1) fun C' w' a' st' e' =>
    Lm hR r (i + 1) C' w' s1 a' hn1.2 (fun j => by have := hr (j + 1); simp only [bi_] at this; rw [this]; congr 1; omega) st' h fun C2 w2 a2 st2 e2 => hQ C2 w2 a2 st2 (e'.trans e2)
   rcases this with ⟨h2,h3⟩ | ⟨h2,h3⟩
   ·rw [if_pos h2]; exact h3
   ·rw [if_neg (by rw [h2]; simp)]; exact ⟨fun _ _ => trivial,h3⟩
  ·cases h
end
section
theorem Acb {a b : List Nat} (h : Fl a b = true) : a = b := (Fp a b).1 h
theorem Agb {a b : Int} (h : Ot a b = true) : a = b := by rw [Ie] at h; exact eq_of_beq h
theorem Akj {a b : Option Nat} (h : beqO a b = true) : a = b := by
 cases a <;> cases b <;> simp only [beqO] at h
 ·rfl
 ·cases h
 ·cases h
 ·rw [aa_ h]
theorem Al5 {a b : Value} (h : Aik a b = true) : a = b := by
 unfold Aik at h
 split at h <;> first | rfl | cases h
theorem An4 {a b : Fn} (h : Ano a b = true) : a = b := by
 unfold Ano at h
 split at h
 ·rw [aa_ h]
 ·cases h
mutual
theorem AV.beq_eq : ∀ (x y : AV),AV.beq x y = true -> x = y
 | .any,y,h => by cases y <;> simp only [AV.beq] at h <;> first | rfl | cases h
 | .bool a,y,h => by
  cases y <;> simp only [AV.beq] at h <;> first | (cases h; done) | skip
  rename_i b; cases a <;> cases b <;> first | rfl | cases h
 | .int k n,y,h => by
  cases y <;> simp only [AV.beq] at h <;> first | (cases h; done) | skip
  rw [ae_] at h;rw [(Ka _ _).1 h.1,Agb h.2]
 | .str l,y,h => by
  cases y <;> simp only [AV.beq] at h <;> first | (cases h; done) | skip
  rw [Acb h]
 | .nil v,y,h => by
  cases y <;> simp only [AV.beq] at h <;> first | (cases h; done) | skip
  rw [Al5 h]
 | .pr a o,y,h => by
  cases y <;> simp only [AV.beq] at h <;> first | (cases h; done) | skip
  rw [ae_] at h;rw [aa_ h.1,aa_ h.2]
 | .pv l,y,h => by
  cases y <;> simp only [AV.beq] at h <;> first | (cases h; done) | skip
  rw [AV.beqs_eq _ _ h]
 | .sr a o s n c,y,h => by
  cases y <;> simp only [AV.beq] at h <;> first | (cases h; done) | skip
  simp only [ae_] at h;rw [aa_ h.1.1.1.1,aa_ h.1.1.1.2,aa_ h.1.1.2,aa_ h.1.2,Akj h.2]
 | .sv l s n c,y,h => by
  cases y <;> simp only [AV.beq] at h <;> first | (cases h; done) | skip
  simp only [ae_] at h;rw [AV.beqs_eq _ _ h.1.1.1,aa_ h.1.1.2,aa_ h.1.2,Akj h.2]
 | .mp a,y,h => by
  cases y <;> simp only [AV.beq] at h <;> first | (cases h; done) | skip
  rw [aa_ h]
 | .it a,y,h => by
  cases y <;> simp only [AV.beq] at h <;> first | (cases h; done) | skip
  rw [aa_ h]
 | .stp a,y,h => by
  cases y <;> simp only [AV.beq] at h <;> first | (cases h; done) | skip
  rw [aa_ h]
 | .flt k a,y,h => by
  cases y <;> simp only [AV.beq] at h <;> first | (cases h; done) | skip
  simp only [ae_,decide_eq_true_eq] at h;rw [h.1,aa_ h.2]
 | .yl a,y,h => by
  cases y <;> simp only [AV.beq] at h <;> first | (cases h; done) | skip
  rw [aa_ h]
 | .fn f a b,y,h => by
  cases y <;> simp only [AV.beq] at h <;> first | (cases h; done) | skip
  simp only [ae_] at h;rw [An4 h.1.1,AV.beqs_eq _ _ h.1.2,AV.beqs_eq _ _ h.2]
 | .ifc t a,y,h => by
  cases y <;> simp only [AV.beq] at h <;> first | (cases h; done) | skip
  rw [ae_] at h;rw [aa_ h.1,AV.beq_eq _ _ h.2]
 | .agg l,y,h => by
  cases y <;> simp only [AV.beq] at h <;> first | (cases h; done) | skip
  rw [AV.beqs_eq _ _ h]
 | .tup l,y,h => by
  cases y <;> simp only [AV.beq] at h <;> first | (cases h; done) | skip
  rw [AV.beqs_eq _ _ h]
theorem AV.beqs_eq : ∀ (l m : List AV),AV.beqs l m = true -> l = m
 | [],m,h => by cases m <;> simp only [AV.beqs] at h <;> first | rfl | cases h
 | x :: r,m,h => by
  cases m <;> simp only [AV.beqs] at h <;> first | (cases h; done) | skip
  rw [ae_] at h;rw [AV.beq_eq _ _ h.1,AV.beqs_eq _ _ h.2]
end
def Le (x y : AV) : Prop := y = x ∨ y = .any
theorem Aes (x y : AV) : Le x (AV.join x y) := by
 unfold AV.join; cases h : AV.beq x y
 ·exact .inr rfl
 ·exact .inl rfl
theorem Aet (x y : AV) : Le y (AV.join x y) := by
 unfold AV.join; cases h : AV.beq x y
 ·exact .inr rfl
 ·exact .inl (AV.beq_eq _ _ h)
section
variable {C C' : Ctx} {N N' : Nat} {w w' : World} {P : Program}
theorem Le.R {x y : AV} (h : Le x y) {v : Value} (hr : R C N w x v) : R C N w y v := by
 rcases h with rfl | rfl
 ·exact hr
 ·unfold AM.R; trivial
inductive LeL : List AV -> List AV -> Prop
 | nil : LeL [] []
 | cons {x y r s} : Le x y -> LeL r s -> LeL (x :: r) (y :: s)
inductive LeE : List (Key × AV) -> List (Key × AV) -> Prop
 | nil : LeE [] []
 | cons {k l x y r s} : (∀ v,KV k v -> KV l v) -> Le x y -> LeE r s -> LeE ((k,x) :: r) ((l,y) :: s)
theorem LeL.RC {l m : List AV} (h : LeL l m) : ∀ {c o : Nat},RC C N w c l o -> RC C N w c m o := by
 induction h with
 | nil => intro c o _; unfold AM.RC; trivial
 | cons h1 _ ih =>
  intro c o hr;unfold AM.RC at hr ⊢;obtain ⟨⟨v,a,b,d⟩,e⟩ := hr;exact ⟨⟨v,a,b,h1.R d⟩,ih e⟩
theorem LeE.ER {l m : List (Key × AV)} (h : LeE l m) : ∀ {L : List MapEntry},ER C N w l L -> ER C N w m L := by
 induction h with
 | nil => intro L h; exact h
 | cons h1 h2 _ ih =>
  intro L hr;cases L with
  | nil => unfold AM.ER at hr; exact hr.elim
  | cons e L => unfold AM.ER at hr ⊢; exact ⟨⟨h1 _ hr.1.1,h2.R hr.1.2⟩,ih hr.2⟩
inductive LeO : AO -> AO -> Prop
 | cells {l m} : LeL l m -> LeO (.cells l) (.cells m)
 | map {kt es es' v} : LeE es es' -> LeO (.map kt es v) (.map kt es' v)
theorem Tw : ∀ {l m r : List AV},Ic l m = some r -> LeL l r /\ LeL m r
 | [],[],r,h => by simp only [Ic,ac_] at h; subst h; exact ⟨.nil,.nil⟩
 | x :: l,y :: m,r,h => by
  simp only [Ic] at h
  split at h
  ·rename_i s hs
   cases h;obtain ⟨h1,h2⟩ := Tw hs;exact ⟨.cons (Aes _ _) h1,.cons (Aet _ _) h2⟩
  ·cases h
 | [],_ :: _,r,h => by simp [Ic] at h
 | _ :: _,[],r,h => by simp [Ic] at h
mutual
theorem Key.eq_KV : ∀ (k l : Key),Key.eq k l = true -> ∀ v,KV l v -> KV k v
 | .bool a,l,h,v,hv => by
  cases l <;> simp only [Key.eq] at h <;> first | (cases h; done) | skip
  rename_i b; unfold KV at hv ⊢; cases a <;> cases b <;> first | exact hv | cases h
 | .int k n,l,h,v,hv => by
  cases l <;> simp only [Key.eq] at h <;> first | (cases h; done) | skip
  rw [ae_] at h;unfold KV at hv ⊢;rw [(Ka _ _).1 h.1,Agb h.2]; exact hv
 | .str s,l,h,v,hv => by
  cases l <;> simp only [Key.eq] at h <;> first | (cases h; done) | skip
  unfold KV at hv ⊢;rw [Acb h]; exact hv
 | .agg a,l,h,v,hv => by
  cases l <;> simp only [Key.eq] at h <;> first | (cases h; done) | skip
  unfold KV at hv ⊢;obtain ⟨b,rfl,hb⟩ := hv;exact ⟨b,rfl,Key.eqs_KVs _ _ h _ hb⟩
theorem Key.eqs_KVs : ∀ (k l : List Key),Key.eqs k l = true -> ∀ v,KVs l v -> KVs k v
 | [],l,h,v,hv => by cases l <;> simp only [Key.eqs] at h <;> first | exact hv | cases h
 | x :: r,l,h,v,hv => by
  cases l <;> simp only [Key.eqs] at h <;> first | (cases h; done) | skip
  cases v with
  | nil => unfold KVs at hv; exact hv.elim
  | cons v vs =>
   unfold KVs at hv ⊢
   rename_i y s
   cases hb : Key.eq x y
   ·rw [hb] at h; cases h
   ·rw [hb] at h; exact ⟨Key.eq_KV _ _ hb _ hv.1,Key.eqs_KVs _ _ h _ hv.2⟩
end
theorem Acc : ∀ {l m r : List (Key × AV)},Rp l m = some r -> LeE l r /\ LeE m r
 | [],[],r,h => by simp only [Rp,ac_] at h; subst h; exact ⟨.nil,.nil⟩
 | (k,x) :: l,(k',y) :: m,r,h => by
  simp only [Rp] at h;cases hb : Key.eq k k'
  ·simp [hb] at h
  ·simp only [hb,cond_true] at h
   split at h
   ·rename_i s hs
    cases h;obtain ⟨h1,h2⟩ := Acc hs;exact ⟨.cons (fun v h => h) (Aes _ _) h1,.cons (Key.eq_KV _ _ hb) (Aet _ _) h2⟩
   ·cases h
 | [],_ :: _,r,h => by simp [Rp] at h
 | _ :: _,[],r,h => by simp [Rp] at h
theorem Agc {x y z : AO} (h : Anp x y = some z) : LeO x z /\ LeO y z := by
 unfold Anp at h
 split at h
 ·split at h
  ·rename_i l hl; cases h; obtain ⟨h1,h2⟩ := Tw hl; exact ⟨.cells h1,.cells h2⟩
  ·cases h
 ·rename_i k a v k' b v'
  cases hb : (Nat.beq v v' && Nat.beq k k')
  ·simp [hb] at h
  ·simp only [hb,cond_true] at h;rw [ae_] at hb;have h1 := aa_ hb.1;have h2 := aa_ hb.2;subst h1 h2
   split at h
   ·rename_i l hl; cases h; obtain ⟨h1,h2⟩ := Acc hl; exact ⟨.map h1,.map h2⟩
   ·cases h
 ·cases h
theorem Qi : ∀ (s t : Tr AV) (i : Nat) (v : AV),(Gi s t).get i = some v -> ∃ x y,s.get i = some x /\ t.get i = some y /\ Le x v /\ Le y v
 | .n a l r,.n b l' r',i,v,h => by
  cases i with
  | zero =>
   cases a with
   | none => simp [Gi,ew_] at h
   | some x =>
    cases b with
    | none => simp [Gi,ew_] at h
    | some y => simp [Gi,ew_] at h; subst h; exact ⟨x,y,rfl,rfl,Aes _ _,Aet _ _⟩
  | succ i =>
   have e : (Gi (.n a l r) (.n b l' r')).get (i + 1) = if i % 2 = 0 then (Gi l l').get (i / 2) else (Gi r r').get (i / 2) := by
    cases a <;> cases b <;> simp only [Gi,cp_]
   rw [e] at h;rw [cp_,cp_]
   by_cases hi : i % 2 = 0
   ·rw [if_pos hi] at h ⊢; rw [if_pos hi]; exact Qi l l' _ v h
   ·rw [if_neg hi] at h ⊢; rw [if_neg hi]; exact Qi r r' _ v h
 | .e,.e,i,v,h => by simp [Gi,Tr.get] at h
 | .e,.n _ _ _,i,v,h => by simp [Gi,Tr.get] at h
 | .n _ _ _,.e,i,v,h => by simp [Gi,Tr.get] at h
theorem Pd : ∀ (s t : Tr AO) (i : Nat) (v : AO),(C3 s t).get i = some v -> ∃ x y,s.get i = some x /\ t.get i = some y /\ LeO x v /\ LeO y v
 | .n a l r,.n b l' r',i,v,h => by
  cases i with
  | zero =>
   cases a with
   | none => simp [C3,ew_] at h
   | some x =>
    cases b with
    | none => simp [C3,ew_] at h
    | some y => simp only [C3,ew_] at h; exact ⟨x,y,rfl,rfl,(Agc h).1,(Agc h).2⟩
  | succ i =>
   have e : (C3 (.n a l r) (.n b l' r')).get (i + 1) = if i % 2 = 0 then (C3 l l').get (i / 2) else (C3 r r').get (i / 2) := by
    cases a <;> cases b <;> simp only [C3,cp_]
   rw [e] at h;rw [cp_,cp_]
   by_cases hi : i % 2 = 0
   ·rw [if_pos hi] at h ⊢; rw [if_pos hi]; exact Pd l l' _ v h
   ·rw [if_neg hi] at h ⊢; rw [if_neg hi]; exact Pd r r' _ v h
 | .e,.e,i,v,h => by simp [C3,Tr.get] at h
 | .e,.n _ _ _,i,v,h => by simp [C3,Tr.get] at h
 | .n _ _ _,.e,i,v,h => by simp [C3,Tr.get] at h
def LeS (J τ : Sto) : Prop := nx τ = nx J /\ ∀ a O,τ.get a = some O -> ∃ O₀,J.get a = some O₀ /\ LeO O₀ O
theorem Zc {a b t : Sto} (h : Te a b = some t) : LeS a t /\ LeS b t := by
 unfold Te at h;cases hb : Nat.beq a.next b.next
 ·simp [hb] at h
 ·simp only [hb,cond_true,ac_] at h;have hn := aa_ hb;subst h
  have key : ∀ i O,(Sto.mk (C3 a.objs b.objs) a.next).get i = some O -> ∃ x y,a.get i = some x /\ b.get i = some y /\ LeO x O /\ LeO y O := fun i O hi => by
   obtain ⟨x,y,h1,h2,h3⟩ := Pd _ _ _ _ hi;cases a; cases b; exact ⟨x,y,h1,h2,h3⟩
  refine ⟨⟨by cases a; rfl,fun i O hi => ?_⟩,⟨by cases a; cases b; exact hn,fun i O hi => ?_⟩⟩
  ·obtain ⟨x,y,h1,h2,h3,h4⟩ := key i O hi; exact ⟨x,h1,h3⟩
  ·obtain ⟨x,y,h1,h2,h3,h4⟩ := key i O hi; exact ⟨y,h2,h4⟩
def Ctx.keep (C : Ctx) (τ : Sto) : Ctx := { C with loc := fun a => if (τ.get a).isSome then C.loc a else none }
theorem Sim.weaken {J τ : Sto} (h : Sim P C w J) (l : LeS J τ) : Sim P (C.keep τ) w τ /\ Ext C (nx J) w (C.keep τ) (nx τ) w := by
 obtain ⟨hn,hl⟩ := l
 have bw : ∀ a p,(C.keep τ).loc a = some p -> C.loc a = some p /\ (τ.get a).isSome = true := fun a p hp => by
  simp only [Ctx.keep] at hp
  split at hp
  ·exact ⟨hp,by assumption⟩
  ·cases hp
 have e : Ext C (nx J) w (C.keep τ) (nx τ) w := ⟨by omega,nl,fun b _ ho => ⟨fun hh => hh.elim (fun hr => ho (.inl hr)) fun ⟨a,o,ha⟩ => ho (.inr ⟨a,o,(bw a _ ha).1⟩),rfl⟩,
  fun a _ p hp => (bw a p hp).1,fun _ _ => rfl,fun _ _ => rfl,fun _ _ _ _ _ => rfl,⟨rfl,fun _ _ => rfl⟩,rfl,rfl⟩
 refine ⟨⟨fun a O hg => ?_,fun a O hg => ?_,fun a p hp => ?_,fun a b c o o' ha hb => h.inj a b c o o' (bw a _ ha).1 (bw b _ hb).1,fun a c o ha => h.lt a c o (bw a _ ha).1,h.rlt,fun a c o ha => h.rdis a c o (bw a _ ha).1⟩,e⟩
 ·obtain ⟨O₀,h1,h2⟩ := hl a O hg;have ho := h.obj a O₀ h1
  have hk : (C.keep τ).loc a = C.loc a := by simp [Ctx.keep,hg]
  cases h2 with
  | cells hc =>
   obtain ⟨c,o,cs,T,k1,k2,k3⟩ := ho;exact ⟨c,o,cs,T,hk.trans k1,k2,hc.RC (gd_ e c rfl _ _ k3)⟩
  | map hm =>
   obtain ⟨c,E,clock,k1,k2,k3⟩ := ho;refine ⟨c,E,clock,hk.trans k1,k2,?_⟩;have k4 := k3.ext e;obtain ⟨L,q1,q2⟩ := k4.perm;exact ⟨k4.typed,⟨L,q1,hm.ER q2⟩,k4.keys,k4.born,k4.apart⟩
 ·obtain ⟨O₀,h1,_⟩ := hl a O hg;have := h.bound a O₀ h1; omega
 ·obtain ⟨h1,h2⟩ := bw a p hp;obtain ⟨O,hO⟩ := bp_.1 h2;refine ⟨O,hO,?_⟩;obtain ⟨O₀,_,h4⟩ := hl a O hO;cases h4 <;> rfl
theorem SSt.weaken {E : Env} {s t : St} {a : Act} (h : SSt E C w s a) (l : LeS s.sto t.sto) (ht : ∀ i v,t.tm.get i = some v -> ∃ x,s.tm.get i = some x /\ Le x v) (hn : t.nt = s.nt) (hd : t.df = s.df) :
  ∃ C',SSt E C' w t a /\ Ext C (nx s.sto) w C' (nx t.sto) w := by
 obtain ⟨h1,h2⟩ := h.sim.weaken l
 refine ⟨_,⟨h1,h.glob.ext h2,fun i v hi => ?_,by rw [hn]; exact h.size,by rw [hd]; exact h.dfs.ext h2⟩,h2⟩
 obtain ⟨x,k1,k2⟩ := ht i v hi;exact k2.R (R.ext h2 _ _ (h.tmps i x k1))
theorem Tx {E : Env} {s s' t : St} (h : Ail s s' = some t) : (∀ {C a},SSt E C w s a -> ∃ C',SSt E C' w t a /\ Ext C (nx s.sto) w C' (nx t.sto) w) /\ (∀ {C a},SSt E C w s' a -> ∃ C',SSt E C' w t a /\ Ext C (nx s'.sto) w C' (nx t.sto) w) := by
 unfold Ail at h
 split at h
 ·rename_i hd hd'
  cases hb : Nat.beq s.nt s'.nt
  ·simp [hb] at h
  ·simp only [hb,cond_true] at h;have hn := aa_ hb
   split at h
   ·rename_i J hJ
    cases h;obtain ⟨l1,l2⟩ := Zc hJ;refine ⟨fun st => st.weaken l1 (fun i v hi => ?_) rfl hd.symm,fun st => st.weaken l2 (fun i v hi => ?_) hn hd'.symm⟩
    ·obtain ⟨x,y,k1,k2,k3,k4⟩ := Qi _ _ i v hi; exact ⟨x,k1,k3⟩
    ·obtain ⟨x,y,k1,k2,k3,k4⟩ := Qi _ _ i v hi; exact ⟨y,k2,k4⟩
   ·cases h
 ·cases h
end
end
def Kh : XE -> Exit
 | .normal => .normal
 | .exit id => .exit id
 | .ret => .ret
def H7 (E : Env) (C : Ctx) (N : Nat) (w : World) (l : List (XE × St)) : Exit -> Act -> World -> Prop := fun e a' w' =>
 ∃ y ∈ l,∃ C',Kh y.1 = e /\ SSt E C' w' y.2 a' /\ Ext C N w C' (nx y.2.sto) w'
def F7 (E : Env) (Rr : Rec) : Prop := ∀ (ops : Array Oper) (s s' : St) (C : Ctx) (w : World) (a : Act) (id : Nat) (ro : Option Nat) (n : Nat),SSt E C w s a -> Oy E ops Rr s = some s' ->
 (Code.region id ops true).wpIn (B8 ro) n E.P (H7 E C (nx s.sto) w [(.normal,s')]) a w
theorem Fs {P : Program} {b : Frame} {a : Act} {k : List Item} {cs : List Frame} {w : World} {c : Code} : step P (lone (b.atR a (.code (.scope c) :: k)) cs w) = .next (lone (b.atR a (.code c :: .inScope c :: k)) cs w) :=
 step_lone_go (by simp [stepG,stepG.exec,Frame.atR])
theorem Abs {P : Program} {b : Frame} {a : Act} {k : List Item} {cs : List Frame} {w : World} {c : Code} : step P (lone (b.atR a (.inScope c :: k)) cs w) = .next (lone (b.atR a k) cs w) :=
 step_lone_go (by simp [stepG,stepG.exec,Frame.atR])
theorem Jf {F : Fence} {n : Nat} {P : Program} {Q : Exit -> Act -> World -> Prop} {a : Act} {w : World} {c : Code} (h : c.wpIn F n P (Exit.noGoto Q) a w) : (Code.scope c).wpIn F n P Q a w := by
 intro b k cs hro hb hr;have h0 : (lone (b.atR a (.code (.scope c) :: k)) cs w).fenced P F := fenced_calm hb hr rfl;obtain ⟨e,a₁,w₁,hq,bu⟩ := h b (.inScope c :: k) cs hro hb hr;cases e with
 | normal => exact ⟨.normal,a₁,w₁,hq,.head h0 Fs (StepsIn.trans bu (.one (fenced_calm hb hr rfl) Abs))⟩
 | exit id =>
  have hx : exitTo id (.inScope c :: k) = exitTo id k := by simp [exitTo]
  exact ⟨.exit id,a₁,w₁,hq,fun k' hk => .head h0 Fs (bu.1 k' (by rw [hx]; exact hk)),
   fun hr' hk => let ⟨k₁,h1,h2⟩ := bu.2 hr' (by rw [hx]; exact hk); ⟨k₁,h1,.head h0 Fs h2⟩⟩
 | goto l => exact hq.elim
 | ret => exact ⟨_,a₁,w₁,hq,fun hn => let ⟨k₁,s₁⟩ := bu.1 hn; ⟨k₁,.head h0 Fs s₁⟩,fun hr' => let ⟨k₁,s₁⟩ := bu.2 hr'; ⟨k₁,.head h0 Fs s₁⟩⟩
 | panic ch => exact ⟨_,a₁,w₁,hq,.of_steps (.one h0 Fs) bu⟩
 | outgrown => exact ⟨_,a₁,w₁,hq,.of_steps (.one h0 Fs) bu⟩
section
variable {E : Env} {C C' : Ctx} {N N' : Nat} {w w' : World} {Rr : Rec}
theorem H7.mono {l m : List (XE × St)} {e : Exit} {a : Act} (h : H7 E C' N' w' l e a w) (hl : ∀ y ∈ l,y ∈ m) {w₀ : World} (hx : Ext C N w₀ C' N' w') : H7 E C N w₀ m e a w := by
 obtain ⟨y,h1,C₂,h2,h3,h4⟩ := h;exact ⟨y,hl y h1,C₂,h2,h3,hx.trans h4⟩
theorem Ki {k : St -> Out} : ∀ {l r : List (XE × St)},Wi k l = some r -> ∀ y ∈ l,(y.1 = .normal -> ∃ m,k y.2 = some m /\ ∀ z ∈ m,z ∈ r) /\ (y.1 ≠ .normal -> y ∈ r)
 | [],r,h,y,hy => by simp at hy
 | (.normal,s) :: l,r,h,y,hy => by
  simp only [Wi] at h
  split at h
  ·rename_i a ha
   split at h
   ·rename_i b hb
    cases h
    rcases ai_.1 hy with rfl | hy
    ·exact ⟨fun _ => ⟨a,ha,fun z hz => cu_ _ hz⟩,fun hn => absurd rfl hn⟩
    ·obtain ⟨h1,h2⟩ := Ki hb y hy;exact ⟨fun hn => let ⟨m,k1,k2⟩ := h1 hn; ⟨m,k1,fun z hz => dz_ _ (k2 z hz)⟩,fun hn => dz_ _ (h2 hn)⟩
   ·cases h
  ·cases h
 | (.exit id,s) :: l,r,h,y,hy => by
  simp only [Wi] at h
  split at h
  ·rename_i b hb
   cases h
   rcases ai_.1 hy with rfl | hy
   ·exact ⟨fun hn => (by cases hn),fun _ => bn_ ..⟩
   ·obtain ⟨h1,h2⟩ := Ki hb y hy;exact ⟨fun hn => let ⟨m,k1,k2⟩ := h1 hn; ⟨m,k1,fun z hz => am_ _ (k2 z hz)⟩,fun hn => am_ _ (h2 hn)⟩
  ·cases h
 | (.ret,s) :: l,r,h,y,hy => by
  simp only [Wi] at h
  split at h
  ·rename_i b hb
   cases h
   rcases ai_.1 hy with rfl | hy
   ·exact ⟨fun hn => (by cases hn),fun _ => bn_ ..⟩
   ·obtain ⟨h1,h2⟩ := Ki hb y hy;exact ⟨fun hn => let ⟨m,k1,k2⟩ := h1 hn; ⟨m,k1,fun z hz => am_ _ (k2 z hz)⟩,fun hn => am_ _ (h2 hn)⟩
  ·cases h
theorem XE.beq_eq {a b : XE} (h : XE.beq a b = true) : a = b := by
 cases a <;> cases b <;> simp only [XE.beq] at h <;> first | rfl | (cases h; done) | rw [aa_ h]
theorem Ty : ∀ {l r : List (XE × St)},Tf l = some r -> ∀ y ∈ l,∃ z ∈ r,z.1 = y.1 /\ ∀ {C w a},SSt E C w y.2 a -> ∃ C',SSt E C' w z.2 a /\ Ext C (nx y.2.sto) w C' (nx z.2.sto) w
 | [],r,h,y,hy => by simp at hy
 | [x],r,h,y,hy => by
  simp only [Tf,ac_] at h; subst h;rw [an_] at hy; subst hy;exact ⟨y,bj_ _,rfl,fun {C w a} st => ⟨C,st,bz_ _ _ _⟩⟩
 | x :: x' :: l,r,h,y,hy => by
  simp only [Tf] at h
  split at h
  ·rename_i z hz
   cases hb : XE.beq x.1 z.1
   ·simp [hb] at h
   ·simp only [hb,cond_true] at h
    split at h
    ·rename_i t ht
     cases h
     rcases ai_.1 hy with rfl | hy
     ·exact ⟨_,bj_ _,rfl,fun {C w a} st => (Tx ht).1 st⟩
     ·obtain ⟨z',k1,k2,k3⟩ := Ty hz y hy;rw [an_] at k1; subst k1;refine ⟨_,bj_ _,(XE.beq_eq hb).trans k2,fun {C w a} st => ?_⟩
      obtain ⟨C₁,q1,q2⟩ := k3 st;obtain ⟨C₂,q3,q4⟩ := (Tx ht).2 q1;exact ⟨C₂,q3,q2.trans q4⟩
    ·cases h
  ·cases h
theorem Wp {id : Nat} : ∀ {l : List (XE × St)} {y : XE × St},y ∈ l -> (y.1 = .exit id /\ (.normal,y.2) ∈ I7 id l) ∨ (y.1 ≠ .exit id /\ y ∈ I7 id l)
 | [],y,h => by simp at h
 | x :: l,y,h => by
  rcases ai_.1 h with rfl | h
  ·obtain ⟨x,s⟩ := y;cases x with
   | normal => exact .inr ⟨by simp,by simp [I7]⟩
   | ret => exact .inr ⟨by simp,by simp [I7]⟩
   | exit j =>
    by_cases hj : j = id
    ·subst hj; exact .inl ⟨rfl,by simp [I7]⟩
    ·exact .inr ⟨by simpa using hj,by simp [I7,Asy hj]⟩
  ·have : ∀ z,z ∈ I7 id l -> z ∈ I7 id (x :: l) := fun z hz => by
    obtain ⟨x,s⟩ := x;cases x <;> simp [I7,hz]
   rcases Wp (id := id) h with ⟨h1,h2⟩ | ⟨h1,h2⟩
   ·exact .inl ⟨h1,this _ h2⟩
   ·exact .inr ⟨h1,this _ h2⟩
theorem Akk {Inv : Ctx -> Nat -> World -> Prop} (fo : ∀ {C N w C' N' w'},Inv C N w -> Ext C N w C' N' w' -> Inv C' N' w') {ro : Option Nat} {m : Nat} {c : Code} {body : St -> Out} (ck : ∀ (C : Ctx) (w : World) (s : St) (a : Act) l,Inv C (nx s.sto) w -> SSt E C w s a -> body s = some l -> c.wpIn (B8 ro) m E.P (H7 E C (nx s.sto) w l) a w) :
  ∀ (n : Nat) (C : Ctx) (w : World) (s : St) (a : Act) (l : List (XE × St)),Inv C (nx s.sto) w -> SSt E C w s a -> Af0 body n s = some l -> ∀ (b : Frame) (k : List Item) (cs : List Frame),b.roundOf = (B8 ro).round -> (B8 ro).fn b.fn -> (B8 ro).room (cs.length + 1 + m) ->
   ∃ e a' w',H7 E C (nx s.sto) w l e a' w' /\ ArrivesIn (Machine.fenced E.P (B8 ro)) E.P (lone (b.atR a (.code c :: .inLoop c :: k)) cs w) b k cs e a' w'
 | 0,_,_,_,_,_,_,_,h,_,_,_,_,_,_ => by simp [Af0] at h
 | n + 1,C,w,s,a,l,hi,st,h,b,k,cs,hro,hb,hr => by
  simp only [Af0] at h
  split at h
  ·rename_i m hm
   obtain ⟨e,a₁,w₁,hq,bu⟩ := ck C w s a m hi st hm b (.inLoop c :: k) cs hro hb hr;obtain ⟨y,hy,C₁,hye,hst,b7⟩ := hq;obtain ⟨b1,b2⟩ := Ki h y hy;obtain ⟨x,s₁⟩ := y;cases x with
   | normal =>
    obtain ⟨m₁,h1,h2⟩ := b1 rfl;subst hye;obtain ⟨e₂,a₂,w₂,hq₂,harr₂⟩ := Akk fo ck n C₁ w₁ s₁ a₁ m₁ (fo hi b7) hst h1 b k cs hro hb hr;exact ⟨e₂,a₂,w₂,hq₂.mono h2 b7,.of_steps (StepsIn.trans bu (.one (fenced_calm hb hr rfl) stepR_inLoop)) harr₂⟩
   | exit id =>
    subst hye
    exact ⟨.exit id,a₁,w₁,⟨_,b2 (by simp),C₁,rfl,hst,b7⟩,.pass (x := .inLoop c) rfl (fun _ _ => .inl (by simp)) bu⟩
   | ret =>
    subst hye
    exact ⟨.ret,a₁,w₁,⟨_,b2 (by simp),C₁,rfl,hst,b7⟩,.pass (x := .inLoop c) rfl (fun _ _ => .inl (by simp)) bu⟩
  ·cases h
theorem K8 {α : Type} : ∀ {l : List (Option α)} {r : List α},Vc l = some r -> ∀ x ∈ l,∃ y ∈ r,x = some y
 | [],r,h,x,hx => by simp at hx
 | x :: l,r,h,z,hz => by
  simp only [Vc] at h
  split at h
  ·rename_i x'
   split at h
   ·rename_i m hm
    cases h
    rcases ai_.1 hz with rfl | hz
    ·exact ⟨x',bn_ ..,rfl⟩
    ·obtain ⟨y,h1,h2⟩ := K8 hm z hz; exact ⟨y,am_ _ h1,h2⟩
   ·cases h
  ·cases h
theorem Ao.none : Ao E (fun _ _ _ => Option.none) := ⟨fun _ _ _ _ _ _ _ _ _ _ _ h => by (cases h),fun _ _ _ _ _ _ _ _ _ _ _ h => by (cases h),fun _ _ _ _ _ _ h => by (cases h)⟩
abbrev do_ := @Ao.none
theorem Agd {ops : Array Oper} {s : St} {a : Act} (st : SSt E C w s a) {l : List St} (h : Anq E ops.toList s = some l) (id : Nat) {ro : Option Nat} {n : Nat} (hnd : ro = none ∨ E4 ops.toList = true) :
  (Code.region id ops false).wpIn (B8 ro) n E.P (H7 E C (nx s.sto) w (l.map fun s' => (.normal,s'))) a w := by
 unfold Anq at h
 split at h
 ·rename_i o r c9
  split at h
  ·rename_i x hop hg
   have hX := Bc st.glob st.tmps x
   split at h
   ·rename_i b heq
    rw [heq] at hX
    split at h
    ·rename_i m ver left cur cw
     split at h
     ·rename_i hv
      have ho : ops[0]? = some o := by rw [← bg_,c9]; rfl
      have hsz : ops.size = r.length + 1 := by rw [← bv_,c9]; rfl
      have hw : Region.wanted o (yielded ops a.tmps) = true := by unfold Region.wanted; rw [hg]
      obtain ⟨y,w₁,bl,b7,d7⟩ := Za (P := E.P) (ty := o.type) st.sim hX cw hv
      have f0 : (execOp a.eval o).run E.P w = .ok (.value y) w₁ := by
       obtain ⟨dst,op,ty,pos,after,guard⟩ := o;simp only at hop; subst hop
       simp [execOp,bl]
      refine wpIn_region ?_;rw [hsz,dn_,cl_];simp only [wpOpsIn,ho];rw [if_pos hw]
      refine Dm (.inr (by rw [hop]; rfl)) ?_
      unfold Oper.wp;rw [f0,Oper.upon_value]
      have hr : ∀ j,r[j]? = ops[0 + 1 + j]? := fun j => by
       rw [← bg_,c9,show 0 + 1 + j = j + 1 by omega]; rfl
      have fin : ∀ (v : AV) (left' : List (Key × AV)) (cur' : Option (Key × AV)) (s' : St),Aec E ops.toList o.dst r s b m ver v left' cur' = some s' -> Sim E.P C w₁ (s.sto.set b (.iter m ver left' cur')) -> R C (nx s.sto) w₁ v y -> s' ∈ l ->
        wpOpsIn (B8 ro) n E.P ops (H7 E C (nx s.sto) w (l.map fun s' => (.normal,s'))) (List.range' (0 + 1) r.length) (a.put o.dst y) w₁ := by
       intro v left' cur' s' hgo hs' hv' hm';unfold Aec at hgo
       split at hgo
       ·rename_i tm htm
        have d8 : Ext C (nx s.sto) w C (nx (s.sto.set b (.iter m ver left' cur'))) w₁ := by rw [Ae]; exact b7
        have st' := st.put (x := y) hs' d8 (by rw [Ae]; exact hv') htm
        refine Lm do_ r (0 + 1) C w₁ _ _ (hnd.imp (fun h => h) fun h => by rw [c9] at h; simp only [E4,dg_,ae_] at h; exact h.2) hr st' hgo fun C₂ w₂ a₂ st₂ e₂ => ?_
        exact ⟨(.normal,s'),ck_ hm',C₂,rfl,st₂,d8.trans e₂⟩
       ·cases hgo
      rcases d7 with ⟨h0,hs',hv'⟩ | ⟨p,hp,hs',hv'⟩
      ·subst h0;simp only at h
       split at h
       ·rename_i s' hgo
        cases h;exact fin _ _ _ s' hgo hs' hv' (bj_ _)
       ·cases h
      ·split at h
       ·simp [Fm] at hp
       ·obtain ⟨s',h1,h2⟩ := K8 h _ (ck_ hp);exact fin _ _ _ s' h2 hs' hv' h1
     ·cases h
    ·cases h
   ·cases h
  ·cases h
 ·cases h
theorem K9 {Inv : Ctx -> Nat -> World -> Prop} (fo : ∀ {C N w C' N' w'},Inv C N w -> Ext C N w C' N' w' -> Inv C' N' w') (hR : Ao E Rr) (hD : F7 E Rr) (lf : Nat) {G : RG} {ro : Option Nat} {n : Nat}
  (hG : ∀ (f : Operand) (ps : Array Tmp) (x y : Code) (C : Ctx) (w : World) (s : St) (a : Act) (l : List (XE × St)),Inv C (nx s.sto) w -> SSt E C w s a -> G f ps x y s = some l -> (Code.rangeFunc f ps x y).wpIn (B8 ro) n E.P (H7 E C (nx s.sto) w l) a w) :
  ∀ (c : Code) (C : Ctx) (w : World) (s : St) (a : Act) (l : List (XE × St)),(ro = none ∨ Hb c = true) -> Inv C (nx s.sto) w -> SSt E C w s a -> Fh E lf Rr G c s = some l -> c.wpIn (B8 ro) n E.P (H7 E C (nx s.sto) w l) a w := by
 intro c
 induction c with
 | skip => intro C w s a l hn hi st h; simp only [Fh,ac_] at h; subst h; exact wpIn_skip ⟨_,bj_ _,C,rfl,st,bz_ _ _ _⟩
 | label n => intro C w s a l hn hi st h; simp only [Fh,ac_] at h; subst h; exact wpIn_label ⟨_,bj_ _,C,rfl,st,bz_ _ _ _⟩
 | exit id => intro C w s a l hn hi st h; simp only [Fh,ac_] at h; subst h; exact wpIn_exit ⟨_,bj_ _,C,rfl,st,bz_ _ _ _⟩
 | ret => intro C w s a l hn hi st h; simp only [Fh,ac_] at h; subst h; exact wpIn_ret ⟨_,bj_ _,C,rfl,st,bz_ _ _ _⟩
 | rangeFunc f ps x y _ _ => intro C w s a l hn hi st h; simp only [Fh] at h; exact hG f ps x y C w s a l hi st h
 | region id ops draw =>
  intro C w s a l hn hi st h;simp only [Fh] at h;cases draw with
  | true =>
   simp only at h
   split at h
   ·rename_i s' hs'; cases h; exact hD ops s s' C w a id ro n st hs'
   ·cases h
  | false =>
   simp only at h
   split at h
   ·split at h
    ·rename_i m hm; cases h; exact Agd st hm id hn
    ·cases h
   ·split at h
    ·rename_i s' hs'
     cases h;refine wpIn_region ?_;rw [dn_,← bv_]
     exact Lm hR ops.toList 0 C w s a hn (fun j => by simp) st hs' fun C₂ w₂ a₂ st₂ e₂ => ⟨_,bj_ _,C₂,rfl,st₂,e₂⟩
    ·cases h
 | seq x y ihx ihy =>
  intro C w s a l hn hi st h;simp only [Fh] at h;simp only [Hb,ae_] at hn
  split at h
  ·rename_i m hm
   refine wpIn_seq (wpIn_mono (ihx C w s a m (hn.imp id (·.1)) hi st hm) fun e a₁ w₁ hq => ?_)
   obtain ⟨z,hz,C₁,hze,hst,b7⟩ := hq;obtain ⟨b1,b2⟩ := Ki h z hz;obtain ⟨x',s₁⟩ := z;subst hze;cases x' with
   | normal =>
    obtain ⟨m₁,h1,h2⟩ := b1 rfl;exact wpIn_mono (ihy C₁ w₁ s₁ a₁ m₁ (hn.imp id (·.2)) (fo hi b7) hst h1) fun e a₂ w₂ hq₂ => hq₂.mono h2 b7
   | exit id => exact ⟨_,b2 (by simp),C₁,rfl,hst,b7⟩
   | ret => exact ⟨_,b2 (by simp),C₁,rfl,hst,b7⟩
  ·cases h
 | cond c x y ihx ihy =>
  intro C w s a l hn hi st h;simp only [Fh] at h;simp only [Hb,ae_] at hn;have hc := Bc st.glob st.tmps c
  split at h
  ·rename_i heq; rw [heq] at hc; unfold R at hc
   exact wpIn_cond_true hc (ihx C w s a l (hn.imp id (·.1)) hi st h)
  ·rename_i heq; rw [heq] at hc; unfold R at hc
   exact wpIn_cond_false hc (ihy C w s a l (hn.imp id (·.2)) hi st h)
  ·cases h
 | block id x ih =>
  intro C w s a l hn hi st h;simp only [Fh] at h
  split at h
  ·rename_i m hm
   cases h;refine wpIn_block (wpIn_mono (ih C w s a m hn hi st hm) fun e a₁ w₁ hq => ?_)
   obtain ⟨z,hz,C₁,hze,hst,b7⟩ := hq;obtain ⟨x',s₁⟩ := z;subst hze
   rcases Wp (id := id) hz with ⟨h1,h2⟩ | ⟨h1,h2⟩
   ·simp only at h1; subst h1;simp only [Kh,Exit.inBlock,if_true];exact ⟨_,h2,C₁,rfl,hst,b7⟩
   ·cases x' with
    | normal => exact ⟨_,h2,C₁,rfl,hst,b7⟩
    | ret => exact ⟨_,h2,C₁,rfl,hst,b7⟩
    | exit j =>
     have hj : j ≠ id := fun hh => h1 (by rw [hh])
     simp only [Kh,Exit.inBlock,if_neg hj];exact ⟨_,h2,C₁,rfl,hst,b7⟩
  ·cases h
 | loop x ih =>
  intro C w s a l hn hi st h;simp only [Fh] at h
  split at h
  ·rename_i m hm
   intro b k cs hro hb hr;obtain ⟨e,a',w',⟨y,hy,C₁,hye,hst,b7⟩,bu⟩ := Akk fo (fun C w s a l => ih C w s a l hn) lf C w s a m hi st hm b k cs hro hb hr
   obtain ⟨z,hz,hze,hzs⟩ := Ty (E := E) h y hy;obtain ⟨C₂,q1,q2⟩ := hzs hst
   exact ⟨e,a',w',⟨z,hz,C₂,by rw [hze]; exact hye,q1,b7.trans q2⟩,.of_steps (.one (fenced_calm hb hr rfl) stepR_loop) bu⟩
  ·cases h
 | scope x ih =>
  intro C w s a l hn hi st h;simp only [Fh] at h;refine Jf (wpIn_mono (ih C w s a l hn hi st h) fun e a₁ w₁ hq => ?_)
  obtain ⟨y,hy,C₁,hye,hst,b7⟩ := hq;obtain ⟨x',s₁⟩ := y;subst hye;cases x' <;> exact ⟨_,hy,C₁,rfl,hst,b7⟩
 | _ => intro C w s a l hn hi st h; simp [Fh] at h
end
end Go.AM
