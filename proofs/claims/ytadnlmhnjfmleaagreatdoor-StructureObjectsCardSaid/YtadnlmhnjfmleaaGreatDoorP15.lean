/- A part of the proof; shortened by program. -/
import Derived.Shelf.Small.Strs
import Derived.Shelf.Sort.Plain
import Derived.Shelf.Slices.In.SortNone
import Derived.Test.YtadnlmhnjfmleaaGreatDoorProg
import Derived.Shelf.Small.Utf8
import Derived.Shelf.Strings.Runes
import Derived.Shelf.GgClosure.StringsRunes
import Derived.Test.YtadnlmhnjfmleaaGreatDoorP14
set_option maxRecDepth 100000
set_option maxHeartbeats 4000000
set_option linter.unusedSimpArgs false
set_option linter.unusedVariables false
namespace Go.AM
open Go
def Ac4 (E : Env) (L : RF) (f : Nat) (args : List AV) (J : Sto) (Post : AV -> Sto -> Prop) : Prop :=
 ∀ (C : Ctx) (w : World) (vs : Array Value),Fj L C (nx J) w -> Sim E.P C w J -> Fo C (nx J) w E -> RL C (nx J) w args vs.toList ->
  Vl E.P f /\ Calls E.P f vs w fun
   | .returned x,w' => ∃ v J' C',Post v J' /\ Sim E.P C' w' J' /\ Ext C (nx J) w C' (nx J') w' /\ R C' (nx J') w' v x
   | _,_ => False
section
variable {E : Env} {L : RF} {nt B : Nat} {ρ : Ad} {J : Sto} {K : Ad -> Sto -> Prop}
theorem As8 {f : Nat} {fn : Func} {c : Code} {args : List AV} {Post : AV -> Sto -> Prop} (hfn : E.P.funcs[f]? = some fn) (cq : (fn.name == "runtime.NumGoroutine") = false) (hc : fn.body = some c) (hle : Nat.ble args.length fn.ntmps = true)
  (h : WFS J -> AV.unds (nx J) args = true -> TIt E L fn.ntmps (nx J) c (Amh (Ae2 E fn (nx J) Post)) (F9 args 0) J) : Ac4 E L f args J Post := by
 intro C w vs hi hs hg bg
 refine ⟨⟨fn,hfn,cq,by rw [hc]; rfl⟩,?_⟩
 refine calls_of_wp_defers hfn hc ?_;have hle := ak_ hle;have st := L8 (E := E) (fn := fn) hs hg bg hle
 have ht : Has (Hw args 0 .e) (F9 args 0) := fun i v hv => by
  rw [Hk];rw [Kp] at hv
  split at hv
  ·rename_i hi; rw [if_pos hi]; exact hv
  ·cases hv
 refine wp_mono (h hs.wfs (RL.unds _ _ bg) C w _ _ hi ht st nl) fun e a' w' he => ?_
 obtain ⟨x,tm',ρ',J₁,C',h1,h2,h3,h4,hB,h5⟩ := he;subst h1;have fin : Ae2 E fn (nx J) Post ρ' J₁ -> Leaves E.P fn a'.tmps (fun
   | .returned x,w' => ∃ v J' C',Post v J' /\ Sim E.P C' w' J' /\ Ext C (nx J) w C' (nx J') w' /\ R C' (nx J') w' v x
   | _,_ => False) a'.defers .returning w' := by
  intro hx;obtain ⟨vs₁,r1,v',J',r2,r3,r4,r5⟩ := hx
  have hds : a'.defers = [] := by
   have hd := h4.dfs;cases hds : a'.defers with
   | nil => rfl
   | cons d ds => rw [hds] at hd; unfold DR at hd; exact hd.elim
  obtain ⟨x,k1,k2⟩ := Eb (fn := fn) h4.sim h4.tmps (Sa h2 r1);rw [hds];exact ⟨x,k1,v',J',_,r5,h4.sim.frz r2,(h5.trans (fg_ C' J' _ w')).top r3,r4.R h4.sim k2⟩
 cases x with
 | normal => exact fin h3
 | ret => exact fin h3
 | exit id => exact h3.elim
theorem Ac5 {ops r : List Oper} {f : Operand} {args : Array Operand} {tys : Array Nat} {dst : Option Nat} {ty : Nat} {pos : String} {after : Array Edge} {k : Nat} {first cap vs full : List AV} {Post : AV -> Sto -> Prop} (hd : B9 nt dst = true)
  (hf : Ai E ρ f = some (.fn (.func k) first cap)) (ha : La E ρ args.toList = some vs) (hl : first ++ vs ++ cap = full) (hc : Ac4 E L k full J Post)
  (kk : ∀ v J',Post v J' -> nx J <= nx J' -> TOI E L nt B ops r K (Dr dst v ρ) J') : TOI E L nt B ops ({ dst := dst,op := .call ⟨.value f,args,tys⟩,type := ty,pos := pos,after := after,guard := none } :: r) K ρ J := by
 intro C w tm a hi ht st hB arr i n QQ bu hr hQ
 have ho : arr[i]? = some { dst := dst,op := .call ⟨.value f,args,tys⟩,type := ty,pos := pos,after := after,guard := none } := by have := hr 0 (by simp); simpa using this.symm
 simp only [ap_,cl_,wpOpsIn,ho];have hw : Region.wanted { dst := dst,op := .call ⟨.value f,args,tys⟩,type := ty,pos := pos,after := after,guard := none } (yielded arr a.tmps) = true := rfl;rw [if_pos hw];refine Dm (ro := none) (.inl rfl) ?_;have hV := Bc st.glob st.tmps f;rw [ht.opd hf] at hV;unfold R at hV;obtain ⟨p,q,hV,hp,hq⟩ := hV;have bg := Dh st.glob st.tmps args.toList;rw [ht.opds ha] at bg
 have bt : RL C (nx J) w full (p ++ args.map a.eval ++ q).toList := by
  subst hl;simp only [cs_,c_];exact (hp.append bg).append hq
 have hi' : Fj L C (nx J) w := hi.ext ((bz_ C B w).top hB);obtain ⟨⟨fn,g1,g2,g3⟩,b8⟩ := hc C w _ hi' st.sim st.glob bt
 have bl : (execOp a.eval { dst := dst,op := .call ⟨.value f,args,tys⟩,type := ty,pos := pos,after := after,guard := none }).run E.P w = .ok (.enter k (p ++ args.map a.eval ++ q)) w := by
  have g2' : fn.name ≠ "runtime.NumGoroutine" := by simpa using g2
  have g3' : fn.body ≠ none := fun hh => by rw [hh] at g3; cases g3
  simp [execOp,resolve,hV,Deferred.ofValue,invoke,callFunc,g1,g2',g3']
 unfold Oper.wp;rw [bl,Oper.upon_enter];refine b8.mono fun e w' he => ?_
 cases e with
 | returned x =>
  obtain ⟨v,J',C',k0,k1,k2,k3⟩ := he;obtain ⟨tm',h1,h2⟩ := C8 (dst := dst) hd ht v
  exact kk v J' k0 k2.next C' w' tm' _ (hi.ext (k2.base hB)) h2 (st.put k1 k2 k3 h1) (bc_ hB k2.next) arr (i + 1) n QQ bu (fun j hj => by have := hr (j + 1) (by simpa using hj); simp only [bi_] at this; rw [this]; congr 1; omega)
   fun C2 w2 a2 tm2 ρ2 J2 q1 q2 q3 qB q4 => hQ C2 w2 a2 tm2 ρ2 J2 q1 q2 q3 qB ((k2.base hB).trans q4)
 | panicked _ => exact he.elim
 | outgrown => exact he.elim
end
theorem As9 {E : Env} (hm : E.P.follows .mixedOrders = true) {Rr : Rec} (hR : Ao E Rr) {ops : Array Oper} {s : St} {d : DS} {C : Ctx} {w : World} {a : Act} (st : SSt E C w s a)
  (c1 : Hv ops (Region.before ops).toList = true) (c2 : Jo ops = true) (c3 : K3 (Region.before ops).toList (Bw E ops.toList 0) = true) (hd : L1 E ops.toList Rr ops.toList ⟨s,[s.sto],[]⟩ = some d)
  (hb : ∀ (j : Nat) (o : Oper) (t : Tr AV) (v : AV),ops[j]? = some o -> d.log.reverse[j]? = some (t,v) -> A5 E o.op = .read -> X6 E ops.toList o t v
   ((d.eps.reverse.drop (Ba (fun e => ((Region.before ops).getD j 0).testBit e) (Bw E ops.toList 0))).take (Ba (fun e => !((Region.before ops).getD e 0).testBit j) (Bw E ops.toList 0) + 1 - Ba (fun e => ((Region.before ops).getD j 0).testBit e) (Bw E ops.toList 0)))) {ro : Option Nat} {n : Nat} {Q : Exit -> Act -> World -> Prop} (hQ : ∀ a' w',H7 E C (nx s.sto) w [(.normal,d.s)] .normal a' w' -> Q .normal a' w') :
  wpAnyIn (B8 ro) n E.P .any ops Q ops.size (Array.replicate ops.size false) a { w with drawn := w.drawn + 1 } := by
 obtain ⟨log,eps,lex,k2,k3,k4,k5⟩ := Kq hd;simp only [eg_,bt_,dd_] at k2 k3;obtain ⟨x1,x2,x3,x4,x5⟩ := Vs lex
 have bn : ops.toList.length = ops.size := by simp
 have hT : ∀ k,k < ops.size -> ∃ o,ops[k]? = some o /\ Hu o.dst (((log.map (·.1) ++ [d.s.tm])[k]?).getD .e) s.nt (((log[k]?).map (·.2)).getD .any) = some (((log.map (·.1) ++ [d.s.tm])[k + 1]?).getD .e) := by
  intro k hk
  have ho : ops.toList[k]? = some ops[k] := by simp [hk]
  obtain ⟨t,v,t₁,Jk,J₁,y1,y2,y3,y4,y5,y6⟩ := x5 k _ ho;have hlt := (ad_.1 y1).1
  refine ⟨ops[k],by simp [hk],?_⟩
  rw [bb_ (by simpa using hlt),az_,y1,y2]
  exact y4
 have lx : Acn E ops Rr s.nt s.tm (Bw E ops.toList 0) (fun k => ((log.map (·.1) ++ [d.s.tm])[k]?).getD .e) (fun k => ((log[k]?).map (·.2)).getD .any) (s.sto :: eps) := by
  refine ⟨c1,rfl,by simp only [ap_,x2,Ma ops.toList 0],c3,fun j o ho => ?_,fun j hj t => ?_,fun j o ho hc => ?_⟩
  ·obtain ⟨t,v,t₁,Jk,J₁,y1,y2,y3,y4,y5,y6⟩ := x5 j o (by simpa using ho)
   have hlt := (ad_.1 y1).1;refine ⟨Jk,J₁,y3,?_,?_,y6⟩
   ·rw [bb_ (by simpa using hlt),az_,y1,y2]; exact y4
   ·rw [bb_ (by simpa using hlt),az_,y1]; exact y5
  ·exact Qm (n := ops.size) (by rw [x3]; rfl) hT j hj t
  ·obtain ⟨t,v,t₁,Jk,J₁,y1,y2,y3,y4,y5,y6⟩ := x5 j o (by simpa using ho)
   have hlt := (ad_.1 y1).1
   have := hb j o t v ho (by rw [k2]; exact y1) hc
   rw [k3] at this
   rw [bb_ (by simpa using hlt),az_,y1]
   exact this
 obtain ⟨t1,t2⟩ := st.sim.same (w' := { w with drawn := w.drawn + 1 }) nl (fun _ _ => rfl) ⟨rfl,rfl⟩
 have ct : ∀ i,(Array.replicate ops.size false).getD i false = false := fun i => by
  rw [ba_,Array.getElem?_replicate]; split <;> rfl
 refine Vu (C₀ := C) (N₀ := nx s.sto) (w₀ := w) (df := s.df) hR lx c2 (fun L m J C' w' a' iv bt => ?_) ops.size _ 0 s.sto C _ a (by simp) (Qo ct) ?_
 ·obtain ⟨z1,z2⟩ := iv.last lx bt
  have hJ : J = d.s.sto := by
   rw [← Ma,← x2,x4] at z1; cases z1; rfl
  subst hJ;refine hQ _ _ ⟨(.normal,d.s),bj_ _,C',rfl,?_,iv.ext⟩
  have hTn : ((log.map (·.1) ++ [d.s.tm])[ops.size]?).getD .e = d.s.tm := by
   rw [← bn,← x1,cb_ (by simp)]; simp
  simp only [hTn] at z2
  exact ⟨z2.sim,z2.glob,z2.tmps,by rw [k4]; exact z2.size,by rw [k5]; exact z2.dfs⟩
 ·refine ⟨fun j hj => ?_,fun k e _ => ?_,rfl,t1,st.glob.ext t2,fun t x hx => ?_,st.size,st.dfs.ext t2,t2⟩
  ·rw [ct] at hj; cases hj
  ·rw [ct]; constructor
   ·intro hh; cases hh
   ·intro hh; omega
  ·refine R.ext t2 _ _ (st.tmps t x ?_);rw [← hx,Ga (k := 0) (ca_ _) fun i _ _ _ => ct i]; rfl
theorem Ak5 {α : Type} {l : List α} {i : Nat} (h : i < l.length) : ∃ a,l[i]? = some a := ⟨_,ao_ h⟩
def Aac : Nat -> List (List Bool)
 | 0 => [[]]
 | n + 1 => (Aac n).flatMap fun l => [false :: l,true :: l]
theorem Aad : ∀ l : List Bool,l ∈ Aac l.length
 | [] => by simp [Aac]
 | b :: l => by
  have := Aad l;simp only [ap_,Aac,List.mem_flatMap]
  exact ⟨l,this,by cases b <;> simp⟩
def Df (ops : List Oper) : List Bool := ops.map fun _ => false
def I9 (ops : List Oper) : List Bool := ops.map fun _ => true
def Aoz (ops : List Oper) (l : List Bool) : Bool := (List.range ops.length).all fun i => !(l[i]?).getD false || (match ops[i]? with | some o => o.after.all fun e => !Region.binds .any e || (l[e.on]?).getD false | none => true)
def Ao0 (ops1 ops2 : List Oper) (l : List Bool) : Bool :=
 l.all id || ((!(Region.ready .any ops1.toArray l.toArray).isEmpty) && decide (Region.ready .any (ops1 ++ ops2).toArray (l ++ Df ops2).toArray = Region.ready .any ops1.toArray l.toArray) && (Region.ready .any ops1.toArray l.toArray).all fun i => Aoz ops1 (l.set i true))
def Aae (ops2 : List Oper) (j : Nat) : List Bool := List.replicate j true ++ List.replicate (ops2.length - j) false
def M8 (ops1 ops2 : List Oper) : Bool :=
 ((ops1 ++ ops2).all fun o => o.guard.isNone) && Aoz ops1 (Df ops1) && ((Aac ops1.length).all fun l => !Aoz ops1 l || Ao0 ops1 ops2 l)
  && ((List.range (ops2.length + 1)).all fun j => decide (Region.ready .any (ops1 ++ ops2).toArray (I9 ops1 ++ Aae ops2 j).toArray = if j < ops2.length then [ops1.length + j] else []))
theorem Amq {F : Fence} {n : Nat} {P : Program} {o : Oper} {a : Act} {w : World} {K K' : Act -> World -> Prop} {Q Q' : Exit -> Act -> World -> Prop} (h : ∀ a w,K a w -> K' a w) (hq : ∀ e a w,e ≠ .normal -> Q e a w -> Q' e a w)
  (hh : o.wpIn F n P a w K Q) : o.wpIn F n P a w K' Q' := by
 have hL : LetsOut Q -> LetsOut Q' := fun ⟨a,w,h⟩ => ⟨a,w,hq _ _ _ (fun e => by cases e) h⟩
 unfold Oper.wpIn at *;refine ⟨hh.1,?_⟩;have hh := hh.2
 generalize (o.semAt F.round a.eval).run P w = r at *
 cases r with
 | ok x w' =>
  cases x <;> simp only [Oper.uponIn] at hh ⊢ <;>
   first
    | exact h _ _ hh
    | exact ⟨hh.1,CallsIn.mono hh.2 (fun e w'' he => by cases e <;> first | exact h _ _ he | exact hL he | exact hq _ _ _ (fun e => by cases e) he)⟩
    | exact ⟨hh.1,RowsIn.mono hh.2 (fun _ _ he => h _ _ he)⟩
    | exact ⟨hh.1,RoundIn.mono hh.2 (fun e w'' he => by cases e <;> first | exact h _ _ he | exact hL he | exact hq _ _ _ (fun e => by cases e) he)⟩
    | exact hh
 | halt x w' => cases x <;> simp only [Oper.uponIn] at hh ⊢ <;> first | exact hh.elim | exact hq _ _ _ (fun e => by cases e) hh | exact hh
section
variable {F : Fence} {n : Nat} {P : Program} {ops1 ops2 : List Oper} {Q Q1 : Exit -> Act -> World -> Prop}
theorem Amr {ops : List Oper} {l : List Bool} {i : Nat} (h : i ∈ Region.ready .any ops.toArray l.toArray) : i < ops.length /\ ∃ o,ops[i]? = some o := by
 unfold Region.ready at h;obtain ⟨h1,h2⟩ := cx_.1 h;have h3 := e_.1 h1;simp only [List.size_toArray] at h3;exact ⟨h3,Ak5 h3⟩
theorem Ajn (hok : M8 ops1 ops2 = true) (hn : ∀ a w,Q1 .normal a w -> wpAnyIn F n P .any (ops1 ++ ops2).toArray Q ops2.length (I9 ops1 ++ Df ops2).toArray a w) (hx : ∀ e a w,e ≠ .normal -> Q1 e a w -> Q e a w) :
  ∀ (k : Nat) (l : List Bool) (a : Act) (w : World),l.length = ops1.length -> Aoz ops1 l = true -> (l.filter (!·)).length = k -> wpAnyIn F n P .any ops1.toArray Q1 k l.toArray a w -> wpAnyIn F n P .any (ops1 ++ ops2).toArray Q (k + ops2.length) (l ++ Df ops2).toArray a w := by
 unfold M8 at hok;simp only [ae_] at hok;obtain ⟨⟨⟨hg,_⟩,hs⟩,_⟩ := hok;intro k
 induction k with
 | zero =>
  intro l a w hl hc hk h
  have bt : l = I9 ops1 := by
   refine List.ext_getElem? fun i => ?_
   unfold I9;rw [az_]
   by_cases hi : i < l.length
   ·obtain ⟨b,hb⟩ := Ak5 hi
    obtain ⟨o,ho⟩ := Ak5 (show i < ops1.length by omega)
    rw [hb,ho];have : l.filter (!·) = [] := ee_.1 hk;rw [List.filter_eq_nil_iff] at this;have := this b (af_ hb);simp only [bl_,Bool.not_eq_false] at this;rw [this]; rfl
   ·rw [List.getElem?_eq_none Om,List.getElem?_eq_none Om]; rfl
  subst bt;rw [be_];exact hn a w h.2
 | succ k ih =>
  intro l a w hl hc hk h
  have hst := br_.1 hs l (by rw [← hl]; exact Aad l)
  rw [hc] at hst;simp only [Bool.not_true,Bool.false_or] at hst;unfold Ao0 at hst
  have hna : l.all id = false := by
   cases hb : l.all id with
   | false => rfl
   | true =>
    rw [br_] at hb
    have : l.filter (!·) = [] := List.filter_eq_nil_iff.2 fun b hbm => by have := hb b hbm; simp only [id] at this; rw [this]; simp
    rw [this] at hk; cases hk
  rw [hna] at hst;simp only [Bool.false_or,ae_,bl_,decide_eq_true_eq,br_] at hst;obtain ⟨⟨s1,s2⟩,s3⟩ := hst;rw [Nat.succ_add];obtain ⟨_,h1⟩ := h;refine ⟨fun he => ?_,fun i hi => ?_⟩
  ·rw [s2] at he; rw [he] at s1; cases s1
  ·rw [s2] at hi;obtain ⟨hil,o,ho⟩ := Amr hi;have h2 := h1 i hi
   have hgo : o.guard = none := by
    have := br_.1 hg o (cu_ _ (af_ ho))
    simpa using this
   have hwa : ∀ y,Region.wanted o y = true := fun y => by unfold Region.wanted; rw [hgo]
   have hlf : l[i]? = some false := by
    unfold Region.ready at hi;have := (cx_.1 hi).2
    obtain ⟨b,hb⟩ := Ak5 (show i < l.length by omega)
    simp only [ae_,bl_] at this;have := this.1;rw [hb];rw [ba_,List.getElem?_toArray,hb] at this
    simpa using this
   unfold wpOpIn at h2 ⊢;rw [List.getElem?_toArray] at h2 ⊢;rw [bb_ hil,ho];rw [ho] at h2;simp only [hwa,if_true] at h2 ⊢;refine Amq (fun a w hh => ?_) hx h2
   have e1 : (l ++ Df ops2).toArray.setIfInBounds i true = (l.set i true ++ Df ops2).toArray := by
    rw [List.setIfInBounds_toArray,List.set_append_left _ _ Om]
   have e2 : l.toArray.setIfInBounds i true = (l.set i true).toArray := by rw [List.setIfInBounds_toArray]
   rw [e1];rw [e2] at hh
   refine ih (l.set i true) a w (by rw [dh_]; exact hl) (s3 i hi) ?_ hh
   have key : ∀ (l : List Bool) (i : Nat),l[i]? = some false -> ((l.set i true).filter (!·)).length + 1 = (l.filter (!·)).length := fun l => by
    induction l with
    | nil => intro i h; simp at h
    | cons b l ihl =>
     intro i h;cases i with
     | zero => simp at h; subst h; simp
     | succ i =>
      have := ihl i (by simpa using h)
      cases b <;> simp [List.set_cons_succ] <;> simpa using this
   have := key l i hlf;omega
theorem Ao1 (hok : M8 ops1 ops2 = true) : ∀ (k j : Nat) (a : Act) (w : World),j + k = ops2.length -> wpOpsIn F n P (ops1 ++ ops2).toArray Q (List.range' (ops1.length + j) k) a w -> wpAnyIn F n P .any (ops1 ++ ops2).toArray Q k (I9 ops1 ++ Aae ops2 j).toArray a w := by
 have hok' := hok;unfold M8 at hok;simp only [ae_] at hok;obtain ⟨_,ht⟩ := hok;have ht := fun j (hj : j < ops2.length + 1) => of_decide_eq_true (br_.1 ht j (e_.2 hj))
 intro k
 induction k with
 | zero =>
  intro j a w hj h;refine ⟨?_,h⟩;rw [ht j Om,if_neg Om]
 | succ k ih =>
  intro j a w hj h;have hr := ht j Om;rw [if_pos Om] at hr
  refine ⟨fun he => (by rw [hr] at he; cases he),fun i hi => ?_⟩
  rw [hr,an_] at hi;subst hi;rw [cl_,wpOpsIn_cons] at h;refine wpOpIn_mono (fun a w hh => ?_) h
  have e1 : (I9 ops1 ++ Aae ops2 j).toArray.setIfInBounds (ops1.length + j) true = (I9 ops1 ++ Aae ops2 (j + 1)).toArray := by
   have hl : (I9 ops1).length = ops1.length := by unfold I9; rw [by_]
   rw [List.setIfInBounds_toArray,List.set_append_right _ _ Om,hl,show ops1.length + j - ops1.length = j by omega]
   congr 2
   unfold Aae
   rw [List.set_append_right _ _ (by simp),cg_,Nat.sub_self,show ops2.length - j = (ops2.length - (j + 1)) + 1 by omega,List.replicate_succ,List.set_cons_zero,List.replicate_succ',bu_]
   rfl
  rw [e1];exact ih (j + 1) a w Om hh
end
theorem Ams {E : Env} {L : RF} {nt B : Nat} {Q : Cz} {ρ : Ad} {J : Sto} {Rr : Rec} {id : Nat} {ops : Array Oper} (ops1 ops2 : List Oper) {anns : List Ann} (c9 : ops.toList = ops1 ++ ops2) (hok : M8 ops1 ops2 = true) (hm : E.P.follows .mixedOrders = true) (hR : Ao E Rr) (ha : Id E ops1.toArray = some anns)
  (h : TD E nt Rr ops1 ops1 (fun ρ' J' eps log => Obl E eps.reverse anns ops1 log.reverse /\ TOI E L nt B ops.toList ops2 (fun ρ J => Q .normal ρ J) ρ' J') ρ J [J] []) : TIt E L nt B (.region id ops true) Q ρ J := by
 intro C w tm a hi ht st hB;obtain ⟨c1,c2,c3,c4⟩ := Ij ha;obtain ⟨d,k1,k2,k3,ρ',log',k4,k5,k6,k7⟩ := h tm [] [] ht trivial;refine (wpIn_wide (n := 0)).1 (wpIn_region_any hm ?_)
 have ii : ops = (ops1 ++ ops2).toArray := by rw [← c9]
 have hsz : ops.size = ops1.length + ops2.length := by rw [ii]; simp
 have ct : (Array.replicate ops.size false) = (Df ops1 ++ Df ops2).toArray := by
  rw [hsz];unfold Df;rw [List.map_const',List.map_const',List.replicate_append_replicate,List.toArray_replicate]
 have ko : (Array.replicate ops1.toArray.size false) = (Df ops1).toArray := by
  unfold Df;rw [List.map_const',List.toArray_replicate]; simp
 have og : Aoz ops1 (Df ops1) = true := by
  unfold M8 at hok;simp only [ae_] at hok;exact hok.1.1.2
 have mb : ∀ a' w',H7 E C (nx J) w [(.normal,d.s)] .normal a' w' -> wpAnyIn Fence.wide 0 E.P .any (ops1 ++ ops2).toArray (Km E nt [] B Q C w) ops2.length (I9 ops1 ++ Df ops2).toArray a' w' := by
  intro a' w' he;obtain ⟨y,hy,C',h1,h2,h3⟩ := he;rw [an_] at hy;subst hy;obtain ⟨⟨tm',nt',df',J'⟩,eps',dl'⟩ := d;simp only at k2 k3;subst k2 k3
  have ht0 : Df ops2 = Aae ops2 0 := by unfold Df Aae; rw [List.map_const']; simp
  rw [ht0];refine Ao1 hok ops2.length 0 a' w' Om ?_
  refine k7 C' w' tm' a' (hi.ext (h3.base hB)) k4 h2 (bc_ hB h3.next) (ops1 ++ ops2).toArray ops1.length 0 (Km E _ [] B Q C w) (by rw [c9]) (fun j hj => by rw [List.getElem?_toArray,cb_ Om]; congr 1; omega) fun C2 w2 a2 tm2 ρ2 J2 q1 q2 q3 qB q4 => ?_
  exact ⟨.normal,tm2,ρ2,J2,C2,rfl,q1,q2,q3,qB,(h3.base hB).trans q4⟩
 have main : wpAnyIn (B8 none) 0 E.P .any ops1.toArray (fun e a' w' => match e with | .normal => wpAnyIn Fence.wide 0 E.P .any (ops1 ++ ops2).toArray (Km E nt [] B Q C w) ops2.length (I9 ops1 ++ Df ops2).toArray a' w' | e => Km E nt [] B Q C w e a' w') ops1.toArray.size (Array.replicate ops1.toArray.size false) a { w with drawn := w.drawn + 1 } := by
  refine As9 hm hR st c1 c2 c3 k1 (fun j o t v ho hl hc hg Jk hJ => ?_) mb
  obtain ⟨ρj,q1,q2⟩ := k5.reverse.get j t v hl
  have ca := Gb (E := E) (b := (Region.before ops1.toArray).toList) (effs := Bw E ops1 0) ops1 0 j o (by simpa using ho)
  rw [← c4] at ca;simp only [be_] at ca
  obtain ⟨J',hto⟩ := k6.get j _ o ρj v ca (by simpa using ho) q1 hc Jk (by simp only [E9]; exact hJ)
  have := hto t q2;refine ⟨J',?_⟩
  have hne : Bv (A5 E o.op) = false := by rw [hc]; rfl
  rw [← I2 (Rr := fun _ _ _ => none) hc]; exact this
 rw [ko] at main
 have jg : ops1.toArray.size = ops1.length := by simp
 rw [jg] at main
 have en := Ajn (F := Fence.wide) (n := 0) (P := E.P) hok (Q := Km E nt [] B Q C w) (Q1 := fun e a' w' => match e with | .normal => wpAnyIn Fence.wide 0 E.P .any (ops1 ++ ops2).toArray (Km E nt [] B Q C w) ops2.length (I9 ops1 ++ Df ops2).toArray a' w' | e => Km E nt [] B Q C w e a' w') (fun a' w' hh => hh) (fun e a' w' he hh => by cases e <;> first | exact absurd rfl he | exact hh) ops1.length (Df ops1) a { w with drawn := w.drawn + 1 } (by unfold Df; simp) og (by unfold Df; simp [List.filter_map]) main
 rw [ct,hsz];rw [ii];exact en
theorem Amt {E : Env} {L : RF} {nt B : Nat} {Q : Cz} {ρ : Ad} {J : Sto} {Rr : Rec} {id : Nat} {ops : Array Oper} (m : Nat) {anns : List Ann} (hok : M8 (ops.toList.take m) (ops.toList.drop m) = true) (hm : E.P.follows .mixedOrders = true) (hR : Ao E Rr) (ha : Id E (ops.toList.take m).toArray = some anns)
  (h : TD E nt Rr (ops.toList.take m) (ops.toList.take m) (fun ρ' J' eps log => Obl E eps.reverse anns (ops.toList.take m) log.reverse /\ TOI E L nt B ops.toList (ops.toList.drop m) (fun ρ J => Q .normal ρ J) ρ' J') ρ J [J] []) : TIt E L nt B (.region id ops true) Q ρ J :=
 Ams _ _ (bx_ m _).symm hok hm hR ha h
end Go.AM
namespace Go.Proofs
open Go.Shelf
def Tryz.lays189_ren : Go.Shelf.Ren := ⟨fun | 189 => 112 | 125 => 151 | 257 => 150 | 128 => 180 | 129 => 181 | 294 => 171 | 295 => 172 | 296 => 173 | 297 => 174 | 298 => 175 | 299 => 176 | 216 => 177 | 300 => 178 | 301 => 179 | 328 => 192 | 329 => 193 | 330 => 194 | 331 => 195 | 332 => 196 | 215 => 197 | 343 => 205 | n => n,fun | 28 => 34 | 3 => 3 | 46 => 110 | 0 => 0 | 51 => 139 | 53 => 142 | 4 => 4 | 183 => 324 | 182 => 323 | 131 => 185 | 5 => 5 | 9 => 9 | 218 => 343 | 222 => 347 | 228 => 356 | 229 => 253 | n => n,fun | n => n⟩
theorem Tryz.lays189 : Go.Proofs.Lays.n189 Tryz.prog Tryz.lays189_ren := by repeat' first | kernel_rfl | (intro w; kernel_rfl) | constructor
open Go.Sort Go.RowKit in
theorem Tryz.slices_Sort_int (blk off cap : Nat) (zs : List Int) (w : World) (hH : Holds (Value.int .i64) w blk off zs.toArray) (om : blk < w.heap.size) (hsz : zs.length < 4611686018427387904) :
  Calls Tryz.prog 112 #[.slice (some ⟨blk,off,none⟩) zs.length cap] w fun e w' =>
   e = .returned (.tuple #[]) /\ ∃ n os,w' = grow (putRow (Value.int .i64) (Sort.ahead w n) blk off (zs.mergeSort fun x y => decide (x <= y)).toArray) os := Any.slices_Sort_int Tryz.lays189 blk off cap zs w hH om hsz
open Go.RowKit Go.Sort in
theorem Tryz.slices_Sort_int_none (p : Option Addr) (cap : Nat) (w : World) :
  Calls Tryz.prog 112 #[.slice p 0 cap] w fun e w' => e = .returned (.tuple #[]) /\ w' = w := Any.slices_Sort_int_none Tryz.lays189 p cap w
end Go.Proofs
namespace Go.Proofs
open Go.Shelf
def Tryz.lays119_ren : Go.Shelf.Ren := ⟨fun | 119 => 214 | n => n,fun | 21 => 21 | 4 => 4 | n => n,fun | n => n⟩
theorem Tryz.lays119 : Go.Proofs.Lays.n119 Tryz.prog Tryz.lays119_ren := by repeat' first | kernel_rfl | (intro w; kernel_rfl) | constructor
theorem Tryz.utf8_ValidRune (r : Int) (w : World) :
  Calls Tryz.prog 214 #[.int .i32 r] w fun e w' => e = .returned (.bool (Lib.validRune r)) /\ w' = w := Any.utf8_ValidRune Tryz.lays119 r w
def Tryz.lays106_ren : Go.Shelf.Ren := ⟨fun | 106 => 184 | 213 => 199 | 265 => 206 | n => n,fun | 9 => 9 | 3 => 3 | n => n,fun | n => n⟩
theorem Tryz.lays106 : Go.Proofs.Lays.n106 Tryz.prog Tryz.lays106_ren := by repeat' first | kernel_rfl | (intro w; kernel_rfl) | constructor
open Go.RowKit in
theorem Tryz.strings_Compare (a b : ByteArray) (w : World) :
  Calls Tryz.prog 184 #[.string a,.string b] w fun e w' => e = .returned (.int .i64 (Lib.compareBytes a.data.toList b.data.toList)) /\ w' = w := Any.strings_Compare Tryz.lays106 a b w
def Tryz.laysGw17_ren : Go.Shelf.Ren := ⟨fun | 17 => 207 | 15 => 210 | 20 => 212 | n => n,fun | 9 => 9 | 23 => 360 | 4 => 4 | 3 => 3 | 0 => 0 | 21 => 21 | n => n,fun | n => n⟩
theorem Tryz.laysGw17 : Go.Proofs.LaysGw.n17 Tryz.prog Tryz.laysGw17_ren := by repeat' first | kernel_rfl | (intro w; kernel_rfl) | constructor
open Go.RowKit Go.Lib in
def Tryz.lays151_ren : Go.Shelf.Ren := ⟨fun | 151 => 209 | 152 => 211 | 137 => 213 | 119 => 214 | 224 => 215 | 225 => 216 | 217 => 217 | 266 => 218 | n => n,fun | 9 => 9 | 21 => 21 | 4 => 4 | 3 => 3 | 5 => 5 | 0 => 0 | 46 => 110 | n => n,fun | n => n⟩
theorem Tryz.lays151 : Go.Proofs.Lays.n151 Tryz.prog Tryz.lays151_ren := by repeat' first | kernel_rfl | (intro w; kernel_rfl) | constructor
open Go.RowKit Go.Lib in
theorem Tryz.strings_ContainsRune_ascii (s : ByteArray) (r : Int) (w : World) (h0 : 0 <= r) (h1 : r < 128) :
  Calls Tryz.prog 209 #[.string s,.int .i32 r] w fun e w' => e = .returned (.bool (decide (0 <= Lib.indexByte s.data.toList r.toNat.toUInt8))) /\ w' = w := Any.strings_ContainsRune_ascii Tryz.lays151 s r w h0 h1
end Go.Proofs
namespace Go.AM
open Go Go.Proofs
instance : Ld 3 1 false := {}
instance : Ok 3 := {}
instance : Ld 4 1 false := {}
instance : Ld 5 1 false := {}
instance : Ok 5 := {}
instance : Ld 9 1 false := {}
instance : Ok 9 := {}
instance : Zi 9 [.str []] := {}
instance : Ok 21 := {}
instance : Ld 22 1 false := {}
instance : Zi 22 [.nil (.slice none 0 0)] := {}
instance : Sl 22 := {}
instance : El 22 1 16 (some [.str []]) := {}
instance : Ld 23 1 false := {}
instance : Sl 23 := {}
instance : El 23 8 168 (some [.str [],.bool false,.nil (.slice none 0 0),.nil (.slice none 0 0),.nil (.slice none 0 0),.nil (.slice none 0 0),.nil (.slice none 0 0),.nil (.slice none 0 0)]) := {}
instance : Ld 25 3 true := {}
instance : Fd 25 0 0 1 false := {}
instance : Fd 25 1 1 1 false := {}
instance : Fd 25 2 2 1 false := {}
instance : Ld 26 1 false := {}
instance : Sl 26 := {}
instance : El 26 2 24 (some [.str [],.int .i64 (0)]) := {}
instance : Ld 27 1 false := {}
instance : Sl 27 := {}
instance : El 27 3 48 (some [.str [],.int .i64 (0),.nil (.slice none 0 0)]) := {}
instance : Ld 29 3 true := {}
instance : Fd 29 0 0 1 false := {}
instance : Fd 29 1 1 1 false := {}
instance : Fd 29 2 2 1 false := {}
instance : Ld 30 1 false := {}
instance : Sl 30 := {}
instance : El 30 2 40 (some [.str [],.nil (.slice none 0 0)]) := {}
instance : Ld 32 2 true := {}
instance : Zi 32 [.str [],.nil (.slice none 0 0)] := {}
instance : Fd 32 0 0 1 false := {}
instance : Fd 32 1 1 1 false := {}
instance : Sl 33 := {}
instance : El 33 3 48 (some [.str [],.int .i64 (0),.nil (.slice none 0 0)]) := {}
instance : Ld 34 1 false := {}
instance : Zi 34 [.nil (.slice none 0 0)] := {}
instance : Sl 34 := {}
instance : El 34 1 8 (some [.int .i64 (0)]) := {}
instance : Ld 40 3 true := {}
instance : Zi 40 [.str [],.int .i64 (0),.nil (.slice none 0 0)] := {}
instance : Fd 40 2 2 1 false := {}
instance : Ok 43 := {}
instance : Ld 46 1 false := {}
instance : Sl 46 := {}
instance : El 46 2 24 (some [.str [],.int .i64 (0)]) := {}
instance : Ld 47 1 false := {}
instance : Sl 47 := {}
instance : El 47 3 48 (some [.str [],.int .i64 (0),.nil (.slice none 0 0)]) := {}
instance : Ld 49 3 true := {}
instance : Zi 49 [.int .i64 (0),.nil (.slice none 0 0),.nil (.slice none 0 0)] := {}
instance : Fd 49 0 0 1 false := {}
instance : Fd 49 1 1 1 false := {}
instance : Fd 49 2 2 1 false := {}
instance : Bd 49 [.int .i64 (0),.nil (.slice none 0 0),.nil (.slice none 0 0)] [(0,1),(1,1),(2,1)] := {}
instance : Sl 51 := {}
instance : El 51 3 48 (some [.str [],.int .i64 (0),.nil (.slice none 0 0)]) := {}
instance : Ld 53 3 true := {}
instance : Zi 53 [.str [],.int .i64 (0),.nil (.slice none 0 0)] := {}
instance : Fd 53 0 0 1 false := {}
instance : Fd 53 1 1 1 false := {}
instance : Fd 53 2 2 1 false := {}
instance : Ld 58 1 false := {}
instance : Sl 58 := {}
instance : El 58 3 48 (some [.str [],.bool false,.nil (.slice none 0 0)]) := {}
instance : Ld 59 1 false := {}
instance : Sl 59 := {}
instance : El 59 2 32 (some [.str [],.str []]) := {}
instance : Ld 61 8 true := {}
instance : Zi 61 [.str [],.bool false,.nil (.slice none 0 0),.nil (.slice none 0 0),.nil (.slice none 0 0),.nil (.slice none 0 0),.nil (.slice none 0 0),.nil (.slice none 0 0)] := {}
instance : Fd 61 0 0 1 false := {}
instance : Fd 61 1 1 1 false := {}
instance : Fd 61 2 2 1 false := {}
instance : Fd 61 3 3 1 false := {}
instance : Fd 61 4 4 1 false := {}
instance : Fd 61 5 5 1 false := {}
instance : Fd 61 6 6 1 false := {}
instance : Fd 61 7 7 1 false := {}
instance : Ld 63 3 true := {}
instance : Zi 63 [.str [],.bool false,.nil (.slice none 0 0)] := {}
instance : Fd 63 0 0 1 false := {}
instance : Fd 63 1 1 1 false := {}
instance : Fd 63 2 2 1 false := {}
instance : Ld 67 1 false := {}
instance : Ld 71 3 true := {}
instance : Zi 71 [.str [],.int .i64 (0),.nil (.slice none 0 0)] := {}
instance : Fd 71 2 2 1 false := {}
instance : Ld 73 1 false := {}
instance : Zi 73 [.nil (.nilFunc)] := {}
instance : Ld 80 1 false := {}
instance : Ld 88 1 false := {}
instance : Ld 90 3 true := {}
instance : Fd 90 0 0 1 false := {}
instance : Fd 90 1 1 1 false := {}
instance : Fd 90 2 2 1 false := {}
instance : Bd 90 [.nil (.pointer none),.nil (.map none),.int .i64 (0)] [(0,1),(1,1),(2,1)] := {}
instance : Ld 93 1 false := {}
instance : Ld 94 1 false := {}
instance : Ld 95 1 false := {}
instance : Ld 97 9 true := {}
instance : Fd 97 0 0 3 true := {}
instance : Fd 97 2 6 1 false := {}
instance : Fd 97 3 7 1 false := {}
instance : Fd 97 4 8 1 false := {}
instance : Bd 97 [.int .i64 (0),.nil (.slice none 0 0),.nil (.slice none 0 0),.nil (.slice none 0 0),.nil (.slice none 0 0),.nil (.slice none 0 0),.nil (.map none),.nil (.map none),.nil (.map none)] [(0,3),(3,3),(6,1),(7,1),(8,1)] := {}
instance : Ld 98 1 false := {}
instance : Sl 98 := {}
instance : El 98 3 40 (some [.str [],.str [],.int .i64 (0)]) := {}
instance : Ld 100 4 true := {}
instance : Zi 100 [.str [],.str [],.nil (.slice none 0 0),.bool false] := {}
instance : Fd 100 0 0 1 false := {}
instance : Fd 100 1 1 1 false := {}
instance : Fd 100 2 2 1 false := {}
instance : Fd 100 3 3 1 false := {}
instance : Bd 100 [.str [],.str [],.nil (.slice none 0 0),.bool false] [(0,1),(1,1),(2,1),(3,1)] := {}
instance : Ld 104 6 true := {}
instance : Zi 104 [.int .i64 (0),.int .i64 (0),.int .i64 (0),.int .i64 (0),.int .i64 (0),.int .i64 (0)] := {}
instance : Ld 107 2 true := {}
instance : Zi 107 [.str [],.int .i64 (0)] := {}
instance : Ld 108 2 true := {}
instance : Zi 108 [.str [],.int .i64 (0)] := {}
instance : Fd 108 0 0 1 false := {}
instance : Fd 108 1 1 1 false := {}
instance : Ld 109 3 true := {}
instance : Zi 109 [.str [],.int .i64 (0),.nil (.slice none 0 0)] := {}
instance : Fd 109 0 0 1 false := {}
instance : Fd 109 1 1 1 false := {}
instance : Fd 109 2 2 1 false := {}
instance : Ld 119 2 true := {}
instance : Ok 119 := {}
instance : Zi 119 [.str [],.str []] := {}
instance : Fd 119 0 0 1 false := {}
instance : Fd 119 1 1 1 false := {}
instance : Ld 122 1 false := {}
instance : Sl 122 := {}
instance : El 122 4 64 (some [.str [],.str [],.nil (.slice none 0 0),.bool false]) := {}
instance : Ld 124 2 true := {}
instance : Zi 124 [.nil (.slice none 0 0),.nil (.slice none 0 0)] := {}
instance : Fd 124 0 0 1 false := {}
instance : Fd 124 1 1 1 false := {}
instance : Bd 124 [.nil (.slice none 0 0),.nil (.slice none 0 0)] [(0,1),(1,1)] := {}
instance : Ld 156 1 false := {}
instance : Ld 158 3 true := {}
instance : Zi 158 [.str [],.str [],.int .i64 (0)] := {}
instance : Fd 158 0 0 1 false := {}
instance : Fd 158 1 1 1 false := {}
instance : Fd 158 2 2 1 false := {}
instance : Bd 158 [.str [],.str [],.int .i64 (0)] [(0,1),(1,1),(2,1)] := {}
instance : Ld 167 1 false := {}
instance : Zi 167 [.nil (.nilFunc)] := {}
instance : Ld 195 2 true := {}
instance : Zi 195 [.str [],.nil (.slice none 0 0)] := {}
instance : Fd 195 1 1 1 false := {}
instance : Bd 195 [.str [],.nil (.slice none 0 0)] [(0,1),(1,1)] := {}
instance : Ld 235 1 false := {}
instance : Ld 236 1 false := {}
instance : Ld 237 1 false := {}
instance : Ld 239 5 true := {}
instance : Fd 239 0 0 1 false := {}
instance : Fd 239 1 1 1 false := {}
instance : Fd 239 2 2 1 false := {}
instance : Fd 239 3 3 1 false := {}
instance : Fd 239 4 4 1 false := {}
instance : Bd 239 [.nil (.map none),.nil (.map none),.nil (.map none),.nil (.map none),.nil (.map none)] [(0,1),(1,1),(2,1),(3,1),(4,1)] := {}
instance : Ld 281 2 true := {}
instance : Zi 281 [.nil (.map none),.nil (.map none)] := {}
instance : Fd 281 0 0 1 false := {}
instance : Fd 281 1 1 1 false := {}
instance : Bd 281 [.nil (.map none),.nil (.map none)] [(0,1),(1,1)] := {}
instance : Ld 296 3 true := {}
instance : Fd 296 0 0 2 true := {}
instance : Fd 296 1 2 1 false := {}
instance : Bd 296 [.nil (.slice none 0 0),.nil (.slice none 0 0),.nil (.map none)] [(0,2),(2,1)] := {}
instance : Sl 309 := {}
instance : El 309 1 24 (some [.nil (.slice none 0 0)]) := {}
instance : Sl 313 := {}
instance : El 313 1 24 (some [.nil (.slice none 0 0)]) := {}
instance : Ld 320 4 true := {}
instance : Zi 320 [.int .i64 (0),.str [],.nil (.slice none 0 0),.nil (.slice none 0 0)] := {}
instance : Fd 320 0 0 1 false := {}
instance : Fd 320 1 1 1 false := {}
instance : Fd 320 2 2 1 false := {}
instance : Fd 320 3 3 1 false := {}
instance : Bd 320 [.int .i64 (0),.str [],.nil (.slice none 0 0),.nil (.slice none 0 0)] [(0,1),(1,1),(2,1),(3,1)] := {}
instance : Sl 321 := {}
instance : El 321 4 72 (some [.int .i64 (0),.str [],.nil (.slice none 0 0),.nil (.slice none 0 0)]) := {}
instance : Sl 333 := {}
instance : El 333 1 1 (some [.int .u8 (0)]) := {}
instance : Ld 334 256 true := {}
instance : Zi 334 (List.replicate 256 (.int .u8 (0))) := {}
instance : Ld 353 4 true := {}
instance : Zi 353 [.str [],.bool false,.int .i64 (0),.int .i64 (0)] := {}
instance : Fd 353 0 0 1 false := {}
instance : Fd 353 1 1 1 false := {}
instance : Fd 353 2 2 1 false := {}
instance : Fd 353 3 3 1 false := {}
theorem st9 : Fb Ew.P 9 = true := Kr
theorem mp88 : mpI Ew.P 88 = some (9,.agg [.str [],.int .i64 (0),.nil (.slice none 0 0)],3,true) := Kr
theorem Lu : mpI Ew.P 93 = some (9,.int .i64 (0),1,false) := Kr
theorem Ao2 : mpI Ew.P 94 = some (9,.agg [.str [],.str [],.nil (.slice none 0 0),.bool false],4,true) := Kr
theorem Ao3 : mpI Ew.P 95 = some (9,.agg [.str [],.int .i64 (0),.nil (.slice none 0 0)],3,true) := Kr
theorem Ak6 : arI Ew.P 104 = some (6,1,false) := Kr
theorem Po : mpI Ew.P 156 = some (9,.agg [.str [],.bool false,.nil (.slice none 0 0)],3,true) := Kr
theorem Uh : mpI Ew.P 184 = some (9,.bool false,1,false) := Kr
theorem Cd : mpI Ew.P 236 = some (9,.bool false,1,false) := Kr
theorem Ac6 : mpI Ew.P 237 = some (9,.str [],1,false) := Kr
theorem Ac7 : mpI Ew.P 242 = some (9,.nil (.map none),1,false) := Kr
theorem Asf : arI Ew.P 244 = some (2,1,false) := Kr
theorem ar334 : arI Ew.P 334 = some (256,1,false) := Kr
theorem Asg : arI Ew.P 354 = some (10,4,true) := Kr
theorem f38 (p : Fr -> Bool) (l : List Fr) (k : Nat) (cap : List AV) (J : Sto) (hb : l.length < 4611686018427387904) (hk : ∀ a ∈ l,Aq Ew k ([.agg (eF a)] ++ cap) J fun v J' => v = .bool (p a) /\ J' = J) :
  Cv 38 [slV eF 8 l,.fn (.func k) [] cap] J (iV (Ap p l 0)) := by
 refine Ak Tryz.func38 rfl rfl fun hw hu => ?_
 refine G12 ?_;refine Bh l.length (fun i => [(0,slV eF 8 l),(1,.fn (.func k) [] cap),(7,iV (.ofNat l.length)),(8,iV (.ofNat i))]) (fun i J' => J' = J /\ Ap p l 0 = Ap p (l.drop i) i) SL ⟨rfl,rfl⟩ ?_
 rintro i J' hi ⟨rfl,hf⟩;refine G5 ?_;refine Ab rfl ?_ ?_ <;> intro h
 ·have hlt : i < l.length := by simpa using h
  obtain ⟨a,ha⟩ : ∃ a,l[i]? = some a := ⟨_,ao_ hlt⟩
  have hd : l.drop i = a :: l.drop (i + 1) := by
   obtain ⟨h1,rfl⟩ := ad_.1 ha;exact ay_ h1
  iterate 14 refine G ?_
  refine O1 (Ah ldC rfl rfl (B4 ((fun _ => rfl : ∀ a,(eF a).length = 8) a) _)) ?_
  refine Bu rfl rfl rfl rfl (hk a (af_ ha)) ?_;rintro _ _ ⟨rfl,rfl⟩;refine G ?_;refine Ab rfl (fun h' => ?_) (fun h' => ?_)
  ·refine G6 ?_;refine ⟨_,rfl,iV (.ofNat i),_,ag_ hw nl (fun _ _ => rfl),nl,.same rfl,?_,rfl⟩
   rw [hf,hd]; simp only [Ap,h',cond_true]
  ·refine G2 ?_;refine O1 (Ek (p := i) (q := 1) okC rfl rfl Om) ?_;refine G2 ?_;refine ⟨hlt,SL,rfl,?_⟩;rw [hf,hd]; simp only [Ap,h',cond_false]
 ·have hge : l.length <= i := by simpa using h
  refine G6 ?_;refine ⟨_,rfl,iV (-1),_,ag_ hw nl (fun _ _ => rfl),nl,.same rfl,?_,rfl⟩
  rw [hf,ah_ hge]; rfl
theorem f15 (p : Fr -> Bool) (l : List Fr) (k : Nat) (cap : List AV) (J : Sto) (hb : l.length < 4611686018427387904) (hk : ∀ a ∈ l,Aq Ew k ([.agg (eF a)] ++ cap) J fun v J' => v = .bool (p a) /\ J' = J) :
  Cv 15 [slV eF 8 l,.fn (.func k) [] cap] J (.bool (l.any p)) := by
 refine Ak Tryz.func15 rfl rfl fun hw _ => ?_
 refine G8 ?_;refine Bu rfl rfl rfl rfl (f38 p l k cap J hb hk) ?_;rintro _ _ ⟨rfl,rfl⟩;refine G4 ?_;refine A2 hw rfl ?_;exact congrArg AV.bool (D2 l)
theorem f39 (p : Hp -> Bool) (l : List Hp) (k : Nat) (cap : List AV) (J : Sto) (hb : l.length < 4611686018427387904) (hk : ∀ a ∈ l,Aq Ew k ([.agg (eH a)] ++ cap) J fun v J' => v = .bool (p a) /\ J' = J) :
  Cv 39 [slV eH 3 l,.fn (.func k) [] cap] J (iV (Ap p l 0)) := by
 refine Ak Tryz.func39 rfl rfl fun hw hu => ?_
 refine G12 ?_;refine Bh l.length (fun i => [(0,slV eH 3 l),(1,.fn (.func k) [] cap),(7,iV (.ofNat l.length)),(8,iV (.ofNat i))]) (fun i J' => J' = J /\ Ap p l 0 = Ap p (l.drop i) i) SL ⟨rfl,rfl⟩ ?_
 rintro i J' hi ⟨rfl,hf⟩;refine G5 ?_;refine Ab rfl ?_ ?_ <;> intro h
 ·have hlt : i < l.length := by simpa using h
  obtain ⟨a,ha⟩ : ∃ a,l[i]? = some a := ⟨_,ao_ hlt⟩
  have hd : l.drop i = a :: l.drop (i + 1) := by
   obtain ⟨h1,rfl⟩ := ad_.1 ha;exact ay_ h1
  iterate 14 refine G ?_
  refine O1 (Ah ldC rfl rfl (B4 ((fun _ => rfl : ∀ a,(eH a).length = 3) a) _)) ?_
  refine Bu rfl rfl rfl rfl (hk a (af_ ha)) ?_;rintro _ _ ⟨rfl,rfl⟩;refine G ?_;refine Ab rfl (fun h' => ?_) (fun h' => ?_)
  ·refine G6 ?_;refine ⟨_,rfl,iV (.ofNat i),_,ag_ hw nl (fun _ _ => rfl),nl,.same rfl,?_,rfl⟩
   rw [hf,hd]; simp only [Ap,h',cond_true]
  ·refine G2 ?_;refine O1 (Ek (p := i) (q := 1) okC rfl rfl Om) ?_;refine G2 ?_;refine ⟨hlt,SL,rfl,?_⟩;rw [hf,hd]; simp only [Ap,h',cond_false]
 ·have hge : l.length <= i := by simpa using h
  refine G6 ?_;refine ⟨_,rfl,iV (-1),_,ag_ hw nl (fun _ _ => rfl),nl,.same rfl,?_,rfl⟩
  rw [hf,ah_ hge]; rfl
theorem f18 (p : Hp -> Bool) (l : List Hp) (k : Nat) (cap : List AV) (J : Sto) (hb : l.length < 4611686018427387904) (hk : ∀ a ∈ l,Aq Ew k ([.agg (eH a)] ++ cap) J fun v J' => v = .bool (p a) /\ J' = J) :
  Cv 18 [slV eH 3 l,.fn (.func k) [] cap] J (.bool (l.any p)) := by
 refine Ak Tryz.func18 rfl rfl fun hw _ => ?_
 refine G8 ?_;refine Bu rfl rfl rfl rfl (f39 p l k cap J hb hk) ?_;rintro _ _ ⟨rfl,rfl⟩;refine G4 ?_;refine A2 hw rfl ?_;exact congrArg AV.bool (D2 l)
theorem f40 (p : Str -> Bool) (l : List Str) (k : Nat) (cap : List AV) (J : Sto) (hb : l.length < 4611686018427387904) (hk : ∀ a ∈ l,Aq Ew k ([sV a] ++ cap) J fun v J' => v = .bool (p a) /\ J' = J) :
  Cv 40 [slV (fun s => [sV s]) 1 l,.fn (.func k) [] cap] J (iV (Ap p l 0)) := by
 refine Ak Tryz.func40 rfl rfl fun hw hu => ?_
 refine G12 ?_;refine Bh l.length (fun i => [(0,slV (fun s => [sV s]) 1 l),(1,.fn (.func k) [] cap),(7,iV (.ofNat l.length)),(8,iV (.ofNat i))]) (fun i J' => J' = J /\ Ap p l 0 = Ap p (l.drop i) i) SL ⟨rfl,rfl⟩ ?_
 rintro i J' hi ⟨rfl,hf⟩;refine G5 ?_;refine Ab rfl ?_ ?_ <;> intro h
 ·have hlt : i < l.length := by simpa using h
  obtain ⟨a,ha⟩ : ∃ a,l[i]? = some a := ⟨_,ao_ hlt⟩
  have hd : l.drop i = a :: l.drop (i + 1) := by
   obtain ⟨h1,rfl⟩ := ad_.1 ha;exact ay_ h1
  iterate 15 refine G ?_
  refine Bu rfl rfl rfl rfl (hk a (af_ ha)) ?_;rintro _ _ ⟨rfl,rfl⟩;refine G ?_;refine Ab rfl (fun h' => ?_) (fun h' => ?_)
  ·refine G6 ?_;refine ⟨_,rfl,iV (.ofNat i),_,ag_ hw nl (fun _ _ => rfl),nl,.same rfl,?_,rfl⟩
   rw [hf,hd]; simp only [Ap,h',cond_true]
  ·refine G2 ?_;refine O1 (Ek (p := i) (q := 1) okC rfl rfl Om) ?_;refine G2 ?_;refine ⟨hlt,SL,rfl,?_⟩;rw [hf,hd]; simp only [Ap,h',cond_false]
 ·have hge : l.length <= i := by simpa using h
  refine G6 ?_;refine ⟨_,rfl,iV (-1),_,ag_ hw nl (fun _ _ => rfl),nl,.same rfl,?_,rfl⟩
  rw [hf,ah_ hge]; rfl
theorem f19 (p : Str -> Bool) (l : List Str) (k : Nat) (cap : List AV) (J : Sto) (hb : l.length < 4611686018427387904) (hk : ∀ a ∈ l,Aq Ew k ([sV a] ++ cap) J fun v J' => v = .bool (p a) /\ J' = J) :
  Cv 19 [slV (fun s => [sV s]) 1 l,.fn (.func k) [] cap] J (.bool (l.any p)) := by
 refine Ak Tryz.func19 rfl rfl fun hw _ => ?_
 refine G8 ?_;refine Bu rfl rfl rfl rfl (f40 p l k cap J hb hk) ?_;rintro _ _ ⟨rfl,rfl⟩;refine G4 ?_;refine A2 hw rfl ?_;exact congrArg AV.bool (D2 l)
theorem f86 (p : Rl -> Bool) (l : List Rl) (k : Nat) (cap : List AV) (J : Sto) (hb : l.length < 4611686018427387904) (hk : ∀ a ∈ l,Aq Ew k ([.agg (eR a)] ++ cap) J fun v J' => v = .bool (p a) /\ J' = J) :
  Cv 86 [slV eR 4 l,.fn (.func k) [] cap] J (iV (Ap p l 0)) := by
 refine Ak Tryz.func86 rfl rfl fun hw hu => ?_
 refine G12 ?_;refine Bh l.length (fun i => [(0,slV eR 4 l),(1,.fn (.func k) [] cap),(7,iV (.ofNat l.length)),(8,iV (.ofNat i))]) (fun i J' => J' = J /\ Ap p l 0 = Ap p (l.drop i) i) SL ⟨rfl,rfl⟩ ?_
 rintro i J' hi ⟨rfl,hf⟩;refine G5 ?_;refine Ab rfl ?_ ?_ <;> intro h
 ·have hlt : i < l.length := by simpa using h
  obtain ⟨a,ha⟩ : ∃ a,l[i]? = some a := ⟨_,ao_ hlt⟩
  have hd : l.drop i = a :: l.drop (i + 1) := by
   obtain ⟨h1,rfl⟩ := ad_.1 ha;exact ay_ h1
  iterate 14 refine G ?_
  refine O1 (Ah ldC rfl rfl (B4 ((fun _ => rfl : ∀ a,(eR a).length = 4) a) _)) ?_
  refine Bu rfl rfl rfl rfl (hk a (af_ ha)) ?_;rintro _ _ ⟨rfl,rfl⟩;refine G ?_;refine Ab rfl (fun h' => ?_) (fun h' => ?_)
  ·refine G6 ?_;refine ⟨_,rfl,iV (.ofNat i),_,ag_ hw nl (fun _ _ => rfl),nl,.same rfl,?_,rfl⟩
   rw [hf,hd]; simp only [Ap,h',cond_true]
  ·refine G2 ?_;refine O1 (Ek (p := i) (q := 1) okC rfl rfl Om) ?_;refine G2 ?_;refine ⟨hlt,SL,rfl,?_⟩;rw [hf,hd]; simp only [Ap,h',cond_false]
 ·have hge : l.length <= i := by simpa using h
  refine G6 ?_;refine ⟨_,rfl,iV (-1),_,ag_ hw nl (fun _ _ => rfl),nl,.same rfl,?_,rfl⟩
  rw [hf,ah_ hge]; rfl
theorem f80 (p : Rl -> Bool) (l : List Rl) (k : Nat) (cap : List AV) (J : Sto) (hb : l.length < 4611686018427387904) (hk : ∀ a ∈ l,Aq Ew k ([.agg (eR a)] ++ cap) J fun v J' => v = .bool (p a) /\ J' = J) :
  Cv 80 [slV eR 4 l,.fn (.func k) [] cap] J (.bool (l.any p)) := by
 refine Ak Tryz.func80 rfl rfl fun hw _ => ?_
 refine G8 ?_;refine Bu rfl rfl rfl rfl (f86 p l k cap J hb hk) ?_;rintro _ _ ⟨rfl,rfl⟩;refine G4 ?_;refine A2 hw rfl ?_;exact congrArg AV.bool (D2 l)
theorem f148 (p : Pt -> Bool) (l : List Pt) (k : Nat) (cap : List AV) (J : Sto) (hb : l.length < 4611686018427387904) (hk : ∀ a ∈ l,Aq Ew k ([.agg (ePt a)] ++ cap) J fun v J' => v = .bool (p a) /\ J' = J) :
  Cv 148 [slV ePt 3 l,.fn (.func k) [] cap] J (iV (Ap p l 0)) := by
 refine Ak Tryz.func148 rfl rfl fun hw hu => ?_
 refine G12 ?_;refine Bh l.length (fun i => [(0,slV ePt 3 l),(1,.fn (.func k) [] cap),(7,iV (.ofNat l.length)),(8,iV (.ofNat i))]) (fun i J' => J' = J /\ Ap p l 0 = Ap p (l.drop i) i) SL ⟨rfl,rfl⟩ ?_
 rintro i J' hi ⟨rfl,hf⟩;refine G5 ?_;refine Ab rfl ?_ ?_ <;> intro h
 ·have hlt : i < l.length := by simpa using h
  obtain ⟨a,ha⟩ : ∃ a,l[i]? = some a := ⟨_,ao_ hlt⟩
  have hd : l.drop i = a :: l.drop (i + 1) := by
   obtain ⟨h1,rfl⟩ := ad_.1 ha;exact ay_ h1
  iterate 14 refine G ?_
  refine O1 (Ah ldC rfl rfl (B4 ((fun _ => rfl : ∀ a,(ePt a).length = 3) a) _)) ?_
  refine Bu rfl rfl rfl rfl (hk a (af_ ha)) ?_;rintro _ _ ⟨rfl,rfl⟩;refine G ?_;refine Ab rfl (fun h' => ?_) (fun h' => ?_)
  ·refine G6 ?_;refine ⟨_,rfl,iV (.ofNat i),_,ag_ hw nl (fun _ _ => rfl),nl,.same rfl,?_,rfl⟩
   rw [hf,hd]; simp only [Ap,h',cond_true]
  ·refine G2 ?_;refine O1 (Ek (p := i) (q := 1) okC rfl rfl Om) ?_;refine G2 ?_;refine ⟨hlt,SL,rfl,?_⟩;rw [hf,hd]; simp only [Ap,h',cond_false]
 ·have hge : l.length <= i := by simpa using h
  refine G6 ?_;refine ⟨_,rfl,iV (-1),_,ag_ hw nl (fun _ _ => rfl),nl,.same rfl,?_,rfl⟩
  rw [hf,ah_ hge]; rfl
theorem f108 (p : Pt -> Bool) (l : List Pt) (k : Nat) (cap : List AV) (J : Sto) (hb : l.length < 4611686018427387904) (hk : ∀ a ∈ l,Aq Ew k ([.agg (ePt a)] ++ cap) J fun v J' => v = .bool (p a) /\ J' = J) :
  Cv 108 [slV ePt 3 l,.fn (.func k) [] cap] J (.bool (l.any p)) := by
 refine Ak Tryz.func108 rfl rfl fun hw _ => ?_
 refine G8 ?_;refine Bu rfl rfl rfl rfl (f148 p l k cap J hb hk) ?_;rintro _ _ ⟨rfl,rfl⟩;refine G4 ?_;refine A2 hw rfl ?_;exact congrArg AV.bool (D2 l)
theorem f200 (p : Pr -> Bool) (l : List Pr) (k : Nat) (cap : List AV) (J : Sto) (hb : l.length < 4611686018427387904) (hk : ∀ a ∈ l,Aq Ew k ([.agg (eP a)] ++ cap) J fun v J' => v = .bool (p a) /\ J' = J) :
  Cv 200 [slV eP 2 l,.fn (.func k) [] cap] J (iV (Ap p l 0)) := by
 refine Ak Tryz.func200 rfl rfl fun hw hu => ?_
 refine G12 ?_;refine Bh l.length (fun i => [(0,slV eP 2 l),(1,.fn (.func k) [] cap),(7,iV (.ofNat l.length)),(8,iV (.ofNat i))]) (fun i J' => J' = J /\ Ap p l 0 = Ap p (l.drop i) i) SL ⟨rfl,rfl⟩ ?_
 rintro i J' hi ⟨rfl,hf⟩;refine G5 ?_;refine Ab rfl ?_ ?_ <;> intro h
 ·have hlt : i < l.length := by simpa using h
  obtain ⟨a,ha⟩ : ∃ a,l[i]? = some a := ⟨_,ao_ hlt⟩
  have hd : l.drop i = a :: l.drop (i + 1) := by
   obtain ⟨h1,rfl⟩ := ad_.1 ha;exact ay_ h1
  iterate 14 refine G ?_
  refine O1 (Ah ldC rfl rfl (B4 ((fun _ => rfl : ∀ a,(eP a).length = 2) a) _)) ?_
  refine Bu rfl rfl rfl rfl (hk a (af_ ha)) ?_;rintro _ _ ⟨rfl,rfl⟩;refine G ?_;refine Ab rfl (fun h' => ?_) (fun h' => ?_)
  ·refine G6 ?_;refine ⟨_,rfl,iV (.ofNat i),_,ag_ hw nl (fun _ _ => rfl),nl,.same rfl,?_,rfl⟩
   rw [hf,hd]; simp only [Ap,h',cond_true]
  ·refine G2 ?_;refine O1 (Ek (p := i) (q := 1) okC rfl rfl Om) ?_;refine G2 ?_;refine ⟨hlt,SL,rfl,?_⟩;rw [hf,hd]; simp only [Ap,h',cond_false]
 ·have hge : l.length <= i := by simpa using h
  refine G6 ?_;refine ⟨_,rfl,iV (-1),_,ag_ hw nl (fun _ _ => rfl),nl,.same rfl,?_,rfl⟩
  rw [hf,ah_ hge]; rfl
end Go.AM
