/- A part of the proof; shortened by program. -/
import Derived.Test.YtadnlmhnjfmleaaGreatDoorP08
set_option maxRecDepth 100000
set_option maxHeartbeats 4000000
set_option linter.unusedSimpArgs false
set_option linter.unusedVariables false
namespace Go.AM
open Go
def T3 (l : Ad) : Tr AV := l.foldr (fun p t => t.put (p.1 + 1) p.1 (some p.2)) .e
def Lq : Ad -> Ad -> Prop
 | [],_ => True
 | (i,v) :: r,ρ => Ad.at ρ i = some v /\ Lq r ρ
theorem Lq.at : ∀ {ρ' ρ : Ad},Lq ρ' ρ -> ∀ i v,Ad.at ρ' i = some v -> Ad.at ρ i = some v
 | [],ρ,_,i,v,h => by simp [Ad.at] at h
 | (j,u) :: r,ρ,h,i,v,hv => by
  obtain ⟨h1,h2⟩ := h;simp only [Ad.at] at hv;cases hb : Nat.beq j i with
  | true => rw [hb] at hv; cases hv; have := aa_ hb; subst this; exact h1
  | false => rw [hb] at hv; exact Lq.at h2 i v hv
theorem Has.subL {tm : Tr AV} {ρ ρ' : Ad} (h : Has tm ρ) (k : Lq ρ' ρ) : Has tm ρ' := fun i v hv => h i v (k.at i v hv)
def Aq (E : Env) (f : Nat) (args : List AV) (J : Sto) (Post : AV -> Sto -> Prop) : Prop :=
 ∀ (C : Ctx) (w : World) (vs : Array Value),Sim E.P C w J -> Fo C (nx J) w E -> RL C (nx J) w args vs.toList ->
  Vl E.P f /\ Calls E.P f vs w fun
   | .returned x,w' => ∃ v J' C',Post v J' /\ Sim E.P C' w' J' /\ Ext C (nx J) w C' (nx J') w' /\ R C' (nx J') w' v x
   | _,_ => False
theorem Aq.mono {E : Env} {f : Nat} {args : List AV} {J : Sto} {Post Post' : AV -> Sto -> Prop} (h : Aq E f args J Post) (k : ∀ v J',Post v J' -> Post' v J') : Aq E f args J Post' := by
 intro C w vs hs hg ha;obtain ⟨h1,h2⟩ := h C w vs hs hg ha;refine ⟨h1,h2.mono fun e w' he => ?_⟩
 cases e with
 | returned x => obtain ⟨v,J',C',k1,k2⟩ := he; exact ⟨v,J',C',k _ _ k1,k2⟩
 | panicked _ => exact he.elim
 | outgrown => exact he.elim
theorem A7.callTo {E : Env} {f : Nat} {g : List AV -> Sto -> Res} (h : A7 E f g) {args : List AV} {J J' : Sto} {v : AV} (hg : g args J = some (v,J')) : Aq E f args J (fun u τ => u = v /\ τ = J') := by
 intro C w vs hs hgl ha;obtain ⟨h1,h2⟩ := h C w J args vs v J' hs hgl ha hg;refine ⟨h1,h2.mono fun e w' he => ?_⟩
 cases e with
 | returned x => obtain ⟨C',k1,k2,k3⟩ := he; exact ⟨v,J',C',⟨rfl,rfl⟩,k1,k2,k3⟩
 | panicked _ => exact he.elim
 | outgrown => exact he.elim
abbrev fh_ := @A7.callTo
open Classical in
noncomputable def Eq : List (Nat × List AV × Sto × AV × Sto) -> Rec
 | [],_,_,_ => none
 | (f,a,s,v,s') :: r,.fn f',a',J => if f' = f /\ a' = a /\ J = s then some (v,s') else Eq r (.fn f') a' J
 | _ :: _,.yl _,_,_ => none
def Acg (E : Env) : List (Nat × List AV × Sto × AV × Sto) -> Prop
 | [] => True
 | (f,a,s,v,s') :: r => Aq E f a s (fun u τ => u = v /\ τ = s') /\ Acg E r
theorem An9 {a : Nat} : ∀ (l : List (Nat × List AV × Sto × AV × Sto)) (x : List AV) (J : Sto),Eq l (.yl a) x J = none
 | [],_,_ => rfl
 | _ :: _,_,_ => rfl
theorem Agk {E : Env} {f' : Nat} : ∀ {l : List (Nat × List AV × Sto × AV × Sto)},Acg E l -> A7 E f' (Eq l (.fn f'))
 | [],_ => fun C w J args vs v J' hs hg ha h => by cases h
 | (f,a,s,v,s') :: r,hk => fun C w J args vs u J' hs hg ha h => by
  simp only [Eq] at h
  split at h
  ·rename_i he
   obtain ⟨rfl,rfl,rfl⟩ := he;cases h;obtain ⟨h1,h2⟩ := hk.1 C w vs hs hg ha;refine ⟨h1,h2.mono fun e w' he => ?_⟩
   cases e with
   | returned x => obtain ⟨v,J',C',⟨rfl,rfl⟩,k1,k2,k3⟩ := he; exact ⟨C',k1,k2,k3⟩
   | panicked _ => exact he.elim
   | outgrown => exact he.elim
  ·exact Agk hk.2 C w J args vs u J' hs hg ha h
theorem Fv {E : Env} {l : List (Nat × List AV × Sto × AV × Sto)} (hk : Acg E l) (hp : ∀ f,E.pu f = true -> False := by intro f h; exact absurd (show false = true from h) (by decide)) : Ao E (Eq l) :=
 ⟨fun _ => Agk hk,fun a C w J args vs v J' hs hg ha h => (by rw [An9] at h; cases h),fun f h => (hp f h).elim⟩
abbrev Cz := XE -> Ad -> Sto -> Prop
def Km (E : Env) (nt : Nat) (df : List (Nat × List AV)) (B : Nat) (Q : Cz) (C : Ctx) (w : World) : Exit -> Act -> World -> Prop := fun e a' w' =>
 ∃ x tm' ρ' J' C',Kh x = e /\ Has tm' ρ' /\ Q x ρ' J' /\ SSt E C' w' ⟨tm',nt,df,J'⟩ a' /\ B <= nx J' /\ Ext C B w C' B w'
def T (E : Env) (nt : Nat) (df : List (Nat × List AV)) (B : Nat) (c : Code) (Q : Cz) (ρ : Ad) (J : Sto) : Prop :=
 ∀ (ro : Option Nat) (n : Nat),(ro = none ∨ Hb c = true) -> ∀ (C : Ctx) (w : World) (tm : Tr AV) (a : Act),Has tm ρ -> SSt E C w ⟨tm,nt,df,J⟩ a -> B <= nx J -> c.wpIn (B8 ro) n E.P (Km E nt df B Q C w) a w
def TO (E : Env) (nt : Nat) (df : List (Nat × List AV)) (B : Nat) (ops r : List Oper) (K : Ad -> Sto -> Prop) (ρ : Ad) (J : Sto) : Prop :=
 ∀ (ro : Option Nat) (n : Nat),(ro = none ∨ E4 r = true) -> ∀ (C : Ctx) (w : World) (tm : Tr AV) (a : Act),Has tm ρ -> SSt E C w ⟨tm,nt,df,J⟩ a -> B <= nx J -> ∀ (arr : Array Oper) (i : Nat) (QQ : Exit -> Act -> World -> Prop) (rest : List Nat),arr.toList = ops -> (∀ j,j < r.length -> r[j]? = arr[i + j]?) ->
  (∀ C' w' a' tm' ρ' J',Has tm' ρ' -> K ρ' J' -> SSt E C' w' ⟨tm',nt,df,J'⟩ a' -> B <= nx J' -> Ext C B w C' B w' -> wpOpsIn (B8 ro) n E.P arr QQ rest a' w') -> wpOpsIn (B8 ro) n E.P arr QQ (List.range' i r.length ++ rest) a w
section
variable {E : Env} {nt B : Nat} {df : List (Nat × List AV)} {Q Q' : Cz} {ρ ρ' : Ad} {J J' : Sto} {K : Ad -> Sto -> Prop}
theorem Km.mono {C : Ctx} {w : World} {e : Exit} {a : Act} {w' : World} (h : Km E nt df B Q C w e a w') (hQ : ∀ x ρ J,Q x ρ J -> Q' x ρ J) : Km E nt df B Q' C w e a w' := by
 obtain ⟨x,tm',ρ',J',C',h1,h2,h3,h4⟩ := h;exact ⟨x,tm',ρ',J',C',h1,h2,hQ _ _ _ h3,h4⟩
theorem Km.from {C C₀ : Ctx} {w w₀ : World} {e : Exit} {a : Act} {w' : World} (h : Km E nt df B Q C w e a w') (hx : Ext C₀ B w₀ C B w) : Km E nt df B Q C₀ w₀ e a w' := by
 obtain ⟨x,tm',ρ',J',C',h1,h2,h3,h4,hB,h5⟩ := h;exact ⟨x,tm',ρ',J',C',h1,h2,h3,h4,hB,hx.trans h5⟩
theorem T.mono {c : Code} (h : T E nt df B c Q ρ J) (hQ : ∀ x ρ J,Q x ρ J -> Q' x ρ J) : T E nt df B c Q' ρ J :=
 fun ro n hn C w tm a ht st hB => wpIn_mono (h ro n hn C w tm a ht st hB) fun e a' w' he => he.mono hQ
theorem T.sub {c : Code} (h : T E nt df B c Q ρ' J) (hs : Lq ρ' ρ) : T E nt df B c Q ρ J :=
 fun ro n hn C w tm a ht st => h ro n hn C w tm a (ht.subL hs) st
theorem T.wp {c : Code} (h : T E nt df B c Q ρ J) (C : Ctx) (w : World) (tm : Tr AV) (a : Act) (ht : Has tm ρ) (st : SSt E C w ⟨tm,nt,df,J⟩ a) (hB : B <= nx J) : c.wp E.P (Km E nt df B Q C w) a w := (wpIn_wide (n := 0)).1 (h none 0 (.inl rfl) C w tm a ht st hB)
theorem Aja (h : Q .normal ρ J) : T E nt df B .skip Q ρ J := fun _ _ _ C w tm a ht st hB => wpIn_skip ⟨.normal,tm,ρ,J,C,rfl,ht,h,st,hB,bz_ _ _ _⟩
theorem Aq4 {n : Nat} (h : Q .normal ρ J) : T E nt df B (.label n) Q ρ J := fun _ _ _ C w tm a ht st hB => wpIn_label ⟨.normal,tm,ρ,J,C,rfl,ht,h,st,hB,bz_ _ _ _⟩
theorem Ajb {n : Nat} (h : Q (.exit n) ρ J) : T E nt df B (.exit n) Q ρ J := fun _ _ _ C w tm a ht st hB => wpIn_exit ⟨.exit n,tm,ρ,J,C,rfl,ht,h,st,hB,bz_ _ _ _⟩
theorem Aoa (h : Q .ret ρ J) : T E nt df B .ret Q ρ J := fun _ _ _ C w tm a ht st hB => wpIn_ret ⟨.ret,tm,ρ,J,C,rfl,ht,h,st,hB,bz_ _ _ _⟩
def Rj (k : Ad -> Sto -> Prop) (Q : Cz) : Cz
 | .normal => k
 | x => Q x
theorem Ach {x y : Code} (h : T E nt df B x (Rj (T E nt df B y Q) Q) ρ J) : T E nt df B (.seq x y) Q ρ J := by
 intro ro n hn C w tm a ht st hB;simp only [Hb,ae_] at hn;refine wpIn_seq (wpIn_mono (h ro n (hn.imp (fun h => h) (·.1)) C w tm a ht st hB) fun e a' w' he => ?_)
 obtain ⟨x',tm',ρ',J',C',h1,h2,h3,h4,hB',h5⟩ := he;subst h1;cases x' with
 | normal => exact wpIn_mono (h3 ro n (hn.imp (fun h => h) (·.2)) C' w' tm' a' h2 h4 hB') fun e a'' w'' he => he.from h5
 | exit id => exact ⟨.exit id,tm',ρ',J',C',rfl,h2,h3,h4,hB',h5⟩
 | ret => exact ⟨.ret,tm',ρ',J',C',rfl,h2,h3,h4,hB',h5⟩
theorem Ab {c : Operand} {x y : Code} {b : Bool} (hc : Ai E ρ c = some (.bool b)) (h1 : b = true -> T E nt df B x Q ρ J) (h2 : b = false -> T E nt df B y Q ρ J) : T E nt df B (.cond c x y) Q ρ J := by
 intro ro n hn C w tm a ht st hB;simp only [Hb,ae_] at hn;have hv := Bc st.glob st.tmps c;rw [ht.opd hc] at hv;unfold R at hv;cases b with
 | true => exact wpIn_cond_true hv (h1 rfl ro n (hn.imp (fun h => h) (·.1)) C w tm a ht st hB)
 | false => exact wpIn_cond_false hv (h2 rfl ro n (hn.imp (fun h => h) (·.2)) C w tm a ht st hB)
def Vn (id : Nat) (Q : Cz) : Cz
 | .exit j => cond (Nat.beq j id) (Q .normal) (Q (.exit j))
 | x => Q x
theorem Ako {id : Nat} {c : Code} (h : T E nt df B c (Vn id Q) ρ J) : T E nt df B (.block id c) Q ρ J := by
 intro ro n hn C w tm a ht st hB;refine wpIn_block (wpIn_mono (h ro n hn C w tm a ht st hB) fun e a' w' he => ?_)
 obtain ⟨x',tm',ρ',J',C',h1,h2,h3,h4,hB',h5⟩ := he;subst h1;cases x' with
 | normal => exact ⟨.normal,tm',ρ',J',C',rfl,h2,h3,h4,hB',h5⟩
 | ret => exact ⟨.ret,tm',ρ',J',C',rfl,h2,h3,h4,hB',h5⟩
 | exit j =>
  simp only [Vn] at h3
  by_cases hj : j = id
  ·subst hj;rw [bm_] at h3;simp only [Kh,Exit.inBlock,if_true];exact ⟨.normal,tm',ρ',J',C',rfl,h2,h3,h4,hB',h5⟩
  ·have hb : Nat.beq j id = false := by cases hb : Nat.beq j id with | true => exact absurd (aa_ hb) hj | false => rfl
   rw [hb] at h3;simp only [Kh,Exit.inBlock,if_neg hj];exact ⟨.exit j,tm',ρ',J',C',rfl,h2,h3,h4,hB',h5⟩
theorem Aq5 {c : Code} (h : T E nt df B c Q ρ J) : T E nt df B (.scope c) Q ρ J := by
 intro ro n hn C w tm a ht st hB;refine Jf (wpIn_mono (h ro n hn C w tm a ht st hB) fun e a' w' he => ?_)
 obtain ⟨x',tm',ρ',J',C',h1,h2,h3,h4,hB',h5⟩ := he;subst h1;cases x' <;> exact ⟨_,tm',ρ',J',C',rfl,h2,h3,h4,hB',h5⟩
theorem As4 {c : Code} (I : Nat -> Ad -> Sto -> Prop) (n : Nat) (h0 : ∃ ρ',Lq ρ' ρ /\ I n ρ' J)
  (hs : ∀ n ρ J,I n ρ J -> T E nt df B c (Rj (fun ρ' J' => ∃ m ρ'',m < n /\ Lq ρ'' ρ' /\ I m ρ'' J') Q) ρ J) : T E nt df B (.loop c) Q ρ J := by
 intro ro m hn;have key : ∀ (n : Nat) (ρ : Ad) (J : Sto),I n ρ J -> ∀ (C : Ctx) (w : World) (tm : Tr AV) (a : Act),Has tm ρ -> SSt E C w ⟨tm,nt,df,J⟩ a -> B <= nx J -> ∀ (b : Frame) (k : List Item) (cs : List Frame),b.roundOf = (B8 ro).round -> (B8 ro).fn b.fn -> (B8 ro).room (cs.length + 1 + m) ->
   ∃ e a' w',Km E nt df B Q C w e a' w' /\ ArrivesIn (Machine.fenced E.P (B8 ro)) E.P (lone (b.atR a (.code c :: .inLoop c :: k)) cs w) b k cs e a' w' := by
  intro n
  induction n using Nat.strongRecOn with
  | _ n ih =>
   intro ρ J hI C w tm a ht st hB b k cs hro hb hr;obtain ⟨e,a₁,w₁,hq,bu⟩ := hs n ρ J hI ro m hn C w tm a ht st hB b (.inLoop c :: k) cs hro hb hr;obtain ⟨x',tm',ρ',J',C',h1,h2,h3,h4,hB',h5⟩ := hq;subst h1;cases x' with
   | normal =>
    obtain ⟨m,ρ'',hm,cc,hI'⟩ := h3;obtain ⟨e₂,a₂,w₂,hq₂,harr₂⟩ := ih m hm ρ'' J' hI' C' w₁ tm' a₁ (h2.subL cc) h4 hB' b k cs hro hb hr;exact ⟨e₂,a₂,w₂,hq₂.from h5,.of_steps (StepsIn.trans bu (.one (fenced_calm hb hr rfl) stepR_inLoop)) harr₂⟩
   | exit id => exact ⟨.exit id,a₁,w₁,⟨_,tm',ρ',J',C',rfl,h2,h3,h4,hB',h5⟩,.pass (x := .inLoop c) rfl (fun _ _ => .inl (by simp)) bu⟩
   | ret => exact ⟨.ret,a₁,w₁,⟨_,tm',ρ',J',C',rfl,h2,h3,h4,hB',h5⟩,.pass (x := .inLoop c) rfl (fun _ _ => .inl (by simp)) bu⟩
 intro C w tm a ht st hB b k cs hro hb hr;obtain ⟨ρ',cc,hI⟩ := h0;obtain ⟨e,a',w',hq,bu⟩ := key n ρ' J hI C w tm a (ht.subL cc) st hB b k cs hro hb hr;exact ⟨e,a',w',hq,.of_steps (.one (fenced_calm hb hr rfl) stepR_loop) bu⟩
theorem Dt {α : Type} {c : Code} (ρI : α -> Ad) (P : α -> Sto -> Prop) (μ : α -> Nat) (a₀ : α) (h0 : Lq (ρI a₀) ρ) (h1 : P a₀ J)
  (hs : ∀ a J,P a J -> T E nt df B c (Rj (fun ρ' J' => ∃ a',μ a' < μ a /\ Lq (ρI a') ρ' /\ P a' J') Q) (ρI a) J) : T E nt df B (.loop c) Q ρ J := by
 refine As4 (fun n ρ J => ∃ a,n = μ a /\ ρ = ρI a /\ P a J) (μ a₀) ⟨ρI a₀,h0,a₀,rfl,rfl,h1⟩ ?_
 rintro n ρ J ⟨a,rfl,rfl,hp⟩;refine (hs a J hp).mono fun x ρ' J' hq => ?_
 cases x with
 | normal => obtain ⟨a',g1,g2,g3⟩ := hq; exact ⟨μ a',ρI a',g1,g2,a',rfl,rfl,g3⟩
 | exit id => exact hq
 | ret => exact hq
theorem Bh {c : Code} (len : Nat) (ρI : Nat -> Ad) (P : Nat -> Sto -> Prop) (h0 : Lq (ρI 0) ρ) (h1 : P 0 J)
  (hs : ∀ i J,i <= len -> P i J -> T E nt df B c (Rj (fun ρ' J' => i < len /\ Lq (ρI (i + 1)) ρ' /\ P (i + 1) J') Q) (ρI i) J) : T E nt df B (.loop c) Q ρ J := by
 refine Dt ρI (fun i J => i <= len /\ P i J) (fun i => len - i) 0 h0 ⟨ca_ _,h1⟩ ?_
 rintro i J ⟨hi,hp⟩;refine (hs i J hi hp).mono fun x ρ' J' hq => ?_
 cases x with
 | normal => obtain ⟨g1,g2,g3⟩ := hq; exact ⟨i + 1,by omega,g2,by omega,g3⟩
 | exit id => exact hq
 | ret => exact hq
theorem C7 {id : Nat} {ops : Array Oper} (h : TO E nt df B ops.toList ops.toList (fun ρ J => Q .normal ρ J) ρ J) : T E nt df B (.region id ops false) Q ρ J := by
 intro ro n hn C w tm a ht st hB;refine wpIn_region ?_;rw [dn_,← bv_]
 have := h ro n hn C w tm a ht st hB ops 0 (Km E nt df B Q C w) [] rfl (fun j _ => by simp) fun C' w' a' tm' ρ' J' h1 h2 h3 h4 h5 => ⟨.normal,tm',ρ',J',C',rfl,h1,h2,h3,h4,h5⟩
 rwa [cn_] at this
theorem Vo {ops : List Oper} (h : K ρ J) : TO E nt df B ops [] K ρ J := by
 intro _ _ _ C w tm a ht st hB arr i QQ rest _ _ hQ;simp only [dr_,gk_,bt_];exact hQ C w a tm ρ J ht h st hB (bz_ _ _ _)
theorem Amg {ops g r : List Oper} (h : TO E nt df B ops g (fun ρ' J' => TO E nt df B ops r K ρ' J') ρ J) : TO E nt df B ops (g ++ r) K ρ J := by
 intro ro n hn C w tm a ht st hB arr i QQ rest bu hr hQ;rw [aw_,← List.range'_append_1,bu_];simp only [E4,List.all_append,ae_] at hn;refine h ro n (hn.imp (fun h => h) (·.1)) C w tm a ht st hB arr i QQ _ bu (fun j hj => ?_) fun C' w' a' tm' ρ' J' h1 h2 h3 h4 h5 => ?_
 ·rw [← hr j (by simp; omega),bb_ hj]
 ·refine h2 ro n (hn.imp (fun h => h) (·.2)) C' w' tm' a' h1 h3 h4 arr (i + g.length) QQ rest bu (fun j hj => ?_) fun C2 w2 a2 tm2 ρ2 J2 q1 q2 q3 qB q4 => hQ C2 w2 a2 tm2 ρ2 J2 q1 q2 q3 qB (h5.trans q4)
  have := hr (g.length + j) (by simp; omega)
  rw [cb_ Om] at this
  rw [show g.length + j - g.length = j by omega] at this
  rw [this]; congr 1; omega
theorem Aob (n : Nat) {ops r : List Oper} (h : TO E nt df B ops (r.take n) (fun ρ' J' => TO E nt df B ops (r.drop n) K ρ' J') ρ J) : TO E nt df B ops r K ρ J := by
 have := Amg h
 rwa [bx_] at this
theorem TO.mono {ops r : List Oper} {K' : Ad -> Sto -> Prop} (h : TO E nt df B ops r K ρ J) (k : ∀ ρ J,K ρ J -> K' ρ J) : TO E nt df B ops r K' ρ J :=
 fun ro n hn C w tm a ht st hB arr i QQ rest h1 h2 hQ => h ro n hn C w tm a ht st hB arr i QQ rest h1 h2 fun C' w' a' tm' ρ' J' q1 q2 => hQ C' w' a' tm' ρ' J' q1 (k _ _ q2)
def Fw : Op -> Bool
 | .defer _ => false
 | _ => true
theorem Ko {ro : Option Nat} {o : Oper} {r : List Oper} (h : ro = none ∨ E4 (o :: r) = true) : Aki ro o.op /\ (ro = none ∨ E4 r = true) := by
 rcases h with h | h
 ·exact ⟨.inl h,.inl h⟩
 ·simp only [E4,dg_,ae_] at h
  exact ⟨.inr (by simpa using h.1),.inr h.2⟩
theorem Rz {ops r : List Oper} {o : Oper} {Rr : Rec} (hR : Ao E Rr) {ρ₁ : Ad} {J₁ : Sto}
  (h : ∀ tm,Has tm ρ -> ∃ tm',Vb E ops o Rr ⟨tm,nt,df,J⟩ = some ⟨tm',nt,df,J₁⟩ /\ Has tm' ρ₁) (k : TO E nt df B ops r K ρ₁ J₁) : TO E nt df B ops (o :: r) K ρ J := by
 intro ro n hn C w tm a ht st hB arr i QQ rest bu hr hQ;obtain ⟨hn1,hn2⟩ := Ko hn;obtain ⟨tm',h1,h2⟩ := h tm ht
 have ho : arr[i]? = some o := by have := hr 0 (by simp); simpa using this.symm
 simp only [ap_,cl_,av_,wpOpsIn,ho]
 have h1' : Vb E arr.toList o Rr ⟨tm,nt,df,J⟩ = some ⟨tm',nt,df,J₁⟩ := by rw [bu]; exact h1
 have := Rw (K := wpOpsIn (B8 ro) n E.P arr QQ (List.range' (i + 1) r.length ++ rest)) (Q := QQ) hR st h1' (ro := ro) (n := n) (hpl := hn1) fun C' w' a' st' e' =>
  k ro n hn2 C' w' tm' a' h2 st' (bc_ hB e'.next) arr (i + 1) QQ rest bu (fun j hj => by have := hr (j + 1) (by simpa using hj); simp only [bi_] at this; rw [this]; congr 1; omega)
   fun C2 w2 a2 tm2 ρ2 J2 q1 q2 q3 qB q4 => hQ C2 w2 a2 tm2 ρ2 J2 q1 q2 q3 qB ((e'.base hB).trans q4)
 rcases this with ⟨h2,h3⟩ | ⟨h2,h3⟩
 ·rw [if_pos h2]; exact h3
 ·rw [if_neg (by rw [h2]; simp)]; exact ⟨fun _ _ => trivial,h3⟩
def Dr : Option Nat -> AV -> Ad -> Ad
 | none,_,ρ => ρ
 | some d,v,ρ => (d,v) :: ρ
def B9 (nt : Nat) : Option Nat -> Bool
 | none => true
 | some d => Nat.blt d nt
theorem C8 {tm : Tr AV} {dst : Option Nat} (hd : B9 nt dst = true) (ht : Has tm ρ) (v : AV) : ∃ tm',Hu dst tm nt v = some tm' /\ Has tm' (Dr dst v ρ) := by
 cases dst with
 | none => exact ⟨tm,rfl,ht⟩
 | some d =>
  refine ⟨tm.put (d + 1) d (some v),?_,ht.put d v⟩;have hd : Nat.blt d nt = true := hd;simp only [Hu,hd,cond_true,Dq]
theorem Qk {ops : List Oper} {o : Oper} {Rr : Rec} {s : St} (hg : B7 ops o s.tm = some true) (hn : Fw o.op = true) :
  Vb E ops o Rr s = match opA E o.op Rr s.tm s.sto with
   | some (v,J) => match Hu o.dst s.tm s.nt v with
    | some tm => some ⟨tm,s.nt,s.df,J⟩
    | none => none
   | none => none := by
 unfold Vb;rw [hg];simp only
 split
 ·rename_i c hc; rw [hc] at hn; simp [Fw] at hn
 ·rfl
theorem Zo {ops r : List Oper} {op : Op} {dst : Option Nat} {ty : Nat} {pos : String} {after : Array Edge} {Rr : Rec} {v : AV} {J₁ : Sto} (hR : Ao E Rr) (hn : Fw op = true) (hd : B9 nt dst = true) (h : A0 E Rr op ρ J v J₁)
  (k : TO E nt df B ops r K (Dr dst v ρ) J₁) : TO E nt df B ops ({ dst := dst,op := op,type := ty,pos := pos,after := after,guard := none } :: r) K ρ J := by
 refine Rz hR (fun tm ht => ?_) k
 obtain ⟨tm',h1,h2⟩ := C8 (dst := dst) hd ht v;refine ⟨tm',?_,h2⟩;rw [Qk (s := ⟨tm,nt,df,J⟩) rfl hn];simp only [h tm ht,h1]
theorem Bu {ops r : List Oper} {f : Operand} {args : Array Operand} {tys : Array Nat} {dst : Option Nat} {ty : Nat} {pos : String} {after : Array Edge} {k : Nat} {first cap vs full : List AV} {Post : AV -> Sto -> Prop} (hd : B9 nt dst = true)
  (hf : Ai E ρ f = some (.fn (.func k) first cap)) (ha : La E ρ args.toList = some vs) (hl : first ++ vs ++ cap = full) (hc : Aq E k full J Post)
  (kk : ∀ v J',Post v J' -> TO E nt df B ops r K (Dr dst v ρ) J') : TO E nt df B ops ({ dst := dst,op := .call ⟨.value f,args,tys⟩,type := ty,pos := pos,after := after,guard := none } :: r) K ρ J := by
 intro ro n hn C w tm a ht st hB arr i QQ rest bu hr hQ;obtain ⟨hn1,hn2⟩ := Ko hn
 have ho : arr[i]? = some { dst := dst,op := .call ⟨.value f,args,tys⟩,type := ty,pos := pos,after := after,guard := none } := by have := hr 0 (by simp); simpa using this.symm
 simp only [ap_,cl_,av_,wpOpsIn,ho];have hw : Region.wanted { dst := dst,op := .call ⟨.value f,args,tys⟩,type := ty,pos := pos,after := after,guard := none } (yielded arr a.tmps) = true := rfl;rw [if_pos hw];refine Dm hn1 ?_;have hV := Bc st.glob st.tmps f;rw [ht.opd hf] at hV;unfold R at hV;obtain ⟨p,q,hV,hp,hq⟩ := hV;have bg := Dh st.glob st.tmps args.toList;rw [ht.opds ha] at bg
 have bt : RL C (nx J) w full (p ++ args.map a.eval ++ q).toList := by
  subst hl;simp only [cs_,c_];exact (hp.append bg).append hq
 obtain ⟨⟨fn,g1,g2,g3⟩,b8⟩ := hc C w _ st.sim st.glob bt
 have bl : (execOp a.eval { dst := dst,op := .call ⟨.value f,args,tys⟩,type := ty,pos := pos,after := after,guard := none }).run E.P w = .ok (.enter k (p ++ args.map a.eval ++ q)) w := by
  have g2' : fn.name ≠ "runtime.NumGoroutine" := by simpa using g2
  have g3' : fn.body ≠ none := fun hh => by rw [hh] at g3; cases g3
  simp [execOp,resolve,hV,Deferred.ofValue,invoke,callFunc,g1,g2',g3']
 unfold Oper.wp;rw [bl,Oper.upon_enter];refine b8.mono fun e w' he => ?_
 cases e with
 | returned x =>
  obtain ⟨v,J',C',k0,k1,k2,k3⟩ := he;obtain ⟨tm',h1,h2⟩ := C8 (dst := dst) hd ht v
  exact kk v J' k0 ro n hn2 C' w' tm' _ h2 (st.put k1 k2 k3 h1) (bc_ hB k2.next) arr (i + 1) QQ rest bu (fun j hj => by have := hr (j + 1) (by simpa using hj); simp only [bi_] at this; rw [this]; congr 1; omega)
   fun C2 w2 a2 tm2 ρ2 J2 q1 q2 q3 qB q4 => hQ C2 w2 a2 tm2 ρ2 J2 q1 q2 q3 qB ((k2.base hB).trans q4)
 | panicked _ => exact he.elim
 | outgrown => exact he.elim
theorem F8 {ops : List Oper} {o oj : Oper} {j d : Nat} {b want : Bool} {tm : Tr AV} (ht : Has tm ρ) (hg : o.guard = some (j,want)) (hj : ops[j]? = some oj) (hd : oj.dst = some d) (hb : Ad.at ρ d = some (.bool b)) : B7 ops o tm = some (cond b want (!want)) := by
 simp only [B7,hg,hj,hd,ht d _ hb]
theorem Zp {ops r : List Oper} {o oj : Oper} {Rr : Rec} {v : AV} {J₁ : Sto} {j d : Nat} {b want : Bool} (hg : o.guard = some (j,want)) (hj : ops[j]? = some oj) (hdj : oj.dst = some d) (hb : Ad.at ρ d = some (.bool b)) (hw : cond b want (!want) = true)
  (hR : Ao E Rr) (hn : Fw o.op = true) (hd : B9 nt o.dst = true) (h : A0 E Rr o.op ρ J v J₁) (k : TO E nt df B ops r K (Dr o.dst v ρ) J₁) : TO E nt df B ops (o :: r) K ρ J := by
 refine Rz hR (fun tm ht => ?_) k
 obtain ⟨tm',h1,h2⟩ := C8 (dst := o.dst) hd ht v;refine ⟨tm',?_,h2⟩
 rw [Qk (s := ⟨tm,nt,df,J⟩) (by rw [F8 ht hg hj hdj hb,hw]) hn]
 simp only [h tm ht,h1]
theorem R0 {ops r : List Oper} {o oj : Oper} {j d : Nat} {b want : Bool} (hg : o.guard = some (j,want)) (hj : ops[j]? = some oj) (hdj : oj.dst = some d) (hb : Ad.at ρ d = some (.bool b)) (hw : cond b want (!want) = false)
  (hd : B9 nt o.dst = true) (k : TO E nt df B ops r K (Dr o.dst An ρ) J) : TO E nt df B ops (o :: r) K ρ J := by
 refine Rz do_ (fun tm ht => ?_) k
 obtain ⟨tm',h1,h2⟩ := C8 (dst := o.dst) hd ht An;refine ⟨tm',?_,h2⟩;unfold Vb;rw [F8 ht hg hj hdj hb,hw];simp only [h1]
end
def F9 : List AV -> Nat -> Ad
 | [],_ => []
 | v :: r,i => (i,v) :: F9 r (i + 1)
theorem Kp : ∀ (l : List AV) (i j : Nat),Ad.at (F9 l i) j = if i <= j /\ j < i + l.length then l[j - i]? else none
 | [],i,j => by simp only [F9,Ad.at]; rw [if_neg (by simp)]
 | x :: r,i,j => by
  simp only [F9,Ad.at,ap_]
  by_cases hj : i = j
  ·subst hj; simp [bm_]
  ·have hb : Nat.beq i j = false := by cases hb : Nat.beq i j with | true => exact absurd (aa_ hb) hj | false => rfl
   rw [hb,cond_false,Kp r (i + 1) j]
   by_cases h1 : i + 1 <= j /\ j < i + 1 + r.length
   ·rw [if_pos h1,if_pos Om,show j - i = (j - (i + 1)) + 1 by omega]; rfl
   ·rw [if_neg h1,if_neg Om]
def T4 (E : Env) (ρ : Ad) (J : Sto) : List ResultVar -> Option (List AV)
 | [] => some []
 | .tmp t :: r => match Ad.at ρ t,T4 E ρ J r with
  | some v,some l => some (v :: l)
  | _,_ => none
 | .cell a t :: r => match Aw E.P t with
  | some ti => match Ad.at ρ a with
   | some (.pr b off) => match J.cells b with
    | some vs => match Be ti.size ti.isAgg (vs.drop off),T4 E ρ J r with
     | some v,some l => some (v :: l)
     | _,_ => none
    | none => none
   | _ => none
  | none => none
theorem Sa {E : Env} {tm : Tr AV} {ρ : Ad} {J : Sto} (ht : Has tm ρ) : ∀ {rs : List ResultVar} {vs : List AV},T4 E ρ J rs = some vs -> Th E.P tm J rs = some vs
 | [],vs,h => h
 | .tmp t :: r,vs,h => by
  simp only [T4] at h
  split at h
  ·rename_i v l hv hl
   cases h;simp only [Th,Yo,ht t v hv,Sa ht hl]
  ·cases h
 | .cell a t :: r,vs,h => by
  simp only [T4] at h
  split at h
  ·rename_i ti hti
   split at h
   ·rename_i b off hb
    split at h
    ·rename_i cs hcs
     split at h
     ·rename_i v l hv hl
      cases h;simp only [Th,Yo,hti,ht a _ hb,hcs,Iz,hv,Sa ht hl]
     ·cases h
    ·cases h
   ·cases h
  ·cases h
def Ae2 (E : Env) (fn : Func) (N : Nat) (Post : AV -> Sto -> Prop) (ρ : Ad) (J : Sto) : Prop :=
 ∃ vs,T4 E ρ J fn.results.toList = some vs /\ ∃ v' J',Hl J J' /\ N <= nx J' /\ Fz J J' (Tk vs) v' /\ Post v' J'
def Amh (K : Ad -> Sto -> Prop) : Cz
 | .normal => K
 | .ret => K
 | .exit _ => fun _ _ => False
theorem callTo {E : Env} {f : Nat} {fn : Func} {c : Code} {args : List AV} {J : Sto} {Post : AV -> Sto -> Prop} (hfn : E.P.funcs[f]? = some fn) (cq : (fn.name == "runtime.NumGoroutine") = false) (hc : fn.body = some c) (hle : Nat.ble args.length fn.ntmps = true)
  (h : WFS J -> AV.unds (nx J) args = true -> T E fn.ntmps [] (nx J) c (Amh (Ae2 E fn (nx J) Post)) (F9 args 0) J) : Aq E f args J Post := by
 intro C w vs hs hg bg
 refine ⟨⟨fn,hfn,cq,by rw [hc]; rfl⟩,?_⟩
 refine calls_of_wp_defers hfn hc ((wpIn_wide (n := 0)).1 ?_);have hle := ak_ hle;have st := L8 (E := E) (fn := fn) hs hg bg hle
 have ht : Has (Hw args 0 .e) (F9 args 0) := fun i v hv => by
  rw [Hk];rw [Kp] at hv
  split at hv
  ·rename_i hi; rw [if_pos hi]; exact hv
  ·cases hv
 refine wpIn_mono (h hs.wfs (RL.unds _ _ bg) none 0 (.inl rfl) C w _ _ ht st nl) fun e a' w' he => ?_
 obtain ⟨x,tm',ρ',J₁,C',h1,h2,h3,h4,hB,h5⟩ := he;subst h1;have fin : Ae2 E fn (nx J) Post ρ' J₁ -> Leaves E.P fn a'.tmps (fun
   | .returned x,w' => ∃ v J' C',Post v J' /\ Sim E.P C' w' J' /\ Ext C (nx J) w C' (nx J') w' /\ R C' (nx J') w' v x
   | _,_ => False) a'.defers .returning w' := by
  intro hx;obtain ⟨vs₁,r1,v',J',r2,r3,r4,r5⟩ := hx
  have hds : a'.defers = [] := by
   have hd := h4.dfs;cases hds : a'.defers with
   | nil => rfl
   | cons d ds => rw [hds] at hd; unfold DR at hd; exact hd.elim
  obtain ⟨x,k1,k2⟩ := Eb (fn := fn) h4.sim h4.tmps (Sa h2 r1);rw [hds];exact ⟨x,k1,v',J',_,r5,h4.sim.frz r2,(h5.trans (fg_ C' J' _ w')).top r3,r4.R h4.sim k2⟩
 cases x with
 | normal => exact fin h3
 | ret => exact fin h3
 | exit id => exact h3.elim
class Abw (E : Env) : Prop where
 ok : ∀ g cs,E.gl g = some cs -> AV.unds 0 cs = true
 lp : E.loops = []
mutual
theorem AV.und_mono {N M : Nat} (h : N <= M) : ∀ (x : AV),AV.und N x = true -> AV.und M x = true
 | .any,_ => rfl
 | .bool _,_ => rfl
 | .int _ _,_ => rfl
 | .str _,_ => rfl
 | .nil _,_ => rfl
 | .flt _ _,_ => rfl
 | .pr a _,k => C6 (aq_ (Fu k) h)
 | .sr a _ _ _ _,k => C6 (aq_ (Fu k) h)
 | .mp a,k => C6 (aq_ (Fu k) h)
 | .it a,k => C6 (aq_ (Fu k) h)
 | .stp a,k => C6 (aq_ (Fu k) h)
 | .yl a,k => C6 (aq_ (Fu k) h)
 | .pv cs,k => AV.unds_mono h cs k
 | .sv cs _ _ _,k => AV.unds_mono h cs k
 | .fn _ p q,k => by simp only [AV.und,ae_] at k ⊢; exact ⟨AV.unds_mono h p k.1,AV.unds_mono h q k.2⟩
 | .ifc _ x,k => AV.und_mono h x k
 | .agg cs,k => AV.unds_mono h cs k
 | .tup cs,k => AV.unds_mono h cs k
theorem AV.unds_mono {N M : Nat} (h : N <= M) : ∀ (l : List AV),AV.unds N l = true -> AV.unds M l = true
 | [],_ => rfl
 | x :: r,k => by simp only [AV.unds,ae_] at k ⊢; exact ⟨AV.und_mono h x k.1,AV.unds_mono h r k.2⟩
end
theorem Fo.frz {E : Env} [Abw E] {C : Ctx} {N : Nat} {w : World} {τ : Sto} (h : Fo C N w E) : Fo (C.keep τ) (nx τ) w E := by
 refine ⟨fun g cs hg => R.cut (C.keep_sub τ) _ _ (AV.unds_mono (ca_ _) cs (Abw.ok g cs hg)) (h.1 g cs hg),fun c P hc => ?_,fun L hL => by rw [Abw.lp] at hL; cases hL⟩
 obtain ⟨h1,h2⟩ := h.2.1 c P hc;refine ⟨fun hh => h1 ?_,h2⟩
 rcases hh with hh | ⟨a,o,hh⟩
 ·exact .inl hh
 ·exact .inr ⟨a,o,(C.keep_sub τ).loc _ _ hh⟩
def T5 (J τ : Sto) : Ad -> Ad -> Prop
 | [],_ => True
 | (i,v') :: r,ρ => (∃ v,Ad.at ρ i = some v /\ Fz J τ v v') /\ T5 J τ r ρ
theorem T5.at {J τ : Sto} : ∀ {ρ' ρ : Ad},T5 J τ ρ' ρ -> ∀ i v',Ad.at ρ' i = some v' -> ∃ v,Ad.at ρ i = some v /\ Fz J τ v v'
 | [],ρ,_,i,v,h => by simp [Ad.at] at h
 | (j,u) :: r,ρ,h,i,v,hv => by
  obtain ⟨h1,h2⟩ := h;simp only [Ad.at] at hv;cases hb : Nat.beq j i with
  | true => rw [hb] at hv; cases hv; have := aa_ hb; subst this; exact h1
  | false => rw [hb] at hv; exact T5.at h2 i v hv
theorem Pf : ∀ (l : Ad) (i : Nat),(T3 l).get i = Ad.at l i
 | [],i => rfl
 | (j,v) :: r,i => by
  show (Tr.put (j + 1) (T3 r) j (some v)).get i = _
  rw [dl_];simp only [Ad.at]
  by_cases h : i = j
  ·subst h; rw [if_pos rfl,bm_,cond_true]
  ·rw [if_neg h]
   have hb : Nat.beq j i = false := by cases hb : Nat.beq j i with | true => exact absurd (aa_ hb).symm h | false => rfl
   rw [hb,cond_false,Pf r i]
theorem Pg (l : Ad) : Has (T3 l) l := fun i v h => by rw [Pf]; exact h
theorem SSt.frz {E : Env} [Abw E] {C : Ctx} {w : World} {tm : Tr AV} {nt : Nat} {J τ : Sto} {a : Act} {ρ ρ' : Ad} (st : SSt E C w ⟨tm,nt,[],J⟩ a) (ht : Has tm ρ) (hf : Hl J τ) (hs : ∀ i v',Ad.at ρ' i = some v' -> ∃ v,Ad.at ρ i = some v /\ Fz J τ v v') :
  SSt E (C.keep τ) w ⟨T3 ρ',nt,[],τ⟩ a := by
 refine ⟨st.sim.frz hf,Fo.frz st.glob,fun i v hv => ?_,st.size,?_⟩
 ·have hv : (T3 ρ').get i = some v := hv;rw [Pf] at hv;obtain ⟨u,h1,h2⟩ := hs i v hv;exact h2.R st.sim (st.tmps i u (ht i u h1))
 ·have := st.dfs;cases hds : a.defers with
  | nil => unfold DR; trivial
  | cons d ds => rw [hds] at this; unfold DR at this; exact this.elim
theorem Akp {E : Env} [Abw E] {nt B : Nat} {c : Code} {Q : Cz} {ρ : Ad} {J : Sto} (τ : Sto) (ρ' : Ad) (hf : Hl J τ) (hB : B <= nx τ) (hs : T5 J τ ρ' ρ) (k : T E nt [] B c Q ρ' τ) : T E nt [] B c Q ρ J :=
 fun ro n hn C w tm a ht st _ => wpIn_mono (k ro n hn (C.keep τ) w _ a (Pg ρ') (st.frz ht hf hs.at) hB) fun e a' w' he => he.from (fg_ C τ B w)
theorem Aoc {E : Env} [Abw E] {nt B : Nat} {ops r : List Oper} {K : Ad -> Sto -> Prop} {ρ : Ad} {J : Sto} (τ : Sto) (ρ' : Ad) (hf : Hl J τ) (hB : B <= nx τ) (hs : ∀ i v',Ad.at ρ' i = some v' -> ∃ v,Ad.at ρ i = some v /\ Fz J τ v v') (k : TO E nt [] B ops r K ρ' τ) : TO E nt [] B ops r K ρ J :=
 fun ro n hn C w tm a ht st _ arr i QQ rest h1 h2 hQ => k ro n hn (C.keep τ) w _ a (Pg ρ') (st.frz ht hf hs) hB arr i QQ rest h1 h2 fun C2 w2 a2 tm2 ρ2 J2 q1 q2 q3 qB q4 => hQ C2 w2 a2 tm2 ρ2 J2 q1 q2 q3 qB ((fg_ C τ B w).trans q4)
theorem noR {E : Env} : Ao E (fun _ _ _ => none) := do_
section
variable {E : Env} {nt B : Nat} {df : List (Nat × List AV)} {ρ ρ' : Ad} {J J' : Sto} {K : Ad -> Sto -> Prop}
theorem Agl {ops r : List Oper} {op : Op} {dst : Option Nat} {ty : Nat} {pos : String} {after : Array Edge} {Pv : AV -> Prop} (hd : B9 nt dst = true)
  (h : ∀ C w tm a,Has tm ρ -> SSt E C w ⟨tm,nt,df,J⟩ a -> ∃ v,Pv v /\ Rv E.P C w J (execOp a.eval { dst := dst,op := op,type := ty,pos := pos,after := after,guard := none }) v J')
  (k : ∀ v,Pv v -> TO E nt df B ops r K (Dr dst v ρ) J') : TO E nt df B ops ({ dst := dst,op := op,type := ty,pos := pos,after := after,guard := none } :: r) K ρ J := by
 intro ro n hn C w tm a ht st hB arr i QQ rest bu hr hQ;obtain ⟨hn1,hn2⟩ := Ko hn
 have ho : arr[i]? = some { dst := dst,op := op,type := ty,pos := pos,after := after,guard := none } := by have := hr 0 (by simp); simpa using this.symm
 simp only [ap_,cl_,av_,wpOpsIn,ho];have hw : Region.wanted { dst := dst,op := op,type := ty,pos := pos,after := after,guard := none } (yielded arr a.tmps) = true := rfl;rw [if_pos hw];refine Dm hn1 ?_;obtain ⟨v,hpv,x,w',C',h1,h2,h3,h4⟩ := h C w tm a ht st;obtain ⟨tm',g1,g2⟩ := C8 (dst := dst) hd ht v;have go : ∀ y,R C' (nx J') w' v y -> wpOpsIn (B8 ro) n E.P arr QQ (List.range' (i + 1) r.length ++ rest) (a.put dst y) w' := fun y hy =>
  k v hpv ro n hn2 C' w' tm' _ g2 (st.put h3 h4 hy g1) (bc_ hB h4.next) arr (i + 1) QQ rest bu (fun j hj => by have := hr (j + 1) (by simpa using hj); simp only [bi_] at this; rw [this]; congr 1; omega)
   fun C2 w2 a2 tm2 ρ2 J2 q1 q2 q3 qB q4 => hQ C2 w2 a2 tm2 ρ2 J2 q1 q2 q3 qB ((h4.base hB).trans q4)
 unfold Oper.wp
 rcases h1 with h1 | ⟨h1,rfl⟩
 ·rw [h1,Oper.upon_value]; exact go x h2
 ·rw [h1,Oper.upon_skip]; exact go undef h2
theorem Aq6 {ops r : List Oper} {op : Op} {dst : Option Nat} {ty : Nat} {pos : String} {after : Array Edge} {v : AV} (hd : B9 nt dst = true)
  (h : ∀ C w tm a,Has tm ρ -> SSt E C w ⟨tm,nt,df,J⟩ a -> Rv E.P C w J (execOp a.eval { dst := dst,op := op,type := ty,pos := pos,after := after,guard := none }) v J')
  (k : TO E nt df B ops r K (Dr dst v ρ) J') : TO E nt df B ops ({ dst := dst,op := op,type := ty,pos := pos,after := after,guard := none } :: r) K ρ J :=
 Agl (Pv := fun u => u = v) hd (fun C w tm a ht st => ⟨v,rfl,h C w tm a ht st⟩) (fun u hu => by subst hu; exact k)
theorem Aod {P : Program} {C : Ctx} {w : World} (hs : Sim P C w J) {t : TypeId} {n : Nat} {x : AV} {X : Value} (hx : R C (nx J) w x X) {cs : List AV} (h : x.cellsN n = some cs) : Hx P C w J (Instr.box t X) (.pv cs) J := by
 obtain ⟨q1,q2,q3,q4⟩ := Hy h hx;have p := Jp w (.cells X.cells t (0,0));obtain ⟨k1,k2⟩ := hs.push p;refine ⟨_,.pointer (some ⟨w.heap.size,0,none⟩),_,C,?_,rfl,k1,k2,?_⟩
 ·unfold Instr.box
  simp [newVar,newRow]
 ·unfold R
  refine ⟨_,_,rfl,fun _ ho => ?_,fl_ p.here (q1.ext k2) q4 fun i v hi => by rwa [be_,← bg_]⟩
  have := hs.own_lt ho; simp at this
theorem Ql {ops r : List Oper} {t : Nat} {x : Operand} {dst : Option Nat} {ty : Nat} {pos : String} {after : Array Edge} {v : AV} {sz : Nat} {agg : Bool} {cs : List AV} (hi : ldI E.P t = some (sz,agg)) (hx : Ai E ρ x = some v) (hc : v.cellsN sz = some cs) (hd : B9 nt dst = true)
  (k : TO E nt df B ops r K (Dr dst (.pv cs) ρ) J) : TO E nt df B ops ({ dst := dst,op := .box t x,type := ty,pos := pos,after := after,guard := none } :: r) K ρ J := by
 refine Aq6 hd (fun C w tm a ht st => ?_) k
 have hv := Bc st.glob st.tmps x;rw [ht.opd hx] at hv;exact .ofRuns (Aod st.sim hv hc)
theorem Zq {ops : List Oper} {t d ty : Nat} {pos : String} {after : Array Edge} {z : List AV} {tm : Tr AV} (hz : zI E.P t = some z) (hd : Nat.blt d nt = true) :
  Vb E ops { dst := some d,op := .alloc t,type := ty,pos := pos,after := after,guard := none } (fun _ _ _ => none) ⟨tm,nt,df,J⟩ = some ⟨tm.put (d + 1) d (some (.pr (nx J) 0)),nt,df,J.new (.cells z)⟩ := by
 rw [Qk (s := ⟨tm,nt,df,J⟩) rfl rfl]
 have : opA E (.alloc t) (fun _ _ _ => none) tm J = some (.pr (nx J) 0,J.new (.cells z)) := by
  unfold zI at hz
  split at hz
  ·rename_i ti hti; simp only [opA,Ar,hti,hz,Yh]
  ·cases hz
 simp only [this,Hu,hd,cond_true,Dq]
theorem Bj {ob : List AV} : (J.new (.cells ob)).cells (nx J) = some ob := by
 unfold Sto.cells; rw [ab_,if_pos rfl]
theorem Cx : ∀ {z l : List AV},l.length = z.length -> setAt z 0 l = some l
 | [],[],_ => rfl
 | x :: z,y :: l,h => by
  have := Cx (z := z) (l := l) (by simpa using h)
  simp only [setAt,this]
 | [],_ :: _,h => by simp at h
 | _ :: _,[],h => by simp at h
theorem Zr {ops r : List Oper} {t d sz : Nat} {agg : Bool} {x : Operand} {ty ty' : Nat} {pos pos' : String} {after after' : Array Edge} {z cs : List AV} {v : AV} (hz : zI E.P t = some z) (hi : ldI E.P t = some (sz,agg)) (hl : Nat.beq z.length sz = true)
  (hx : ∀ u,Ai E ((d,u) :: ρ) x = some v) (hv : Ai E ρ x = some v) (hc : v.cellsN sz = some cs) (hd : Nat.blt d nt = true) [Abw E] (hdf : df = [])
  (k : TO E nt df B ops r K ((d,.pv cs) :: ρ) J) :
  TO E nt df B ops ({ dst := some d,op := .alloc t,type := ty,pos := pos,after := after,guard := none } :: { dst := none,op := .store t (.tmp d) x,type := ty',pos := pos',after := after',guard := none } :: r) K ρ J := by
 subst hdf;intro ro n hn C w tm a ht st hB
 have hcs : cs.length = z.length := by
  have hb := aa_ hl;have hvR := Bc st.glob st.tmps x;rw [ht.opd hv] at hvR;obtain ⟨q1,q2,_⟩ := Hy hc hvR;have := q1.length;rw [hb];unfold AV.cellsN at hc
  split at hc <;> try (cases hc; done)
  ·cases hb' : Nat.beq ‹List AV›.length sz with
   | true => rw [hb'] at hc; cases hc; exact aa_ hb'
   | false => rw [hb'] at hc; cases hc
  ·cases hb' : Nat.beq sz 1 with
   | true => rw [hb'] at hc; cases hc; exact (aa_ hb').symm
   | false => rw [hb'] at hc; cases hc
 have hwf := st.sim.wfs;have gp : ∀ i u,Ad.at ρ i = some u -> AV.und (nx J) u = true := fun i u hu => R.und _ _ (st.tmps i u (ht i u hu))
 have hvu : AV.und (nx J) v = true := by
  have hvR := Bc st.glob st.tmps x;rw [ht.opd hv] at hvR;exact R.und _ _ hvR
 have hcu : AV.unds (nx J) cs = true := by
  unfold AV.cellsN at hc
  split at hc <;> try (cases hc; done)
  ·cases hb' : Nat.beq ‹List AV›.length sz with
   | true => rw [hb'] at hc; cases hc; exact hvu
   | false => rw [hb'] at hc; cases hc
  ·cases hb' : Nat.beq sz 1 with
   | true => rw [hb'] at hc; cases hc; simp only [AV.unds,hvu,cy_]
   | false => rw [hb'] at hc; cases hc
 have key : TO E nt [] B ops ({ dst := some d,op := .alloc t,type := ty,pos := pos,after := after,guard := none } :: { dst := none,op := .store t (.tmp d) x,type := ty',pos := pos',after := after',guard := none } :: r) K ρ J := by
  refine Rz noR (J₁ := J.new (.cells z)) (ρ₁ := (d,.pr (nx J) 0) :: ρ) (fun tm' ht' => ⟨_,Zq hz hd,ht'.put d _⟩) ?_
  refine Zo noR rfl rfl (A6 (vs := z) (vs' := cs) (ad := nx J) (off := 0) (v := v) (cs := cs) hi (by simp [Ai,Ad.at,bm_]) (hx _) hc Bj (Cx hcs)) ?_
  simp only [Dr];refine Aoc J ((d,.pv cs) :: ρ) ?_ hB ?_ k
  ·refine ag_ hwf (by rw [Ae,Ac]; exact fm_ _) fun b hb => ?_
   rw [a_,if_neg Om,ab_,if_neg Om]
  ·intro i u hu;simp only [Ad.at] at hu ⊢;cases hb : Nat.beq d i with
   | true =>
    rw [hb] at hu; simp only [cond_true,ac_] at hu ⊢;subst hu
    refine ⟨_,rfl,.pr (vs := cs) (by rw [a_,if_pos rfl]) ?_ (fy_ hcu)⟩
    cases hg : J.get (nx J) with
    | none => rfl
    | some O => exact absurd (hwf _ _ hg).1 (Nat.lt_irrefl _)
   | false => rw [hb] at hu; exact ⟨u,hu,.same (gp i u hu)⟩
 exact key ro n hn C w tm a ht st hB
def H0 (ρ ρ' : Ad) : Prop := ∀ i v,Ad.at ρ i = some v -> Ad.at ρ' i = some v
theorem H0.refl : H0 ρ ρ := fun _ _ h => h
theorem H0.cons {d : Nat} {v : AV} (hd : Ad.at ρ d = none) (h : H0 ρ ρ') : H0 ρ ((d,v) :: ρ') := fun i u hu => by
 simp only [Ad.at];cases hb : Nat.beq d i with
 | true => have := aa_ hb; subst this; rw [hd] at hu; cases hu
 | false => exact h i u hu
theorem X4 {ops r : List Oper} (h : TO E nt df B ops r K ρ J) (hs : H0 ρ ρ') : TO E nt df B ops r K ρ' J :=
 fun ro n hn C w tm a ht st => h ro n hn C w tm a (fun i v hv => ht i v (hs i v hv)) st
theorem H0.put {d : Nat} {v : AV} (h : H0 ρ ρ') : H0 ((d,v) :: ρ) ((d,v) :: ρ') := fun i u hu => by
 simp only [Ad.at] at hu ⊢;cases hb : Nat.beq d i with
 | true => rw [hb] at hu; exact hu
 | false => rw [hb] at hu; exact h i u hu
theorem L9 {ops : List Oper} {o : Oper} (hg : o.guard = none) : ∀ ρ',H0 ρ ρ' -> ∀ tm,Has tm ρ' -> B7 ops o tm = some true := fun _ _ _ _ => by simp only [B7,hg]
theorem Jq {ops : List Oper} {o oj : Oper} {j d : Nat} {b want : Bool} (hg : o.guard = some (j,want)) (hj : ops[j]? = some oj) (hdj : oj.dst = some d) (hb : Ad.at ρ d = some (.bool b)) (hw : cond b want (!want) = true) :
  ∀ ρ',H0 ρ ρ' -> ∀ tm,Has tm ρ' -> B7 ops o tm = some true := fun ρ' hs tm ht => by rw [F8 ht hg hj hdj (hs _ _ hb),hw]
theorem X5 {ops r : List Oper} {o : Oper} {t : Nat} {c x y : Operand} {v : AV} (hg : ∀ tm,Has tm ρ -> B7 ops o tm = some true) (hop : o.op = .pick c x y) (db : o.dst = some t) (ht : Nat.blt t nt = true)
  (h : A0 E (fun _ _ _ => none) (.pick c x y) ρ J v J) (k : TO E nt df B ops r K ((t,v) :: ρ) J) : TO E nt df B ops (o :: r) K ρ J := by
 refine Rz do_ (fun tm hh => ?_) k
 obtain ⟨tm',h1,h2⟩ := C8 (dst := o.dst) (by rw [db]; exact ht) hh v
 rw [db] at h2;refine ⟨tm',?_,h2⟩
 rw [Qk (s := ⟨tm,nt,df,J⟩) (hg tm hh) (by rw [hop]; rfl),hop]
 simp only [h tm hh,h1]
theorem Ph (n : Nat) (b q : Bool) {ops r r' : List Oper} {o : Oper} {t : Nat} {c x : Operand} (h0 : Ai E ρ c = some (.bool b))
  (hr : r.drop n = o :: r') (hop : o.op = .pick c x (.const (.bool false))) (db : o.dst = some t) (ht : Nat.blt t nt = true) (hg : ∀ ρ',H0 ρ ρ' -> ∀ tm,Has tm ρ' -> B7 ops o tm = some true)
  (hon : b = true -> TO E nt df B ops (r.take n) (fun ρ' J' => J' = J /\ H0 ρ ρ' /\ Ai E ρ' x = some (.bool q)) ρ J)
  (fb : b = false -> TO E nt df B ops (r.take n) (fun ρ' J' => J' = J /\ H0 ρ ρ') ρ J)
  (k : TO E nt df B ops r' K ((t,.bool (b && q)) :: ρ) J) : TO E nt df B ops r K ρ J := by
 refine Aob n ?_;rw [hr]
 have cc : ∀ ρ',H0 ρ ρ' -> Ai E ρ' c = some (.bool b) := fun ρ' hs => by
  cases c with
  | tmp j => exact hs _ _ h0
  | _ => exact h0
 cases b with
 | true =>
  refine (hon rfl).mono fun ρ' J' ⟨h1,h2,h3⟩ => ?_
  subst h1
  exact X5 (hg ρ' h2) hop db ht (E5 (cc ρ' h2) rfl h3) (X4 (by simpa using k) h2.put)
 | false =>
  refine (fb rfl).mono fun ρ' J' ⟨h1,h2⟩ => ?_
  subst h1
  exact X5 (hg ρ' h2) hop db ht (Am (v := .bool false) (cc ρ' h2) rfl rfl) (X4 (by simpa using k) h2.put)
theorem Zt (n : Nat) (b q : Bool) {ops r r' : List Oper} {o : Oper} {t : Nat} {c x : Operand} (h0 : Ai E ρ c = some (.bool b))
  (hr : r.drop n = o :: r') (hop : o.op = .pick c (.const (.bool true)) x) (db : o.dst = some t) (ht : Nat.blt t nt = true) (hg : ∀ ρ',H0 ρ ρ' -> ∀ tm,Has tm ρ' -> B7 ops o tm = some true)
  (hon : b = false -> TO E nt df B ops (r.take n) (fun ρ' J' => J' = J /\ H0 ρ ρ' /\ Ai E ρ' x = some (.bool q)) ρ J)
  (fb : b = true -> TO E nt df B ops (r.take n) (fun ρ' J' => J' = J /\ H0 ρ ρ') ρ J)
  (k : TO E nt df B ops r' K ((t,.bool (b || q)) :: ρ) J) : TO E nt df B ops r K ρ J := by
 refine Aob n ?_;rw [hr]
 have cc : ∀ ρ',H0 ρ ρ' -> Ai E ρ' c = some (.bool b) := fun ρ' hs => by
  cases c with
  | tmp j => exact hs _ _ h0
  | _ => exact h0
 cases b with
 | false =>
  refine (hon rfl).mono fun ρ' J' ⟨h1,h2,h3⟩ => ?_
  subst h1
  exact X5 (hg ρ' h2) hop db ht (Am (cc ρ' h2) rfl h3) (X4 (by simpa using k) h2.put)
 | true =>
  refine (fb rfl).mono fun ρ' J' ⟨h1,h2⟩ => ?_
  subst h1
  exact X5 (hg ρ' h2) hop db ht (E5 (v := .bool true) (cc ρ' h2) rfl rfl) (X4 (by simpa using k) h2.put)
theorem Aq7 {ops r : List Oper} {o oj : Oper} {j d : Nat} {want : Bool} (hg : o.guard = some (j,want)) (hj : ops[j]? = some oj) (hdj : oj.dst = some d) (hb : Ad.at ρ d = some An)
  (hd : B9 nt o.dst = true) (k : TO E nt df B ops r K (Dr o.dst An ρ) J) : TO E nt df B ops (o :: r) K ρ J := by
 refine Rz do_ (fun tm ht => ?_) k
 obtain ⟨tm',h1,h2⟩ := C8 (dst := o.dst) hd ht An;refine ⟨tm',?_,h2⟩
 have : B7 ops o tm = some false := by simp only [B7,hg,hj,hdj,ht d _ hb]; rfl
 unfold Vb;rw [this];simp only [h1]
theorem Aoe {ops r : List Oper} {oj : Oper} {j dj : Nat} {b want : Bool} {f : Operand} {args : Array Operand} {tys : Array Nat} {dst : Option Nat} {ty : Nat} {pos : String} {after : Array Edge} {k : Nat} {first cap vs full : List AV} {Post : AV -> Sto -> Prop}
  (hj : ops[j]? = some oj) (hdj : oj.dst = some dj) (hb : Ad.at ρ dj = some (.bool b)) (hw : cond b want (!want) = true) (hd : B9 nt dst = true)
  (hf : Ai E ρ f = some (.fn (.func k) first cap)) (ha : La E ρ args.toList = some vs) (hl : first ++ vs ++ cap = full) (hc : Aq E k full J Post)
  (kk : ∀ v J',Post v J' -> TO E nt df B ops r K (Dr dst v ρ) J') : TO E nt df B ops ({ dst := dst,op := .call ⟨.value f,args,tys⟩,type := ty,pos := pos,after := after,guard := some (j,want) } :: r) K ρ J := by
 intro ro n hn C w tm a ht st hB arr i QQ rest bu hr hQ;obtain ⟨hn1,hn2⟩ := Ko hn
 have ho : arr[i]? = some { dst := dst,op := .call ⟨.value f,args,tys⟩,type := ty,pos := pos,after := after,guard := some (j,want) } := by have := hr 0 (by simp); simpa using this.symm
 simp only [ap_,cl_,av_,wpOpsIn,ho]
 have hw' : Region.wanted { dst := dst,op := .call ⟨.value f,args,tys⟩,type := ty,pos := pos,after := after,guard := some (j,want) } (yielded arr a.tmps) = true := by
  refine D5 (o := { dst := dst,op := .call ⟨.value f,args,tys⟩,type := ty,pos := pos,after := after,guard := some (j,want) }) st.tmps ?_;rw [bu,F8 (o := { dst := dst,op := .call ⟨.value f,args,tys⟩,type := ty,pos := pos,after := after,guard := some (j,want) }) ht rfl hj hdj hb,hw]
 rw [if_pos hw'];refine Dm hn1 ?_;have hV := Bc st.glob st.tmps f;rw [ht.opd hf] at hV;unfold R at hV;obtain ⟨p,q,hV,hp,hq⟩ := hV;have bg := Dh st.glob st.tmps args.toList;rw [ht.opds ha] at bg
 have bt : RL C (nx J) w full (p ++ args.map a.eval ++ q).toList := by
  subst hl;simp only [cs_,c_];exact (hp.append bg).append hq
 obtain ⟨⟨fn,g1,g2,g3⟩,b8⟩ := hc C w _ st.sim st.glob bt
 have bl : (execOp a.eval { dst := dst,op := .call ⟨.value f,args,tys⟩,type := ty,pos := pos,after := after,guard := some (j,want) }).run E.P w = .ok (.enter k (p ++ args.map a.eval ++ q)) w := by
  have g2' : fn.name ≠ "runtime.NumGoroutine" := by simpa using g2
  have g3' : fn.body ≠ none := fun hh => by rw [hh] at g3; cases g3
  simp [execOp,resolve,hV,Deferred.ofValue,invoke,callFunc,g1,g2',g3']
 unfold Oper.wp;rw [bl,Oper.upon_enter];refine b8.mono fun e w' he => ?_
 cases e with
 | returned x =>
  obtain ⟨v,J',C',k0,k1,k2,k3⟩ := he;obtain ⟨tm',h1,h2⟩ := C8 (dst := dst) hd ht v
  exact kk v J' k0 ro n hn2 C' w' tm' _ h2 (st.put k1 k2 k3 h1) (bc_ hB k2.next) arr (i + 1) QQ rest bu (fun j hj => by have := hr (j + 1) (by simpa using hj); simp only [bi_] at this; rw [this]; congr 1; omega)
   fun C2 w2 a2 tm2 ρ2 J2 q1 q2 q3 qB q4 => hQ C2 w2 a2 tm2 ρ2 J2 q1 q2 q3 qB ((k2.base hB).trans q4)
 | panicked _ => exact he.elim
 | outgrown => exact he.elim
end
abbrev Str := List UInt8
def sV (s : Str) : AV := .str (s.map UInt8.toNat)
def slV {α : Type} (enc : α -> List AV) (sz : Nat) (l : List α) : AV := .sv (l.flatMap enc) sz l.length none
def bV (b : Bool) : AV := .bool b
def iV (n : Int) : AV := .int .i64 n
theorem Ev {s t : Str} : (s.map UInt8.toNat = t.map UInt8.toNat) ↔ s = t := List.map_inj_right (fun a b h => UInt8.toNat_inj.1 h)
theorem D7 {α : Type} {enc : α -> List AV} {sz : Nat} (he : ∀ a,(enc a).length = sz) : ∀ l : List α,(l.flatMap enc).length = l.length * sz
 | [] => by simp
 | a :: r => by simp only [ch_,aw_,he,D7 he r,ap_,fw_]; omega
theorem Vp {α : Type} {enc : α -> List AV} {sz : Nat} (he : ∀ a,(enc a).length = sz) : ∀ (l : List α) (i : Nat),(l.flatMap enc).drop (i * sz) = (l.drop i).flatMap enc
 | l,0 => by simp
 | [],i + 1 => by simp
 | a :: r,i + 1 => by
  simp only [ch_,List.drop_succ_cons,fw_];rw [← Vp he r i,eb_,← fo_,List.drop_left' (he a)]
theorem Akq {α : Type} {enc : α -> List AV} {sz : Nat} (he : ∀ a,(enc a).length = sz) {l : List α} {i : Nat} {a : α} (h : l[i]? = some a) : (l.flatMap enc).drop (i * sz) = enc a ++ (l.drop (i + 1)).flatMap enc := by
 rw [Vp he];obtain ⟨hi,rfl⟩ := ad_.1 h;rw [ay_ hi,ch_]
section
variable {E : Env} {ρ : Ad} {J : Sto} {Rr : Rec} {t n : Nat} {x y : Operand} {α : Type} {enc : α -> List AV} {sz : Nat} {l : List α}
theorem Aof {t₀ : Nat} (hi : Kj E.P t₀ = true) (hx : Ai E ρ x = some (slV enc sz l)) : A0 E Rr (.call ⟨.builtin .len,#[x],#[t₀]⟩) ρ J (.int .i64 (.ofNat l.length)) J :=
 Em hi hx rfl rfl
theorem Aq8 {t₀ : Nat} {s : Str} (hi : Fb E.P t₀ = true) (hx : Ai E ρ x = some (sV s)) : A0 E Rr (.call ⟨.builtin .len,#[x],#[t₀]⟩) ρ J (.int .i64 (.ofNat s.length)) J := by
 have := Ame (Rr := Rr) (J := J) hi hx
 rwa [by_] at this
theorem Bn {by' i : Nat} {zz : Option (List AV)} {k : IntKind} {a : α} (hi : elI E.P t = some (sz,by',zz)) (he : ∀ a,(enc a).length = sz) (hx : Ai E ρ x = some (slV enc sz l)) (hy : Ai E ρ y = some (.int k (.ofNat i))) (ha : l[i]? = some a) :
  A0 E Rr (.indexAddr t x y) ρ J (.pv (enc a ++ (l.drop (i + 1)).flatMap enc)) J := by
 have h := Agi (Rr := Rr) (J := J) hi hx hy (m := l.length) rfl rfl (ad_.1 ha).1
 have e : Agh (slV enc sz l) (i * sz) = .pv (enc a ++ (l.drop (i + 1)).flatMap enc) := by
  show AV.pv ((l.flatMap enc).drop (i * sz)) = _
  rw [Akq he ha]
 rw [e] at h;exact h
theorem Sb {p q : Str} {ty : Nat} (hi : okI E.P t = true) (hx : Ai E ρ x = some (sV p)) (hy : Ai E ρ y = some (sV q)) : A0 E Rr (.binOp .eql t x y ty) ρ J (.bool (decide (p = q))) J := by
 have := As2 (Rr := Rr) (J := J) (ty := ty) hi hx hy
 simpa only [Ev] using this
theorem Lr {p q : Str} {ty : Nat} (hi : okI E.P t = true) (hx : Ai E ρ x = some (sV p)) (hy : Ai E ρ y = some (sV q)) : A0 E Rr (.binOp .neq t x y ty) ρ J (.bool (!decide (p = q))) J := by
 have := As3 (Rr := Rr) (J := J) (ty := ty) hi hx hy
 simpa only [Ev] using this
end
theorem E8 : ∀ {l r : List AV},Di l.length (l ++ r) = some l
 | [],r => rfl
 | x :: l,r => by simp only [ap_,av_,Di,E8 (l := l)]
theorem B4 {l : List AV} {sz : Nat} (h : l.length = sz) (r : List AV) : Be sz true (l ++ r) = some (.agg l) := by
 subst h; simp only [Be,E8]
theorem B0 {l : List AV} {sz : Nat} (h : l.length = sz) : Be sz true l = some (.agg l) := by
 have := B4 h []
 rwa [cn_] at this
theorem Bk {l : List AV} {sz : Nat} (h : l.length = sz) : (AV.agg l).cellsN sz = some l := by
 subst h; simp only [AV.cellsN,bm_,cond_true]
def Ap {α : Type} (p : α -> Bool) : List α -> Nat -> Int
 | [],_ => -1
 | a :: r,i => cond (p a) (.ofNat i) (Ap p r (i + 1))
theorem Agm {α : Type} {p : α -> Bool} : ∀ (l : List α) (i : Nat),(0 : Int) <= Ap p l i ↔ l.any p = true
 | [],i => by simp [Ap]
 | a :: r,i => by
  rw [List.any_cons];unfold Ap
  by_cases hp : p a = true
  ·rw [hp]; simp
  ·have hp : p a = false := by simpa using hp
   rw [hp,cond_false,Bool.false_or];exact Agm r (i + 1)
theorem D2 {α : Type} {p : α -> Bool} (l : List α) : decide (Int.ofNat 0 <= Ap p l 0) = l.any p := by
 have := Agm (p := p) l 0
 by_cases h : l.any p = true
 ·rw [h]; exact decide_eq_true (this.2 h)
 ·rw [Bool.not_eq_true] at h; rw [h]; exact decide_eq_false (fun hh => by rw [this.1 hh] at h; cases h)
def Wk (v v' : AV) : Prop := ∀ C N w x,R C N w v x -> R C N w v' x
theorem Wk.rfl' {v : AV} : Wk v v := fun _ _ _ _ h => h
theorem Fk {cs : List AV} {sz len : Nat} {cap : Option Nat} : Wk (.sv cs sz len cap) (.sv cs sz len none) := fun C N w x h => by
 unfold R at h ⊢;obtain ⟨ado,k,h1,h2,h3,h4⟩ := h
 exact ⟨ado,k,h1,h2,fun q hq => (by cases hq),h4⟩
theorem Ae3 {sz : Nat} : Wk (.nil (.slice none 0 0)) (.sv [] sz 0 none) := fun C N w x h => by
 unfold R at h ⊢;obtain ⟨rfl,_⟩ := h
 exact ⟨none,0,rfl,nl,fun q hq => (by cases hq),by simp,fun _ => rfl,fun ad ha => by cases ha⟩
inductive WkL : List AV -> List AV -> Prop
 | nil : WkL [] []
 | cons {a b : AV} {l m : List AV} : Wk a b -> WkL l m -> WkL (a :: l) (b :: m)
theorem WkL.RL {C : Ctx} {N : Nat} {w : World} : ∀ {l m : List AV},WkL l m -> ∀ {xs : List Value},RL C N w l xs -> RL C N w m xs
 | _,_,.nil,xs,h => h
 | _,_,.cons h1 h2,[],h => by unfold AM.RL at h; exact h.elim
 | _,_,.cons h1 h2,x :: xs,h => by unfold AM.RL at h ⊢; exact ⟨h1 _ _ _ _ h.1,h2.RL h.2⟩
theorem WkL.refl : ∀ {l : List AV},WkL l l
 | [] => .nil
 | _ :: _ => .cons .rfl' .refl
theorem Aq.wk {E : Env} {f : Nat} {args args' : List AV} {J : Sto} {Post : AV -> Sto -> Prop} (h : Aq E f args' J Post) (k : WkL args args') : Aq E f args J Post :=
 fun C w vs hs hg ha => h C w vs hs hg (k.RL ha)
section
variable {E : Env} {nt B : Nat} {df : List (Nat × List AV)} {ρ ρ' : Ad} {J J' : Sto} {K : Ad -> Sto -> Prop} {Rr : Rec}
theorem TO_wk {ops r : List Oper} {d : Nat} {v v' : AV} (h : Wk v v') (k : TO E nt df B ops r K ((d,v') :: ρ) J) : TO E nt df B ops r K ((d,v) :: ρ) J := by
 intro ro n hn C w tm a ht st hB
 have hd := st.tmps d v (ht d v (by simp [Ad.at,bm_]))
 refine k ro n hn C w (tm.put (d + 1) d (some v')) a (fun i u hu => ?_) ⟨st.sim,st.glob,fun i u hu => ?_,st.size,st.dfs⟩ hB
 ·rw [dl_];simp only [Ad.at] at hu;cases hb : Nat.beq d i with
  | true => rw [hb] at hu; have := aa_ hb; subst this; rw [if_pos rfl]; exact hu
  | false =>
   rw [hb] at hu
   rw [if_neg (fun he => by subst he; rw [bm_] at hb; cases hb)]
   exact ht i u (by simp only [Ad.at]; rw [hb]; exact hu)
 ·have hu : (tm.put (d + 1) d (some v')).get i = some u := hu;rw [dl_] at hu
  by_cases hi : i = d
  ·subst hi; rw [if_pos rfl] at hu; cases hu; exact h _ _ _ _ hd
  ·rw [if_neg hi] at hu; exact st.tmps i u hu
theorem Dz {ops r : List Oper} {op : Op} {d : Nat} {ty : Nat} {pos : String} {after : Array Edge} {v v' : AV} {J₁ : Sto} (h : A0 E (fun _ _ _ => none) op ρ J v J₁) (hw : Wk v v') (hn : Fw op = true) (hd : Nat.blt d nt = true)
  (k : TO E nt df B ops r K ((d,v') :: ρ) J₁) : TO E nt df B ops ({ dst := some d,op := op,type := ty,pos := pos,after := after,guard := none } :: r) K ρ J :=
 Zo noR hn hd h (TO_wk hw k)
theorem Af {ops r : List Oper} {f : Operand} {args : Array Operand} {tys : Array Nat} {dst : Option Nat} {ty : Nat} {pos : String} {after : Array Edge} {k : Nat} {first cap vs full : List AV} {v : AV} (hd : B9 nt dst = true)
  (hf : Ai E ρ f = some (.fn (.func k) first cap)) (ha : La E ρ args.toList = some vs) (hl : first ++ vs ++ cap = full) (hc : Aq E k full J fun u τ => u = v /\ τ = J')
  (kk : TO E nt df B ops r K (Dr dst v ρ) J') : TO E nt df B ops ({ dst := dst,op := .call ⟨.value f,args,tys⟩,type := ty,pos := pos,after := after,guard := none } :: r) K ρ J :=
 Bu hd hf ha hl hc fun u τ h => by obtain ⟨rfl,rfl⟩ := h; exact kk
theorem Bg {ops r : List Oper} {oj : Oper} {j dj : Nat} {b want : Bool} {f : Operand} {args : Array Operand} {tys : Array Nat} {dst : Option Nat} {ty : Nat} {pos : String} {after : Array Edge} {k : Nat} {first cap vs full : List AV} {v : AV}
  (hj : ops[j]? = some oj) (hdj : oj.dst = some dj) (hb : Ad.at ρ dj = some (.bool b)) (hw : cond b want (!want) = true) (hd : B9 nt dst = true)
  (hf : Ai E ρ f = some (.fn (.func k) first cap)) (ha : La E ρ args.toList = some vs) (hl : first ++ vs ++ cap = full) (hc : Aq E k full J fun u τ => u = v /\ τ = J')
  (kk : TO E nt df B ops r K (Dr dst v ρ) J') : TO E nt df B ops ({ dst := dst,op := .call ⟨.value f,args,tys⟩,type := ty,pos := pos,after := after,guard := some (j,want) } :: r) K ρ J :=
 Aoe hj hdj hb hw hd hf ha hl hc fun u τ h => by obtain ⟨rfl,rfl⟩ := h; exact kk
theorem Aq9 {t i : Nat} {x y : Operand} {s : Str} {b : UInt8} {k : IntKind} (hi : Fb E.P t = true) (hx : Ai E ρ x = some (sV s)) (hy : Ai E ρ y = some (.int k (.ofNat i))) (hb : s[i]? = some b) :
  A0 E Rr (.index t x y) ρ J (.int .u8 (.ofNat b.toNat)) J := Agj hi hx hy (by rw [az_,hb]; rfl)
theorem Vq {n : Int} (h1 : -9223372036854775808 <= n) (h2 : n < 9223372036854775808) : N3 .i64 n = .int .i64 n := by
 cases n with
 | ofNat m =>
  have : Nat.ble m 9223372036854775807 = true := bd_ (by have : (m : Int) < 9223372036854775808 := h2; omega)
  simp only [N3,Ag,Mj,this,cond_true]
 | negSucc m =>
  have : Nat.ble m 9223372036854775807 = true := bd_ Om;simp only [N3,Ag,Mj,this,cond_true]
theorem Ae4 {t ty : Nat} {x y : Operand} {p q : Int} (hi : okI E.P t = true) (hx : Ai E ρ x = some (.int .i64 p)) (hy : Ai E ρ y = some (.int .i64 q)) (h1 : -9223372036854775808 <= p + q) (h2 : p + q < 9223372036854775808) :
  A0 E Rr (.binOp .add t x y ty) ρ J (iV (p + q)) J := Lo hi hx hy (by simp only [Gq,Ab4,Vq h1 h2]; rfl)
theorem Akr {t ty : Nat} {x y : Operand} {p q : Int} (hi : okI E.P t = true) (hx : Ai E ρ x = some (.int .i64 p)) (hy : Ai E ρ y = some (.int .i64 q)) (h1 : -9223372036854775808 <= p - q) (h2 : p - q < 9223372036854775808) :
  A0 E Rr (.binOp .sub t x y ty) ρ J (iV (p - q)) J := Lo hi hx hy (by simp only [Gq,Vf,Vq h1 h2]; rfl)
theorem Ajc {t ty : Nat} {x y : Operand} {p q : Nat} (hi : okI E.P t = true) (hx : Ai E ρ x = some (.int .i64 (.ofNat p))) (hy : Ai E ρ y = some (.int .i64 (.ofNat q))) (h : q <= p) (hp : p < 9223372036854775808) :
  A0 E Rr (.binOp .sub t x y ty) ρ J (iV (.ofNat (p - q))) J := by
 have := Akr (Rr := Rr) (J := J) (ty := ty) hi hx hy (by simp only [aj_]; omega) (by simp only [aj_]; omega)
 rwa [show (Int.ofNat p - Int.ofNat q) = Int.ofNat (p - q) by simp only [aj_]; omega] at this
theorem T6 {ops r : List Oper} {t ty0 : Nat} {x : Operand} {d ty : Nat} {pos : String} {after : Array Edge} {cs : List AV} {sz len : Nat} {cap : Option Nat} (hsl : Kj E.P t = true) (hx : Ai E ρ x = some (.sv cs sz len cap)) (hd : Nat.blt d nt = true)
  (k : ∀ b : Bool,(b = true -> len = 0) -> TO E nt df B ops r K ((d,.bool b) :: ρ) J) :
  TO E nt df B ops ({ dst := some d,op := .binOp .eql t x (.const (.slice none 0 0)) ty0,type := ty,pos := pos,after := after,guard := none } :: r) K ρ J := by
 have hti : ∃ ti e,Aw E.P t = some ti /\ ti.desc = .slice e := by
  unfold Kj at hsl
  split at hsl
  ·rename_i ti hti
   split at hsl
   ·rename_i e he; exact ⟨ti,e,hti,he⟩
   ·cases hsl
  ·cases hsl
 obtain ⟨ti,e,hti,hde⟩ := hti
 have hu : E.P.underlying t = some (.slice e) := by
  obtain ⟨_,dd,_,g2,g3,_⟩ := Al hti
  exact g2.trans (by rw [← g3,hde])
 refine Agl (Pv := fun v => ∃ b : Bool,v = .bool b /\ (b = true -> len = 0)) (dst := some d) (J' := J) hd (fun C w tm a ht st => ?_) (fun v hv => by obtain ⟨b,rfl,hb⟩ := hv; exact k b hb)
 have hv := Bc st.glob st.tmps x;rw [ht.opd hx] at hv;unfold R at hv;obtain ⟨ado,kk,h1,h2,h3,h4,h5,h6⟩ := hv;have fin : ∀ {X : Value} {b : Bool},a.eval x = X -> (∀ l,X ≠ .agg l) -> X ≠ .nilIface -> (binOp .eql t X (.slice none 0 0)).run E.P w = .ok (.bool b) w ->
   (execOp a.eval { dst := some d,op := .binOp .eql t x (.const (.slice none 0 0)) ty0,type := ty,pos := pos,after := after,guard := none }).run E.P w = .ok (.value (.bool b)) w := by
  intro X b hX hn1 hn2 hb;have hg := Ea (P := E.P) (w := w) (op := .eql) (t := t) (x := x) (y := .const (.slice none 0 0)) (a := X) (b := .slice none 0 0) (fun l m hh => hn1 l hh.1) (fun hh => hn2 hh.1)
  have hY : a.eval (.const (.slice none 0 0)) = .slice none 0 0 := rfl;simp only [execOp,hX,hY,Sem.run_bind,hg,Result.andThen_ok,hb,Sem.run_pure]
 cases ado with
 | some ad =>
  have := (ge_ (w := w) hu ⟨_,rfl⟩ ad len kk).1.eql
  exact ⟨.bool false,⟨false,rfl,fun h => by cases h⟩,.bool false,w,C,.inl (fin h1 (fun l h => by cases h) (fun h => by cases h) this),by unfold R; rfl,st.sim,bz_ _ _ _⟩
 | none =>
  have hk := h5 rfl;subst hk
  have hl : len = 0 := by omega
  subst hl;have := (ge_ (w := w) hu ⟨_,rfl⟩ ⟨0,0,none⟩ 0 0).2.2.eql
  exact ⟨.bool true,⟨true,rfl,fun _ => rfl⟩,.bool true,w,C,.inl (fin h1 (fun l h => by cases h) (fun h => by cases h) this),by unfold R; rfl,st.sim,bz_ _ _ _⟩
end
end Go.AM
