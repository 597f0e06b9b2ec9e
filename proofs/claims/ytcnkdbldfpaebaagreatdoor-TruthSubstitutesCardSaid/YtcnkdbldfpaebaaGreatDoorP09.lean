/- A part of the proof; shortened by program. -/
import Derived.Test.YtcnkdbldfpaebaaGreatDoorP08
set_option maxRecDepth 100000
set_option maxHeartbeats 4000000
set_option linter.unusedSimpArgs false
set_option linter.unusedVariables false
namespace Go.AM
open Go
def Ty (l : Ao) : Tr AV := l.foldr (fun p t => t.put (p.1 + 1) p.1 (some p.2)) .e
def Lw : Ao -> Ao -> Prop
 | [],_ => True
 | (i,v) :: r,ρ => Ao.at ρ i = some v /\ Lw r ρ
theorem Lw.at : ∀ {ρ' ρ : Ao},Lw ρ' ρ -> ∀ i v,Ao.at ρ' i = some v -> Ao.at ρ i = some v
 | [],ρ,_,i,v,h => by simp [Ao.at] at h
 | (j,u) :: r,ρ,h,i,v,hv => by
  obtain ⟨h1,h2⟩ := h;simp only [Ao.at] at hv;cases hb : Nat.beq j i with
  | true => rw [hb] at hv; cases hv; have := aa_ hb; subst this; exact h1
  | false => rw [hb] at hv; exact Lw.at h2 i v hv
theorem Has.subL {tm : Tr AV} {ρ ρ' : Ao} (h : Has tm ρ) (k : Lw ρ' ρ) : Has tm ρ' := fun i v hv => h i v (k.at i v hv)
def A6 (E : Env) (f : Nat) (args : List AV) (J : Sto) (Post : AV -> Sto -> Prop) : Prop :=
 ∀ (C : Ctx) (w : World) (vs : Array Value),Sim E.P C w J -> Fh C (nx J) w E -> RL C (nx J) w args vs.toList ->
  Zf E.P f /\ Calls E.P f vs w fun
   | .returned x,w' => ∃ v J' C',Post v J' /\ Sim E.P C' w' J' /\ Ext C (nx J) w C' (nx J') w' /\ R C' (nx J') w' v x
   | _,_ => False
theorem A6.mono {E : Env} {f : Nat} {args : List AV} {J : Sto} {Post Post' : AV -> Sto -> Prop} (h : A6 E f args J Post) (k : ∀ v J',Post v J' -> Post' v J') : A6 E f args J Post' := by
 intro C w vs hs hg ha;obtain ⟨h1,h2⟩ := h C w vs hs hg ha;refine ⟨h1,h2.mono fun e w' he => ?_⟩
 cases e with
 | returned x => obtain ⟨v,J',C',k1,k2⟩ := he; exact ⟨v,J',C',k _ _ k1,k2⟩
 | panicked _ => exact he.elim
 | outgrown => exact he.elim
theorem Ck.callTo {E : Env} {f : Nat} {g : List AV -> Sto -> Res} (h : Ck E f g) {args : List AV} {J J' : Sto} {v : AV} (hg : g args J = some (v,J')) : A6 E f args J (fun u τ => u = v /\ τ = J') := by
 intro C w vs hs hgl ha;obtain ⟨h1,h2⟩ := h C w J args vs v J' hs hgl ha hg;refine ⟨h1,h2.mono fun e w' he => ?_⟩
 cases e with
 | returned x => obtain ⟨C',k1,k2,k3⟩ := he; exact ⟨v,J',C',⟨rfl,rfl⟩,k1,k2,k3⟩
 | panicked _ => exact he.elim
 | outgrown => exact he.elim
open Classical in
noncomputable def G5 : List (Nat × List AV × Sto × AV × Sto) -> Rec
 | [],_,_,_ => none
 | (f,a,s,v,s') :: r,.fn f',a',J => if f' = f /\ a' = a /\ J = s then some (v,s') else G5 r (.fn f') a' J
 | _ :: _,.yl _,_,_ => none
def Aor (E : Env) : List (Nat × List AV × Sto × AV × Sto) -> Prop
 | [] => True
 | (f,a,s,v,s') :: r => A6 E f a s (fun u τ => u = v /\ τ = s') /\ Aor E r
theorem Aos {a : Nat} : ∀ (l : List (Nat × List AV × Sto × AV × Sto)) (x : List AV) (J : Sto),G5 l (.yl a) x J = none
 | [],_,_ => rfl
 | _ :: _,_,_ => rfl
theorem Af1 {E : Env} {f' : Nat} : ∀ {l : List (Nat × List AV × Sto × AV × Sto)},Aor E l -> Ck E f' (G5 l (.fn f'))
 | [],_ => fun C w J args vs v J' hs hg ha h => by cases h
 | (f,a,s,v,s') :: r,hk => fun C w J args vs u J' hs hg ha h => by
  simp only [G5] at h
  split at h
  ·rename_i he
   obtain ⟨rfl,rfl,rfl⟩ := he;cases h;obtain ⟨h1,h2⟩ := hk.1 C w vs hs hg ha;refine ⟨h1,h2.mono fun e w' he => ?_⟩
   cases e with
   | returned x => obtain ⟨v,J',C',⟨rfl,rfl⟩,k1,k2,k3⟩ := he; exact ⟨C',k1,k2,k3⟩
   | panicked _ => exact he.elim
   | outgrown => exact he.elim
  ·exact Af1 hk.2 C w J args vs u J' hs hg ha h
theorem As {E : Env} {l : List (Nat × List AV × Sto × AV × Sto)} (hk : Aor E l) : Bc E (G5 l) :=
 ⟨fun _ => Af1 hk,fun a C w J args vs v J' hs hg ha h => by rw [Aos] at h; cases h⟩
abbrev Dr := XE -> Ao -> Sto -> Prop
def Rh (E : Env) (nt : Nat) (df : List (Nat × List AV)) (B : Nat) (Q : Dr) (C : Ctx) (w : World) : Exit -> Act -> World -> Prop := fun e a' w' =>
 ∃ x tm' ρ' J' C',K0 x = e /\ Has tm' ρ' /\ Q x ρ' J' /\ SSt E C' w' ⟨tm',nt,df,J'⟩ a' /\ B <= nx J' /\ Ext C B w C' B w'
def T (E : Env) (nt : Nat) (df : List (Nat × List AV)) (B : Nat) (c : Code) (Q : Dr) (ρ : Ao) (J : Sto) : Prop :=
 ∀ (ro : Option Nat) (n : Nat),(ro = none ∨ Hb c = true) -> ∀ (C : Ctx) (w : World) (tm : Tr AV) (a : Act),Has tm ρ -> SSt E C w ⟨tm,nt,df,J⟩ a -> B <= nx J -> c.wpIn (C1 ro) n E.P (Rh E nt df B Q C w) a w
def TO (E : Env) (nt : Nat) (df : List (Nat × List AV)) (B : Nat) (ops r : List Oper) (K : Ao -> Sto -> Prop) (ρ : Ao) (J : Sto) : Prop :=
 ∀ (ro : Option Nat) (n : Nat),(ro = none ∨ Fk r = true) -> ∀ (C : Ctx) (w : World) (tm : Tr AV) (a : Act),Has tm ρ -> SSt E C w ⟨tm,nt,df,J⟩ a -> B <= nx J -> ∀ (arr : Array Oper) (i : Nat) (QQ : Exit -> Act -> World -> Prop) (rest : List Nat),arr.toList = ops -> (∀ j,j < r.length -> r[j]? = arr[i + j]?) ->
  (∀ C' w' a' tm' ρ' J',Has tm' ρ' -> K ρ' J' -> SSt E C' w' ⟨tm',nt,df,J'⟩ a' -> B <= nx J' -> Ext C B w C' B w' -> wpOpsIn (C1 ro) n E.P arr QQ rest a' w') -> wpOpsIn (C1 ro) n E.P arr QQ (List.range' i r.length ++ rest) a w
section
variable {E : Env} {nt B : Nat} {df : List (Nat × List AV)} {Q Q' : Dr} {ρ ρ' : Ao} {J J' : Sto} {K : Ao -> Sto -> Prop}
theorem Rh.mono {C : Ctx} {w : World} {e : Exit} {a : Act} {w' : World} (h : Rh E nt df B Q C w e a w') (hQ : ∀ x ρ J,Q x ρ J -> Q' x ρ J) : Rh E nt df B Q' C w e a w' := by
 obtain ⟨x,tm',ρ',J',C',h1,h2,h3,h4⟩ := h;exact ⟨x,tm',ρ',J',C',h1,h2,hQ _ _ _ h3,h4⟩
theorem Rh.from {C C₀ : Ctx} {w w₀ : World} {e : Exit} {a : Act} {w' : World} (h : Rh E nt df B Q C w e a w') (hx : Ext C₀ B w₀ C B w) : Rh E nt df B Q C₀ w₀ e a w' := by
 obtain ⟨x,tm',ρ',J',C',h1,h2,h3,h4,hB,h5⟩ := h;exact ⟨x,tm',ρ',J',C',h1,h2,h3,h4,hB,hx.trans h5⟩
theorem T.mono {c : Code} (h : T E nt df B c Q ρ J) (hQ : ∀ x ρ J,Q x ρ J -> Q' x ρ J) : T E nt df B c Q' ρ J :=
 fun ro n hn C w tm a ht st hB => wpIn_mono (h ro n hn C w tm a ht st hB) fun e a' w' he => he.mono hQ
theorem T.sub {c : Code} (h : T E nt df B c Q ρ' J) (hs : Lw ρ' ρ) : T E nt df B c Q ρ J :=
 fun ro n hn C w tm a ht st => h ro n hn C w tm a (ht.subL hs) st
theorem T.wp {c : Code} (h : T E nt df B c Q ρ J) (C : Ctx) (w : World) (tm : Tr AV) (a : Act) (ht : Has tm ρ) (st : SSt E C w ⟨tm,nt,df,J⟩ a) (hB : B <= nx J) : c.wp E.P (Rh E nt df B Q C w) a w := (wpIn_wide (n := 0)).1 (h none 0 (.inl rfl) C w tm a ht st hB)
theorem Ai (h : Q .normal ρ J) : T E nt df B .skip Q ρ J := fun _ _ _ C w tm a ht st hB => wpIn_skip ⟨.normal,tm,ρ,J,C,rfl,ht,h,st,hB,bv_ _ _ _⟩
theorem Art {n : Nat} (h : Q .normal ρ J) : T E nt df B (.label n) Q ρ J := fun _ _ _ C w tm a ht st hB => wpIn_label ⟨.normal,tm,ρ,J,C,rfl,ht,h,st,hB,bv_ _ _ _⟩
theorem Ba {n : Nat} (h : Q (.exit n) ρ J) : T E nt df B (.exit n) Q ρ J := fun _ _ _ C w tm a ht st hB => wpIn_exit ⟨.exit n,tm,ρ,J,C,rfl,ht,h,st,hB,bv_ _ _ _⟩
theorem An (h : Q .ret ρ J) : T E nt df B .ret Q ρ J := fun _ _ _ C w tm a ht st hB => wpIn_ret ⟨.ret,tm,ρ,J,C,rfl,ht,h,st,hB,bv_ _ _ _⟩
def Tz (k : Ao -> Sto -> Prop) (Q : Dr) : Dr
 | .normal => k
 | x => Q x
theorem Ac {x y : Code} (h : T E nt df B x (Tz (T E nt df B y Q) Q) ρ J) : T E nt df B (.seq x y) Q ρ J := by
 intro ro n hn C w tm a ht st hB;simp only [Hb,ad_] at hn;refine wpIn_seq (wpIn_mono (h ro n (hn.imp (fun h => h) (·.1)) C w tm a ht st hB) fun e a' w' he => ?_)
 obtain ⟨x',tm',ρ',J',C',h1,h2,h3,h4,hB',h5⟩ := he;subst h1;cases x' with
 | normal => exact wpIn_mono (h3 ro n (hn.imp (fun h => h) (·.2)) C' w' tm' a' h2 h4 hB') fun e a'' w'' he => he.from h5
 | exit id => exact ⟨.exit id,tm',ρ',J',C',rfl,h2,h3,h4,hB',h5⟩
 | ret => exact ⟨.ret,tm',ρ',J',C',rfl,h2,h3,h4,hB',h5⟩
theorem Ah {c : Operand} {x y : Code} {b : Bool} (hc : A4 E ρ c = some (.bool b)) (h1 : b = true -> T E nt df B x Q ρ J) (h2 : b = false -> T E nt df B y Q ρ J) : T E nt df B (.cond c x y) Q ρ J := by
 intro ro n hn C w tm a ht st hB;simp only [Hb,ad_] at hn;have hv := B3 st.glob st.tmps c;rw [ht.opd hc] at hv;unfold R at hv;cases b with
 | true => exact wpIn_cond_true hv (h1 rfl ro n (hn.imp (fun h => h) (·.1)) C w tm a ht st hB)
 | false => exact wpIn_cond_false hv (h2 rfl ro n (hn.imp (fun h => h) (·.2)) C w tm a ht st hB)
def Vr (id : Nat) (Q : Dr) : Dr
 | .exit j => cond (Nat.beq j id) (Q .normal) (Q (.exit j))
 | x => Q x
theorem Am {id : Nat} {c : Code} (h : T E nt df B c (Vr id Q) ρ J) : T E nt df B (.block id c) Q ρ J := by
 intro ro n hn C w tm a ht st hB;refine wpIn_block (wpIn_mono (h ro n hn C w tm a ht st hB) fun e a' w' he => ?_)
 obtain ⟨x',tm',ρ',J',C',h1,h2,h3,h4,hB',h5⟩ := he;subst h1;cases x' with
 | normal => exact ⟨.normal,tm',ρ',J',C',rfl,h2,h3,h4,hB',h5⟩
 | ret => exact ⟨.ret,tm',ρ',J',C',rfl,h2,h3,h4,hB',h5⟩
 | exit j =>
  simp only [Vr] at h3
  by_cases hj : j = id
  ·subst hj;rw [bg_] at h3;simp only [K0,Exit.inBlock,if_true];exact ⟨.normal,tm',ρ',J',C',rfl,h2,h3,h4,hB',h5⟩
  ·have hb : Nat.beq j id = false := by cases hb : Nat.beq j id with | true => exact absurd (aa_ hb) hj | false => rfl
   rw [hb] at h3;simp only [K0,Exit.inBlock,if_neg hj];exact ⟨.exit j,tm',ρ',J',C',rfl,h2,h3,h4,hB',h5⟩
theorem Aru {c : Code} (h : T E nt df B c Q ρ J) : T E nt df B (.scope c) Q ρ J := by
 intro ro n hn C w tm a ht st hB;refine Ju (wpIn_mono (h ro n hn C w tm a ht st hB) fun e a' w' he => ?_)
 obtain ⟨x',tm',ρ',J',C',h1,h2,h3,h4,hB',h5⟩ := he;subst h1;cases x' <;> exact ⟨_,tm',ρ',J',C',rfl,h2,h3,h4,hB',h5⟩
theorem At5 {c : Code} (I : Nat -> Ao -> Sto -> Prop) (n : Nat) (h0 : ∃ ρ',Lw ρ' ρ /\ I n ρ' J)
  (hs : ∀ n ρ J,I n ρ J -> T E nt df B c (Tz (fun ρ' J' => ∃ m ρ'',m < n /\ Lw ρ'' ρ' /\ I m ρ'' J') Q) ρ J) : T E nt df B (.loop c) Q ρ J := by
 intro ro m hn;have key : ∀ (n : Nat) (ρ : Ao) (J : Sto),I n ρ J -> ∀ (C : Ctx) (w : World) (tm : Tr AV) (a : Act),Has tm ρ -> SSt E C w ⟨tm,nt,df,J⟩ a -> B <= nx J -> ∀ (b : Frame) (k : List Item) (cs : List Frame),b.roundOf = (C1 ro).round -> (C1 ro).fn b.fn -> (C1 ro).room (cs.length + 1 + m) ->
   ∃ e a' w',Rh E nt df B Q C w e a' w' /\ ArrivesIn (Machine.fenced E.P (C1 ro)) E.P (lone (b.atR a (.code c :: .inLoop c :: k)) cs w) b k cs e a' w' := by
  intro n
  induction n using Nat.strongRecOn with
  | _ n ih =>
   intro ρ J hI C w tm a ht st hB b k cs hro hb hr;obtain ⟨e,a₁,w₁,hq,bl⟩ := hs n ρ J hI ro m hn C w tm a ht st hB b (.inLoop c :: k) cs hro hb hr;obtain ⟨x',tm',ρ',J',C',h1,h2,h3,h4,hB',h5⟩ := hq;subst h1;cases x' with
   | normal =>
    obtain ⟨m,ρ'',hm,b9,hI'⟩ := h3;obtain ⟨e₂,a₂,w₂,hq₂,harr₂⟩ := ih m hm ρ'' J' hI' C' w₁ tm' a₁ (h2.subL b9) h4 hB' b k cs hro hb hr;exact ⟨e₂,a₂,w₂,hq₂.from h5,.of_steps (StepsIn.trans bl (.one (fenced_calm hb hr rfl) stepR_inLoop)) harr₂⟩
   | exit id => exact ⟨.exit id,a₁,w₁,⟨_,tm',ρ',J',C',rfl,h2,h3,h4,hB',h5⟩,.pass (x := .inLoop c) rfl (fun _ _ => .inl (by simp)) bl⟩
   | ret => exact ⟨.ret,a₁,w₁,⟨_,tm',ρ',J',C',rfl,h2,h3,h4,hB',h5⟩,.pass (x := .inLoop c) rfl (fun _ _ => .inl (by simp)) bl⟩
 intro C w tm a ht st hB b k cs hro hb hr;obtain ⟨ρ',b9,hI⟩ := h0;obtain ⟨e,a',w',hq,bl⟩ := key n ρ' J hI C w tm a (ht.subL b9) st hB b k cs hro hb hr;exact ⟨e,a',w',hq,.of_steps (.one (fenced_calm hb hr rfl) stepR_loop) bl⟩
theorem Fi {α : Type} {c : Code} (ρI : α -> Ao) (P : α -> Sto -> Prop) (μ : α -> Nat) (a₀ : α) (h0 : Lw (ρI a₀) ρ) (h1 : P a₀ J)
  (hs : ∀ a J,P a J -> T E nt df B c (Tz (fun ρ' J' => ∃ a',μ a' < μ a /\ Lw (ρI a') ρ' /\ P a' J') Q) (ρI a) J) : T E nt df B (.loop c) Q ρ J := by
 refine At5 (fun n ρ J => ∃ a,n = μ a /\ ρ = ρI a /\ P a J) (μ a₀) ⟨ρI a₀,h0,a₀,rfl,rfl,h1⟩ ?_
 rintro n ρ J ⟨a,rfl,rfl,hp⟩;refine (hs a J hp).mono fun x ρ' J' hq => ?_
 cases x with
 | normal => obtain ⟨a',g1,g2,g3⟩ := hq; exact ⟨μ a',ρI a',g1,g2,a',rfl,rfl,g3⟩
 | exit id => exact hq
 | ret => exact hq
theorem B8 {c : Code} (len : Nat) (ρI : Nat -> Ao) (P : Nat -> Sto -> Prop) (h0 : Lw (ρI 0) ρ) (h1 : P 0 J)
  (hs : ∀ i J,i <= len -> P i J -> T E nt df B c (Tz (fun ρ' J' => i < len /\ Lw (ρI (i + 1)) ρ' /\ P (i + 1) J') Q) (ρI i) J) : T E nt df B (.loop c) Q ρ J := by
 refine Fi ρI (fun i J => i <= len /\ P i J) (fun i => len - i) 0 h0 ⟨ch_ _,h1⟩ ?_
 rintro i J ⟨hi,hp⟩;refine (hs i J hi hp).mono fun x ρ' J' hq => ?_
 cases x with
 | normal => obtain ⟨g1,g2,g3⟩ := hq; exact ⟨i + 1,by omega,g2,by omega,g3⟩
 | exit id => exact hq
 | ret => exact hq
theorem Aa {id : Nat} {ops : Array Oper} (h : TO E nt df B ops.toList ops.toList (fun ρ J => Q .normal ρ J) ρ J) : T E nt df B (.region id ops false) Q ρ J := by
 intro ro n hn C w tm a ht st hB;refine wpIn_region ?_;rw [dg_,← bq_]
 have := h ro n hn C w tm a ht st hB ops 0 (Rh E nt df B Q C w) [] rfl (fun j _ => by simp) fun C' w' a' tm' ρ' J' h1 h2 h3 h4 h5 => ⟨.normal,tm',ρ',J',C',rfl,h1,h2,h3,h4,h5⟩
 rwa [cr_] at this
theorem Ab {ops : List Oper} (h : K ρ J) : TO E nt df B ops [] K ρ J := by
 intro _ _ _ C w tm a ht st hB arr i QQ rest _ _ hQ;simp only [dq_,gd_,br_];exact hQ C w a tm ρ J ht h st hB (bv_ _ _ _)
theorem Amr {ops g r : List Oper} (h : TO E nt df B ops g (fun ρ' J' => TO E nt df B ops r K ρ' J') ρ J) : TO E nt df B ops (g ++ r) K ρ J := by
 intro ro n hn C w tm a ht st hB arr i QQ rest bl hr hQ;rw [az_,← List.range'_append_1,cf_];simp only [Fk,List.all_append,ad_] at hn;refine h ro n (hn.imp (fun h => h) (·.1)) C w tm a ht st hB arr i QQ _ bl (fun j hj => ?_) fun C' w' a' tm' ρ' J' h1 h2 h3 h4 h5 => ?_
 ·rw [← hr j (by simp; omega),bx_ hj]
 ·refine h2 ro n (hn.imp (fun h => h) (·.2)) C' w' tm' a' h1 h3 h4 arr (i + g.length) QQ rest bl (fun j hj => ?_) fun C2 w2 a2 tm2 ρ2 J2 q1 q2 q3 qB q4 => hQ C2 w2 a2 tm2 ρ2 J2 q1 q2 q3 qB (h5.trans q4)
  have := hr (g.length + j) (by simp; omega)
  rw [co_ Om] at this
  rw [show g.length + j - g.length = j by omega] at this
  rw [this]; congr 1; omega
theorem Aot (n : Nat) {ops r : List Oper} (h : TO E nt df B ops (r.take n) (fun ρ' J' => TO E nt df B ops (r.drop n) K ρ' J') ρ J) : TO E nt df B ops r K ρ J := by
 have := Amr h
 rwa [ck_] at this
theorem TO.mono {ops r : List Oper} {K' : Ao -> Sto -> Prop} (h : TO E nt df B ops r K ρ J) (k : ∀ ρ J,K ρ J -> K' ρ J) : TO E nt df B ops r K' ρ J :=
 fun ro n hn C w tm a ht st hB arr i QQ rest h1 h2 hQ => h ro n hn C w tm a ht st hB arr i QQ rest h1 h2 fun C' w' a' tm' ρ' J' q1 q2 => hQ C' w' a' tm' ρ' J' q1 (k _ _ q2)
def Fl : Op -> Bool
 | .defer _ => false
 | _ => true
theorem K2 {ro : Option Nat} {o : Oper} {r : List Oper} (h : ro = none ∨ Fk (o :: r) = true) : Akl ro o.op /\ (ro = none ∨ Fk r = true) := by
 rcases h with h | h
 ·exact ⟨.inl h,.inl h⟩
 ·simp only [Fk,cx_,ad_] at h
  exact ⟨.inr (by simpa using h.1),.inr h.2⟩
theorem R6 {ops r : List Oper} {o : Oper} {Rr : Rec} (hR : Bc E Rr) {ρ₁ : Ao} {J₁ : Sto}
  (h : ∀ tm,Has tm ρ -> ∃ tm',Rf E ops o Rr ⟨tm,nt,df,J⟩ = some ⟨tm',nt,df,J₁⟩ /\ Has tm' ρ₁) (k : TO E nt df B ops r K ρ₁ J₁) : TO E nt df B ops (o :: r) K ρ J := by
 intro ro n hn C w tm a ht st hB arr i QQ rest bl hr hQ;obtain ⟨hn1,hn2⟩ := K2 hn;obtain ⟨tm',h1,h2⟩ := h tm ht
 have ho : arr[i]? = some o := by have := hr 0 (by simp); simpa using this.symm
 simp only [aq_,cl_,av_,wpOpsIn,ho]
 have h1' : Rf E arr.toList o Rr ⟨tm,nt,df,J⟩ = some ⟨tm',nt,df,J₁⟩ := by rw [bl]; exact h1
 have := R3 (K := wpOpsIn (C1 ro) n E.P arr QQ (List.range' (i + 1) r.length ++ rest)) (Q := QQ) hR st h1' (ro := ro) (n := n) (hpl := hn1) fun C' w' a' st' e' =>
  k ro n hn2 C' w' tm' a' h2 st' (ax_ hB e'.next) arr (i + 1) QQ rest bl (fun j hj => by have := hr (j + 1) (by simpa using hj); simp only [bh_] at this; rw [this]; congr 1; omega)
   fun C2 w2 a2 tm2 ρ2 J2 q1 q2 q3 qB q4 => hQ C2 w2 a2 tm2 ρ2 J2 q1 q2 q3 qB ((e'.base hB).trans q4)
 rcases this with ⟨h2,h3⟩ | ⟨h2,h3⟩
 ·rw [if_pos h2]; exact h3
 ·rw [if_neg (by rw [h2]; simp)]; exact ⟨fun _ _ => trivial,h3⟩
def En : Option Nat -> AV -> Ao -> Ao
 | none,_,ρ => ρ
 | some d,v,ρ => (d,v) :: ρ
def C5 (nt : Nat) : Option Nat -> Bool
 | none => true
 | some d => Nat.blt d nt
theorem D0 {tm : Tr AV} {dst : Option Nat} (hd : C5 nt dst = true) (ht : Has tm ρ) (v : AV) : ∃ tm',H3 dst tm nt v = some tm' /\ Has tm' (En dst v ρ) := by
 cases dst with
 | none => exact ⟨tm,rfl,ht⟩
 | some d =>
  refine ⟨tm.put (d + 1) d (some v),?_,ht.put d v⟩;have hd : Nat.blt d nt = true := hd;simp only [H3,hd,cond_true,Dw]
theorem Nc {ops : List Oper} {o : Oper} {Rr : Rec} {s : St} (hg : Cn ops o s.tm = some true) (hn : Fl o.op = true) :
  Rf E ops o Rr s = match opA E o.op Rr s.tm s.sto with
   | some (v,J) => match H3 o.dst s.tm s.nt v with
    | some tm => some ⟨tm,s.nt,s.df,J⟩
    | none => none
   | none => none := by
 unfold Rf;rw [hg];simp only
 split
 ·rename_i c hc; rw [hc] at hn; simp [Fl] at hn
 ·rfl
theorem Zq {ops r : List Oper} {op : Op} {dst : Option Nat} {ty : Nat} {pos : String} {after : Array Edge} {Rr : Rec} {v : AV} {J₁ : Sto} (hR : Bc E Rr) (hn : Fl op = true) (hd : C5 nt dst = true) (h : Bo E Rr op ρ J v J₁)
  (k : TO E nt df B ops r K (En dst v ρ) J₁) : TO E nt df B ops ({ dst := dst,op := op,type := ty,pos := pos,after := after,guard := none } :: r) K ρ J := by
 refine R6 hR (fun tm ht => ?_) k
 obtain ⟨tm',h1,h2⟩ := D0 (dst := dst) hd ht v;refine ⟨tm',?_,h2⟩;rw [Nc (s := ⟨tm,nt,df,J⟩) rfl hn];simp only [h tm ht,h1]
theorem B4 {ops r : List Oper} {f : Operand} {args : Array Operand} {tys : Array Nat} {dst : Option Nat} {ty : Nat} {pos : String} {after : Array Edge} {k : Nat} {first cap vs full : List AV} {Post : AV -> Sto -> Prop} (hd : C5 nt dst = true)
  (hf : A4 E ρ f = some (.fn (.func k) first cap)) (ha : L9 E ρ args.toList = some vs) (hl : first ++ vs ++ cap = full) (hc : A6 E k full J Post)
  (kk : ∀ v J',Post v J' -> TO E nt df B ops r K (En dst v ρ) J') : TO E nt df B ops ({ dst := dst,op := .call ⟨.value f,args,tys⟩,type := ty,pos := pos,after := after,guard := none } :: r) K ρ J := by
 intro ro n hn C w tm a ht st hB arr i QQ rest bl hr hQ;obtain ⟨hn1,hn2⟩ := K2 hn
 have ho : arr[i]? = some { dst := dst,op := .call ⟨.value f,args,tys⟩,type := ty,pos := pos,after := after,guard := none } := by have := hr 0 (by simp); simpa using this.symm
 simp only [aq_,cl_,av_,wpOpsIn,ho];have hw : Region.wanted { dst := dst,op := .call ⟨.value f,args,tys⟩,type := ty,pos := pos,after := after,guard := none } (yielded arr a.tmps) = true := rfl;rw [if_pos hw];refine Ek hn1 ?_;have hV := B3 st.glob st.tmps f;rw [ht.opd hf] at hV;unfold R at hV;obtain ⟨p,q,hV,hp,hq⟩ := hV;have bm := Ec st.glob st.tmps args.toList;rw [ht.opds ha] at bm
 have bt : RL C (nx J) w full (p ++ args.map a.eval ++ q).toList := by
  subst hl;simp only [cv_,c_];exact (hp.append bm).append hq
 obtain ⟨⟨fn,g1,g2,g3⟩,bi⟩ := hc C w _ st.sim st.glob bt
 have bz : (execOp a.eval { dst := dst,op := .call ⟨.value f,args,tys⟩,type := ty,pos := pos,after := after,guard := none }).run E.P w = .ok (.enter k (p ++ args.map a.eval ++ q)) w := by
  have g2' : fn.name ≠ "runtime.NumGoroutine" := by simpa using g2
  have g3' : fn.body ≠ none := fun hh => by rw [hh] at g3; cases g3
  simp [execOp,resolve,hV,Deferred.ofValue,invoke,callFunc,g1,g2',g3']
 unfold Oper.wp;rw [bz,Oper.upon_enter];refine bi.mono fun e w' he => ?_
 cases e with
 | returned x =>
  obtain ⟨v,J',C',k0,k1,k2,k3⟩ := he;obtain ⟨tm',h1,h2⟩ := D0 (dst := dst) hd ht v
  exact kk v J' k0 ro n hn2 C' w' tm' _ h2 (st.put k1 k2 k3 h1) (ax_ hB k2.next) arr (i + 1) QQ rest bl (fun j hj => by have := hr (j + 1) (by simpa using hj); simp only [bh_] at this; rw [this]; congr 1; omega)
   fun C2 w2 a2 tm2 ρ2 J2 q1 q2 q3 qB q4 => hQ C2 w2 a2 tm2 ρ2 J2 q1 q2 q3 qB ((k2.base hB).trans q4)
 | panicked _ => exact he.elim
 | outgrown => exact he.elim
theorem Gn {ops : List Oper} {o oj : Oper} {j d : Nat} {b want : Bool} {tm : Tr AV} (ht : Has tm ρ) (hg : o.guard = some (j,want)) (hj : ops[j]? = some oj) (hd : oj.dst = some d) (hb : Ao.at ρ d = some (.bool b)) : Cn ops o tm = some (cond b want (!want)) := by
 simp only [Cn,hg,hj,hd,ht d _ hb]
theorem Zr {ops r : List Oper} {o oj : Oper} {Rr : Rec} {v : AV} {J₁ : Sto} {j d : Nat} {b want : Bool} (hg : o.guard = some (j,want)) (hj : ops[j]? = some oj) (hdj : oj.dst = some d) (hb : Ao.at ρ d = some (.bool b)) (hw : cond b want (!want) = true)
  (hR : Bc E Rr) (hn : Fl o.op = true) (hd : C5 nt o.dst = true) (h : Bo E Rr o.op ρ J v J₁) (k : TO E nt df B ops r K (En o.dst v ρ) J₁) : TO E nt df B ops (o :: r) K ρ J := by
 refine R6 hR (fun tm ht => ?_) k
 obtain ⟨tm',h1,h2⟩ := D0 (dst := o.dst) hd ht v;refine ⟨tm',?_,h2⟩
 rw [Nc (s := ⟨tm,nt,df,J⟩) (by rw [Gn ht hg hj hdj hb,hw]) hn]
 simp only [h tm ht,h1]
theorem R7 {ops r : List Oper} {o oj : Oper} {j d : Nat} {b want : Bool} (hg : o.guard = some (j,want)) (hj : ops[j]? = some oj) (hdj : oj.dst = some d) (hb : Ao.at ρ d = some (.bool b)) (hw : cond b want (!want) = false)
  (hd : C5 nt o.dst = true) (k : TO E nt df B ops r K (En o.dst A5 ρ) J) : TO E nt df B ops (o :: r) K ρ J := by
 refine R6 di_ (fun tm ht => ?_) k
 obtain ⟨tm',h1,h2⟩ := D0 (dst := o.dst) hd ht A5;refine ⟨tm',?_,h2⟩;unfold Rf;rw [Gn ht hg hj hdj hb,hw];simp only [h1]
end
def Gp : List AV -> Nat -> Ao
 | [],_ => []
 | v :: r,i => (i,v) :: Gp r (i + 1)
theorem K3 : ∀ (l : List AV) (i j : Nat),Ao.at (Gp l i) j = if i <= j /\ j < i + l.length then l[j - i]? else none
 | [],i,j => by simp only [Gp,Ao.at]; rw [if_neg (by simp)]
 | x :: r,i,j => by
  simp only [Gp,Ao.at,aq_]
  by_cases hj : i = j
  ·subst hj; simp [bg_]
  ·have hb : Nat.beq i j = false := by cases hb : Nat.beq i j with | true => exact absurd (aa_ hb) hj | false => rfl
   rw [hb,cond_false,K3 r (i + 1) j]
   by_cases h1 : i + 1 <= j /\ j < i + 1 + r.length
   ·rw [if_pos h1,if_pos Om,show j - i = (j - (i + 1)) + 1 by omega]; rfl
   ·rw [if_neg h1,if_neg Om]
def T0 (E : Env) (ρ : Ao) (J : Sto) : List ResultVar -> Option (List AV)
 | [] => some []
 | .tmp t :: r => match Ao.at ρ t,T0 E ρ J r with
  | some v,some l => some (v :: l)
  | _,_ => none
 | .cell a t :: r => match Bf E.P t with
  | some ti => match Ao.at ρ a with
   | some (.pr b off) => match J.cells b with
    | some vs => match Iq ti.size ti.isAgg (vs.drop off),T0 E ρ J r with
     | some v,some l => some (v :: l)
     | _,_ => none
    | none => none
   | _ => none
  | none => none
theorem R8 {E : Env} {tm : Tr AV} {ρ : Ao} {J : Sto} (ht : Has tm ρ) : ∀ {rs : List ResultVar} {vs : List AV},T0 E ρ J rs = some vs -> Tc E.P tm J rs = some vs
 | [],vs,h => h
 | .tmp t :: r,vs,h => by
  simp only [T0] at h
  split at h
  ·rename_i v l hv hl
   cases h;simp only [Tc,Yr,ht t v hv,R8 ht hl]
  ·cases h
 | .cell a t :: r,vs,h => by
  simp only [T0] at h
  split at h
  ·rename_i ti hti
   split at h
   ·rename_i b off hb
    split at h
    ·rename_i cs hcs
     split at h
     ·rename_i v l hv hl
      cases h;simp only [Tc,Yr,hti,ht a _ hb,hcs,Ll,hv,R8 ht hl]
     ·cases h
    ·cases h
   ·cases h
  ·cases h
def Aef (E : Env) (fn : Func) (N : Nat) (Post : AV -> Sto -> Prop) (ρ : Ao) (J : Sto) : Prop :=
 ∃ vs,T0 E ρ J fn.results.toList = some vs /\ ∃ v' J',H9 J J' /\ N <= nx J' /\ Fz J J' (Td vs) v' /\ Post v' J'
def Ams (K : Ao -> Sto -> Prop) : Dr
 | .normal => K
 | .ret => K
 | .exit _ => fun _ _ => False
theorem callTo {E : Env} {f : Nat} {fn : Func} {c : Code} {args : List AV} {J : Sto} {Post : AV -> Sto -> Prop} (hfn : E.P.funcs[f]? = some fn) (cv : (fn.name == "runtime.NumGoroutine") = false) (hc : fn.body = some c) (hle : Nat.ble args.length fn.ntmps = true)
  (h : WFS J -> AV.unds (nx J) args = true -> T E fn.ntmps [] (nx J) c (Ams (Aef E fn (nx J) Post)) (Gp args 0) J) : A6 E f args J Post := by
 intro C w vs hs hg bm
 refine ⟨⟨fn,hfn,cv,by rw [hc]; rfl⟩,?_⟩
 refine calls_of_wp_defers hfn hc ((wpIn_wide (n := 0)).1 ?_);have hle := ai_ hle;have st := Ma (E := E) (fn := fn) hs hg bm hle
 have ht : Has (H4 args 0 .e) (Gp args 0) := fun i v hv => by
  rw [Hr];rw [K3] at hv
  split at hv
  ·rename_i hi; rw [if_pos hi]; exact hv
  ·cases hv
 refine wpIn_mono (h hs.wfs (RL.unds _ _ bm) none 0 (.inl rfl) C w _ _ ht st nl) fun e a' w' he => ?_
 obtain ⟨x,tm',ρ',J₁,C',h1,h2,h3,h4,hB,h5⟩ := he;subst h1;have fin : Aef E fn (nx J) Post ρ' J₁ -> Leaves E.P fn a'.tmps (fun
   | .returned x,w' => ∃ v J' C',Post v J' /\ Sim E.P C' w' J' /\ Ext C (nx J) w C' (nx J') w' /\ R C' (nx J') w' v x
   | _,_ => False) a'.defers .returning w' := by
  intro hx;obtain ⟨vs₁,r1,v',J',r2,r3,r4,r5⟩ := hx
  have hds : a'.defers = [] := by
   have hd := h4.dfs;cases hds : a'.defers with
   | nil => rfl
   | cons d ds => rw [hds] at hd; unfold DR at hd; exact hd.elim
  obtain ⟨x,k1,k2⟩ := Er (fn := fn) h4.sim h4.tmps (R8 h2 r1);rw [hds];exact ⟨x,k1,v',J',_,r5,h4.sim.frz r2,(h5.trans (fe_ C' J' _ w')).top r3,r4.R h4.sim k2⟩
 cases x with
 | normal => exact fin h3
 | ret => exact fin h3
 | exit id => exact h3.elim
class Abl (E : Env) : Prop where
 ok : ∀ g cs,E.gl g = some cs -> AV.unds 0 cs = true
 lp : E.loops = []
mutual
theorem AV.und_mono {N M : Nat} (h : N <= M) : ∀ (x : AV),AV.und N x = true -> AV.und M x = true
 | .any,_ => rfl
 | .bool _,_ => rfl
 | .int _ _,_ => rfl
 | .str _,_ => rfl
 | .nil _,_ => rfl
 | .flt _ _,_ => rfl
 | .pr a _,k => Dk (an_ (Gb k) h)
 | .sr a _ _ _ _,k => Dk (an_ (Gb k) h)
 | .mp a,k => Dk (an_ (Gb k) h)
 | .it a,k => Dk (an_ (Gb k) h)
 | .stp a,k => Dk (an_ (Gb k) h)
 | .yl a,k => Dk (an_ (Gb k) h)
 | .pv cs,k => AV.unds_mono h cs k
 | .sv cs _ _ _,k => AV.unds_mono h cs k
 | .fn _ p q,k => by simp only [AV.und,ad_] at k ⊢; exact ⟨AV.unds_mono h p k.1,AV.unds_mono h q k.2⟩
 | .ifc _ x,k => AV.und_mono h x k
 | .agg cs,k => AV.unds_mono h cs k
 | .tup cs,k => AV.unds_mono h cs k
theorem AV.unds_mono {N M : Nat} (h : N <= M) : ∀ (l : List AV),AV.unds N l = true -> AV.unds M l = true
 | [],_ => rfl
 | x :: r,k => by simp only [AV.unds,ad_] at k ⊢; exact ⟨AV.und_mono h x k.1,AV.unds_mono h r k.2⟩
end
theorem Fh.frz {E : Env} [Abl E] {C : Ctx} {N : Nat} {w : World} {τ : Sto} (h : Fh C N w E) : Fh (C.keep τ) (nx τ) w E := by
 refine ⟨fun g cs hg => R.cut (C.keep_sub τ) _ _ (AV.unds_mono (ch_ _) cs (Abl.ok g cs hg)) (h.1 g cs hg),fun c P hc => ?_,fun L hL => by rw [Abl.lp] at hL; cases hL⟩
 obtain ⟨h1,h2⟩ := h.2.1 c P hc;refine ⟨fun hh => h1 ?_,h2⟩
 rcases hh with hh | ⟨a,o,hh⟩
 ·exact .inl hh
 ·exact .inr ⟨a,o,(C.keep_sub τ).loc _ _ hh⟩
def T1 (J τ : Sto) : Ao -> Ao -> Prop
 | [],_ => True
 | (i,v') :: r,ρ => (∃ v,Ao.at ρ i = some v /\ Fz J τ v v') /\ T1 J τ r ρ
theorem T1.at {J τ : Sto} : ∀ {ρ' ρ : Ao},T1 J τ ρ' ρ -> ∀ i v',Ao.at ρ' i = some v' -> ∃ v,Ao.at ρ i = some v /\ Fz J τ v v'
 | [],ρ,_,i,v,h => by simp [Ao.at] at h
 | (j,u) :: r,ρ,h,i,v,hv => by
  obtain ⟨h1,h2⟩ := h;simp only [Ao.at] at hv;cases hb : Nat.beq j i with
  | true => rw [hb] at hv; cases hv; have := aa_ hb; subst this; exact h1
  | false => rw [hb] at hv; exact T1.at h2 i v hv
theorem P5 : ∀ (l : Ao) (i : Nat),(Ty l).get i = Ao.at l i
 | [],i => rfl
 | (j,v) :: r,i => by
  show (Tr.put (j + 1) (Ty r) j (some v)).get i = _
  rw [db_];simp only [Ao.at]
  by_cases h : i = j
  ·subst h; rw [if_pos rfl,bg_,cond_true]
  ·rw [if_neg h]
   have hb : Nat.beq j i = false := by cases hb : Nat.beq j i with | true => exact absurd (aa_ hb).symm h | false => rfl
   rw [hb,cond_false,P5 r i]
theorem P6 (l : Ao) : Has (Ty l) l := fun i v h => by rw [P5]; exact h
theorem SSt.frz {E : Env} [Abl E] {C : Ctx} {w : World} {tm : Tr AV} {nt : Nat} {J τ : Sto} {a : Act} {ρ ρ' : Ao} (st : SSt E C w ⟨tm,nt,[],J⟩ a) (ht : Has tm ρ) (hf : H9 J τ) (hs : ∀ i v',Ao.at ρ' i = some v' -> ∃ v,Ao.at ρ i = some v /\ Fz J τ v v') :
  SSt E (C.keep τ) w ⟨Ty ρ',nt,[],τ⟩ a := by
 refine ⟨st.sim.frz hf,Fh.frz st.glob,fun i v hv => ?_,st.size,?_⟩
 ·have hv : (Ty ρ').get i = some v := hv;rw [P5] at hv;obtain ⟨u,h1,h2⟩ := hs i v hv;exact h2.R st.sim (st.tmps i u (ht i u h1))
 ·have := st.dfs;cases hds : a.defers with
  | nil => unfold DR; trivial
  | cons d ds => rw [hds] at this; unfold DR at this; exact this.elim
theorem As9 {E : Env} [Abl E] {nt B : Nat} {c : Code} {Q : Dr} {ρ : Ao} {J : Sto} (τ : Sto) (ρ' : Ao) (hf : H9 J τ) (hB : B <= nx τ) (hs : T1 J τ ρ' ρ) (k : T E nt [] B c Q ρ' τ) : T E nt [] B c Q ρ J :=
 fun ro n hn C w tm a ht st _ => wpIn_mono (k ro n hn (C.keep τ) w _ a (P6 ρ') (st.frz ht hf hs.at) hB) fun e a' w' he => he.from (fe_ C τ B w)
theorem Aou {E : Env} [Abl E] {nt B : Nat} {ops r : List Oper} {K : Ao -> Sto -> Prop} {ρ : Ao} {J : Sto} (τ : Sto) (ρ' : Ao) (hf : H9 J τ) (hB : B <= nx τ) (hs : ∀ i v',Ao.at ρ' i = some v' -> ∃ v,Ao.at ρ i = some v /\ Fz J τ v v') (k : TO E nt [] B ops r K ρ' τ) : TO E nt [] B ops r K ρ J :=
 fun ro n hn C w tm a ht st _ arr i QQ rest h1 h2 hQ => k ro n hn (C.keep τ) w _ a (P6 ρ') (st.frz ht hf hs) hB arr i QQ rest h1 h2 fun C2 w2 a2 tm2 ρ2 J2 q1 q2 q3 qB q4 => hQ C2 w2 a2 tm2 ρ2 J2 q1 q2 q3 qB ((fe_ C τ B w).trans q4)
theorem noR {E : Env} : Bc E (fun _ _ _ => none) := di_
section
variable {E : Env} {nt B : Nat} {df : List (Nat × List AV)} {ρ ρ' : Ao} {J J' : Sto} {K : Ao -> Sto -> Prop}
theorem Af2 {ops r : List Oper} {op : Op} {dst : Option Nat} {ty : Nat} {pos : String} {after : Array Edge} {Pv : AV -> Prop} (hd : C5 nt dst = true)
  (h : ∀ C w tm a,Has tm ρ -> SSt E C w ⟨tm,nt,df,J⟩ a -> ∃ v,Pv v /\ R2 E.P C w J (execOp a.eval { dst := dst,op := op,type := ty,pos := pos,after := after,guard := none }) v J')
  (k : ∀ v,Pv v -> TO E nt df B ops r K (En dst v ρ) J') : TO E nt df B ops ({ dst := dst,op := op,type := ty,pos := pos,after := after,guard := none } :: r) K ρ J := by
 intro ro n hn C w tm a ht st hB arr i QQ rest bl hr hQ;obtain ⟨hn1,hn2⟩ := K2 hn
 have ho : arr[i]? = some { dst := dst,op := op,type := ty,pos := pos,after := after,guard := none } := by have := hr 0 (by simp); simpa using this.symm
 simp only [aq_,cl_,av_,wpOpsIn,ho];have hw : Region.wanted { dst := dst,op := op,type := ty,pos := pos,after := after,guard := none } (yielded arr a.tmps) = true := rfl;rw [if_pos hw];refine Ek hn1 ?_;obtain ⟨v,hpv,x,w',C',h1,h2,h3,h4⟩ := h C w tm a ht st;obtain ⟨tm',g1,g2⟩ := D0 (dst := dst) hd ht v;have go : ∀ y,R C' (nx J') w' v y -> wpOpsIn (C1 ro) n E.P arr QQ (List.range' (i + 1) r.length ++ rest) (a.put dst y) w' := fun y hy =>
  k v hpv ro n hn2 C' w' tm' _ g2 (st.put h3 h4 hy g1) (ax_ hB h4.next) arr (i + 1) QQ rest bl (fun j hj => by have := hr (j + 1) (by simpa using hj); simp only [bh_] at this; rw [this]; congr 1; omega)
   fun C2 w2 a2 tm2 ρ2 J2 q1 q2 q3 qB q4 => hQ C2 w2 a2 tm2 ρ2 J2 q1 q2 q3 qB ((h4.base hB).trans q4)
 unfold Oper.wp
 rcases h1 with h1 | ⟨h1,rfl⟩
 ·rw [h1,Oper.upon_value]; exact go x h2
 ·rw [h1,Oper.upon_skip]; exact go undef h2
theorem Arv {ops r : List Oper} {op : Op} {dst : Option Nat} {ty : Nat} {pos : String} {after : Array Edge} {v : AV} (hd : C5 nt dst = true)
  (h : ∀ C w tm a,Has tm ρ -> SSt E C w ⟨tm,nt,df,J⟩ a -> R2 E.P C w J (execOp a.eval { dst := dst,op := op,type := ty,pos := pos,after := after,guard := none }) v J')
  (k : TO E nt df B ops r K (En dst v ρ) J') : TO E nt df B ops ({ dst := dst,op := op,type := ty,pos := pos,after := after,guard := none } :: r) K ρ J :=
 Af2 (Pv := fun u => u = v) hd (fun C w tm a ht st => ⟨v,rfl,h C w tm a ht st⟩) (fun u hu => by subst hu; exact k)
theorem Aov {P : Program} {C : Ctx} {w : World} (hs : Sim P C w J) {t : TypeId} {n : Nat} {x : AV} {X : Value} (hx : R C (nx J) w x X) {cs : List AV} (h : x.cellsN n = some cs) : H6 P C w J (Instr.box t X) (.pv cs) J := by
 obtain ⟨q1,q2,q3,q4⟩ := H7 h hx;have p := Kc w (.cells X.cells t (0,0));obtain ⟨k1,k2⟩ := hs.push p;refine ⟨_,.pointer (some ⟨w.heap.size,0,none⟩),_,C,?_,rfl,k1,k2,?_⟩
 ·unfold Instr.box
  simp [newVar,newRow]
 ·unfold R
  refine ⟨_,_,rfl,fun _ ho => ?_,f_ p.here (q1.ext k2) q4 fun i v hi => by rwa [bf_,← bb_]⟩
  have := hs.own_lt ho; simp at this
theorem Ar {ops r : List Oper} {t : Nat} {x : Operand} {dst : Option Nat} {ty : Nat} {pos : String} {after : Array Edge} {v : AV} {sz : Nat} {agg : Bool} {cs : List AV} (hi : ldI E.P t = some (sz,agg)) (hx : A4 E ρ x = some v) (hc : v.cellsN sz = some cs) (hd : C5 nt dst = true)
  (k : TO E nt df B ops r K (En dst (.pv cs) ρ) J) : TO E nt df B ops ({ dst := dst,op := .box t x,type := ty,pos := pos,after := after,guard := none } :: r) K ρ J := by
 refine Arv hd (fun C w tm a ht st => ?_) k
 have hv := B3 st.glob st.tmps x;rw [ht.opd hx] at hv;exact .ofRuns (Aov st.sim hv hc)
theorem Zt {ops : List Oper} {t d ty : Nat} {pos : String} {after : Array Edge} {z : List AV} {tm : Tr AV} (hz : zI E.P t = some z) (hd : Nat.blt d nt = true) :
  Rf E ops { dst := some d,op := .alloc t,type := ty,pos := pos,after := after,guard := none } (fun _ _ _ => none) ⟨tm,nt,df,J⟩ = some ⟨tm.put (d + 1) d (some (.pr (nx J) 0)),nt,df,J.new (.cells z)⟩ := by
 rw [Nc (s := ⟨tm,nt,df,J⟩) rfl rfl]
 have : opA E (.alloc t) (fun _ _ _ => none) tm J = some (.pr (nx J) 0,J.new (.cells z)) := by
  unfold zI at hz
  split at hz
  ·rename_i ti hti; simp only [opA,Bd,hti,hz,Yj]
  ·cases hz
 simp only [this,H3,hd,cond_true,Dw]
theorem Ed {ob : List AV} : (J.new (.cells ob)).cells (nx J) = some ob := by
 unfold Sto.cells; rw [ab_,if_pos rfl]
theorem E4 : ∀ {z l : List AV},l.length = z.length -> D9 z 0 l = some l
 | [],[],_ => rfl
 | x :: z,y :: l,h => by
  have := E4 (z := z) (l := l) (by simpa using h)
  simp only [D9,this]
 | [],_ :: _,h => by simp at h
 | _ :: _,[],h => by simp at h
theorem Bz {ops r : List Oper} {t d sz : Nat} {agg : Bool} {x : Operand} {ty ty' : Nat} {pos pos' : String} {after after' : Array Edge} {z cs : List AV} {v : AV} (hz : zI E.P t = some z) (hi : ldI E.P t = some (sz,agg)) (hl : Nat.beq z.length sz = true)
  (hx : ∀ u,A4 E ((d,u) :: ρ) x = some v) (hv : A4 E ρ x = some v) (hc : v.cellsN sz = some cs) (hd : Nat.blt d nt = true) [Abl E] (hdf : df = [])
  (k : TO E nt df B ops r K ((d,.pv cs) :: ρ) J) :
  TO E nt df B ops ({ dst := some d,op := .alloc t,type := ty,pos := pos,after := after,guard := none } :: { dst := none,op := .store t (.tmp d) x,type := ty',pos := pos',after := after',guard := none } :: r) K ρ J := by
 subst hdf;intro ro n hn C w tm a ht st hB
 have hcs : cs.length = z.length := by
  have hb := aa_ hl;have hvR := B3 st.glob st.tmps x;rw [ht.opd hv] at hvR;obtain ⟨q1,q2,_⟩ := H7 hc hvR;have := q1.length;rw [hb];unfold AV.cellsN at hc
  split at hc <;> try (cases hc; done)
  ·cases hb' : Nat.beq ‹List AV›.length sz with
   | true => rw [hb'] at hc; cases hc; exact aa_ hb'
   | false => rw [hb'] at hc; cases hc
  ·cases hb' : Nat.beq sz 1 with
   | true => rw [hb'] at hc; cases hc; exact (aa_ hb').symm
   | false => rw [hb'] at hc; cases hc
 have hwf := st.sim.wfs;have fh : ∀ i u,Ao.at ρ i = some u -> AV.und (nx J) u = true := fun i u hu => R.und _ _ (st.tmps i u (ht i u hu))
 have hvu : AV.und (nx J) v = true := by
  have hvR := B3 st.glob st.tmps x;rw [ht.opd hv] at hvR;exact R.und _ _ hvR
 have hcu : AV.unds (nx J) cs = true := by
  unfold AV.cellsN at hc
  split at hc <;> try (cases hc; done)
  ·cases hb' : Nat.beq ‹List AV›.length sz with
   | true => rw [hb'] at hc; cases hc; exact hvu
   | false => rw [hb'] at hc; cases hc
  ·cases hb' : Nat.beq sz 1 with
   | true => rw [hb'] at hc; cases hc; simp only [AV.unds,hvu,cm_]
   | false => rw [hb'] at hc; cases hc
 have key : TO E nt [] B ops ({ dst := some d,op := .alloc t,type := ty,pos := pos,after := after,guard := none } :: { dst := none,op := .store t (.tmp d) x,type := ty',pos := pos',after := after',guard := none } :: r) K ρ J := by
  refine R6 noR (J₁ := J.new (.cells z)) (ρ₁ := (d,.pr (nx J) 0) :: ρ) (fun tm' ht' => ⟨_,Zt hz hd,ht'.put d _⟩) ?_
  refine Zq noR rfl rfl (B9 (vs := z) (vs' := cs) (ad := nx J) (off := 0) (v := v) (cs := cs) hi (by simp [A4,Ao.at,bg_]) (hx _) hc Ed (E4 hcs)) ?_
  simp only [En];refine Aou J ((d,.pv cs) :: ρ) ?_ hB ?_ k
  ·refine ag_ hwf (by rw [Ak,Aj]; exact fa_ _) fun b hb => ?_
   rw [a_,if_neg Om,ab_,if_neg Om]
  ·intro i u hu;simp only [Ao.at] at hu ⊢;cases hb : Nat.beq d i with
   | true =>
    rw [hb] at hu; simp only [cond_true,ac_] at hu ⊢;subst hu
    refine ⟨_,rfl,.pr (vs := cs) (by rw [a_,if_pos rfl]) ?_ (fp_ hcu)⟩
    cases hg : J.get (nx J) with
    | none => rfl
    | some O => exact absurd (hwf _ _ hg).1 (Nat.lt_irrefl _)
   | false => rw [hb] at hu; exact ⟨u,hu,.same (fh i u hu)⟩
 exact key ro n hn C w tm a ht st hB
def K4 (ρ ρ' : Ao) : Prop := ∀ i v,Ao.at ρ i = some v -> Ao.at ρ' i = some v
theorem K4.refl : K4 ρ ρ := fun _ _ h => h
theorem K4.cons {d : Nat} {v : AV} (hd : Ao.at ρ d = none) (h : K4 ρ ρ') : K4 ρ ((d,v) :: ρ') := fun i u hu => by
 simp only [Ao.at];cases hb : Nat.beq d i with
 | true => have := aa_ hb; subst this; rw [hd] at hu; cases hu
 | false => exact h i u hu
theorem X8 {ops r : List Oper} (h : TO E nt df B ops r K ρ J) (hs : K4 ρ ρ') : TO E nt df B ops r K ρ' J :=
 fun ro n hn C w tm a ht st => h ro n hn C w tm a (fun i v hv => ht i v (hs i v hv)) st
theorem K4.put {d : Nat} {v : AV} (h : K4 ρ ρ') : K4 ((d,v) :: ρ) ((d,v) :: ρ') := fun i u hu => by
 simp only [Ao.at] at hu ⊢;cases hb : Nat.beq d i with
 | true => rw [hb] at hu; exact hu
 | false => rw [hb] at hu; exact h i u hu
theorem Aw {ops : List Oper} {o : Oper} (hg : o.guard = none) : ∀ ρ',K4 ρ ρ' -> ∀ tm,Has tm ρ' -> Cn ops o tm = some true := fun _ _ _ _ => by simp only [Cn,hg]
theorem Ke {ops : List Oper} {o oj : Oper} {j d : Nat} {b want : Bool} (hg : o.guard = some (j,want)) (hj : ops[j]? = some oj) (hdj : oj.dst = some d) (hb : Ao.at ρ d = some (.bool b)) (hw : cond b want (!want) = true) :
  ∀ ρ',K4 ρ ρ' -> ∀ tm,Has tm ρ' -> Cn ops o tm = some true := fun ρ' hs tm ht => by rw [Gn ht hg hj hdj (hs _ _ hb),hw]
theorem X9 {ops r : List Oper} {o : Oper} {t : Nat} {c x y : Operand} {v : AV} (hg : ∀ tm,Has tm ρ -> Cn ops o tm = some true) (hop : o.op = .pick c x y) (dv : o.dst = some t) (ht : Nat.blt t nt = true)
  (h : Bo E (fun _ _ _ => none) (.pick c x y) ρ J v J) (k : TO E nt df B ops r K ((t,v) :: ρ) J) : TO E nt df B ops (o :: r) K ρ J := by
 refine R6 di_ (fun tm hh => ?_) k
 obtain ⟨tm',h1,h2⟩ := D0 (dst := o.dst) (by rw [dv]; exact ht) hh v
 rw [dv] at h2;refine ⟨tm',?_,h2⟩
 rw [Nc (s := ⟨tm,nt,df,J⟩) (hg tm hh) (by rw [hop]; rfl),hop]
 simp only [h tm hh,h1]
theorem Cy (n : Nat) (b q : Bool) {ops r r' : List Oper} {o : Oper} {t : Nat} {c x : Operand} (h0 : A4 E ρ c = some (.bool b))
  (hr : r.drop n = o :: r') (hop : o.op = .pick c x (.const (.bool false))) (dv : o.dst = some t) (ht : Nat.blt t nt = true) (hg : ∀ ρ',K4 ρ ρ' -> ∀ tm,Has tm ρ' -> Cn ops o tm = some true)
  (hon : b = true -> TO E nt df B ops (r.take n) (fun ρ' J' => J' = J /\ K4 ρ ρ' /\ A4 E ρ' x = some (.bool q)) ρ J)
  (ia : b = false -> TO E nt df B ops (r.take n) (fun ρ' J' => J' = J /\ K4 ρ ρ') ρ J)
  (k : TO E nt df B ops r' K ((t,.bool (b && q)) :: ρ) J) : TO E nt df B ops r K ρ J := by
 refine Aot n ?_;rw [hr]
 have b9 : ∀ ρ',K4 ρ ρ' -> A4 E ρ' c = some (.bool b) := fun ρ' hs => by
  cases c with
  | tmp j => exact hs _ _ h0
  | _ => exact h0
 cases b with
 | true =>
  refine (hon rfl).mono fun ρ' J' ⟨h1,h2,h3⟩ => ?_
  subst h1
  exact X9 (hg ρ' h2) hop dv ht (Bu (b9 ρ' h2) rfl h3) (X8 (by simpa using k) h2.put)
 | false =>
  refine (ia rfl).mono fun ρ' J' ⟨h1,h2⟩ => ?_
  subst h1
  exact X9 (hg ρ' h2) hop dv ht (Br (v := .bool false) (b9 ρ' h2) rfl rfl) (X8 (by simpa using k) h2.put)
theorem Cm (n : Nat) (b q : Bool) {ops r r' : List Oper} {o : Oper} {t : Nat} {c x : Operand} (h0 : A4 E ρ c = some (.bool b))
  (hr : r.drop n = o :: r') (hop : o.op = .pick c (.const (.bool true)) x) (dv : o.dst = some t) (ht : Nat.blt t nt = true) (hg : ∀ ρ',K4 ρ ρ' -> ∀ tm,Has tm ρ' -> Cn ops o tm = some true)
  (hon : b = false -> TO E nt df B ops (r.take n) (fun ρ' J' => J' = J /\ K4 ρ ρ' /\ A4 E ρ' x = some (.bool q)) ρ J)
  (ia : b = true -> TO E nt df B ops (r.take n) (fun ρ' J' => J' = J /\ K4 ρ ρ') ρ J)
  (k : TO E nt df B ops r' K ((t,.bool (b || q)) :: ρ) J) : TO E nt df B ops r K ρ J := by
 refine Aot n ?_;rw [hr]
 have b9 : ∀ ρ',K4 ρ ρ' -> A4 E ρ' c = some (.bool b) := fun ρ' hs => by
  cases c with
  | tmp j => exact hs _ _ h0
  | _ => exact h0
 cases b with
 | false =>
  refine (hon rfl).mono fun ρ' J' ⟨h1,h2,h3⟩ => ?_
  subst h1
  exact X9 (hg ρ' h2) hop dv ht (Br (b9 ρ' h2) rfl h3) (X8 (by simpa using k) h2.put)
 | true =>
  refine (ia rfl).mono fun ρ' J' ⟨h1,h2⟩ => ?_
  subst h1
  exact X9 (hg ρ' h2) hop dv ht (Bu (v := .bool true) (b9 ρ' h2) rfl rfl) (X8 (by simpa using k) h2.put)
theorem Arw {ops r : List Oper} {o oj : Oper} {j d : Nat} {want : Bool} (hg : o.guard = some (j,want)) (hj : ops[j]? = some oj) (hdj : oj.dst = some d) (hb : Ao.at ρ d = some A5)
  (hd : C5 nt o.dst = true) (k : TO E nt df B ops r K (En o.dst A5 ρ) J) : TO E nt df B ops (o :: r) K ρ J := by
 refine R6 di_ (fun tm ht => ?_) k
 obtain ⟨tm',h1,h2⟩ := D0 (dst := o.dst) hd ht A5;refine ⟨tm',?_,h2⟩
 have : Cn ops o tm = some false := by simp only [Cn,hg,hj,hdj,ht d _ hb]; rfl
 unfold Rf;rw [this];simp only [h1]
theorem Aow {ops r : List Oper} {oj : Oper} {j dj : Nat} {b want : Bool} {f : Operand} {args : Array Operand} {tys : Array Nat} {dst : Option Nat} {ty : Nat} {pos : String} {after : Array Edge} {k : Nat} {first cap vs full : List AV} {Post : AV -> Sto -> Prop}
  (hj : ops[j]? = some oj) (hdj : oj.dst = some dj) (hb : Ao.at ρ dj = some (.bool b)) (hw : cond b want (!want) = true) (hd : C5 nt dst = true)
  (hf : A4 E ρ f = some (.fn (.func k) first cap)) (ha : L9 E ρ args.toList = some vs) (hl : first ++ vs ++ cap = full) (hc : A6 E k full J Post)
  (kk : ∀ v J',Post v J' -> TO E nt df B ops r K (En dst v ρ) J') : TO E nt df B ops ({ dst := dst,op := .call ⟨.value f,args,tys⟩,type := ty,pos := pos,after := after,guard := some (j,want) } :: r) K ρ J := by
 intro ro n hn C w tm a ht st hB arr i QQ rest bl hr hQ;obtain ⟨hn1,hn2⟩ := K2 hn
 have ho : arr[i]? = some { dst := dst,op := .call ⟨.value f,args,tys⟩,type := ty,pos := pos,after := after,guard := some (j,want) } := by have := hr 0 (by simp); simpa using this.symm
 simp only [aq_,cl_,av_,wpOpsIn,ho]
 have hw' : Region.wanted { dst := dst,op := .call ⟨.value f,args,tys⟩,type := ty,pos := pos,after := after,guard := some (j,want) } (yielded arr a.tmps) = true := by
  refine El (o := { dst := dst,op := .call ⟨.value f,args,tys⟩,type := ty,pos := pos,after := after,guard := some (j,want) }) st.tmps ?_;rw [bl,Gn (o := { dst := dst,op := .call ⟨.value f,args,tys⟩,type := ty,pos := pos,after := after,guard := some (j,want) }) ht rfl hj hdj hb,hw]
 rw [if_pos hw'];refine Ek hn1 ?_;have hV := B3 st.glob st.tmps f;rw [ht.opd hf] at hV;unfold R at hV;obtain ⟨p,q,hV,hp,hq⟩ := hV;have bm := Ec st.glob st.tmps args.toList;rw [ht.opds ha] at bm
 have bt : RL C (nx J) w full (p ++ args.map a.eval ++ q).toList := by
  subst hl;simp only [cv_,c_];exact (hp.append bm).append hq
 obtain ⟨⟨fn,g1,g2,g3⟩,bi⟩ := hc C w _ st.sim st.glob bt
 have bz : (execOp a.eval { dst := dst,op := .call ⟨.value f,args,tys⟩,type := ty,pos := pos,after := after,guard := some (j,want) }).run E.P w = .ok (.enter k (p ++ args.map a.eval ++ q)) w := by
  have g2' : fn.name ≠ "runtime.NumGoroutine" := by simpa using g2
  have g3' : fn.body ≠ none := fun hh => by rw [hh] at g3; cases g3
  simp [execOp,resolve,hV,Deferred.ofValue,invoke,callFunc,g1,g2',g3']
 unfold Oper.wp;rw [bz,Oper.upon_enter];refine bi.mono fun e w' he => ?_
 cases e with
 | returned x =>
  obtain ⟨v,J',C',k0,k1,k2,k3⟩ := he;obtain ⟨tm',h1,h2⟩ := D0 (dst := dst) hd ht v
  exact kk v J' k0 ro n hn2 C' w' tm' _ h2 (st.put k1 k2 k3 h1) (ax_ hB k2.next) arr (i + 1) QQ rest bl (fun j hj => by have := hr (j + 1) (by simpa using hj); simp only [bh_] at this; rw [this]; congr 1; omega)
   fun C2 w2 a2 tm2 ρ2 J2 q1 q2 q3 qB q4 => hQ C2 w2 a2 tm2 ρ2 J2 q1 q2 q3 qB ((k2.base hB).trans q4)
 | panicked _ => exact he.elim
 | outgrown => exact he.elim
end
section
open Go Go.Proofs
instance : Abl Ew := ⟨fun g cs h => (by
 have h : glW g = some cs := h;unfold glW at h
 split at h
 ·cases h; rfl
 ·cases h),rfl⟩
theorem Az {f : Nat} {fn : Func} {c : Code} {args : List AV} {J : Sto} {Post : AV -> Sto -> Prop} (hfn : Tryz.prog.funcs[f]? = some fn) (hc : fn.body = some c) (hle : Nat.ble args.length fn.ntmps = true)
  (h : WFS J -> AV.unds (nx J) args = true -> T Ew fn.ntmps [] (nx J) c (Ams (Aef Ew fn (nx J) Post)) (Gp args 0) J) : A6 Ew f args J Post :=
 callTo hfn (Tx f fn hfn) hc hle h
end
abbrev Str := List UInt8
def sV (s : Str) : AV := .str (s.map UInt8.toNat)
def slV {α : Type} (enc : α -> List AV) (sz : Nat) (l : List α) : AV := .sv (l.flatMap enc) sz l.length none
def bV (b : Bool) : AV := .bool b
def iV (n : Int) : AV := .int .i64 n
theorem Fj {s t : Str} : (s.map UInt8.toNat = t.map UInt8.toNat) ↔ s = t := List.map_inj_right (fun a b h => UInt8.toNat_inj.1 h)
theorem Fm {α : Type} {enc : α -> List AV} {sz : Nat} (he : ∀ a,(enc a).length = sz) : ∀ l : List α,(l.flatMap enc).length = l.length * sz
 | [] => by simp
 | a :: r => by simp only [cn_,az_,he,Fm he r,aq_,fn_]; omega
theorem Vs {α : Type} {enc : α -> List AV} {sz : Nat} (he : ∀ a,(enc a).length = sz) : ∀ (l : List α) (i : Nat),(l.flatMap enc).drop (i * sz) = (l.drop i).flatMap enc
 | l,0 => by simp
 | [],i + 1 => by simp
 | a :: r,i + 1 => by
  simp only [cn_,List.drop_succ_cons,fn_];rw [← Vs he r i,en_,← fc_,List.drop_left' (he a)]
theorem Akq {α : Type} {enc : α -> List AV} {sz : Nat} (he : ∀ a,(enc a).length = sz) {l : List α} {i : Nat} {a : α} (h : l[i]? = some a) : (l.flatMap enc).drop (i * sz) = enc a ++ (l.drop (i + 1)).flatMap enc := by
 rw [Vs he];obtain ⟨hi,rfl⟩ := ae_.1 h;rw [b_ hi,cn_]
section
variable {E : Env} {ρ : Ao} {J : Sto} {Rr : Rec} {t n : Nat} {x y : Operand} {α : Type} {enc : α -> List AV} {sz : Nat} {l : List α}
theorem Aq {t₀ : Nat} (hi : Fd E.P t₀ = true) (hx : A4 E ρ x = some (slV enc sz l)) : Bo E Rr (.call ⟨.builtin .len,#[x],#[t₀]⟩) ρ J (.int .i64 (.ofNat l.length)) J :=
 Em hi hx rfl rfl
theorem Ya {t₀ : Nat} {s : Str} (hi : Gw E.P t₀ = true) (hx : A4 E ρ x = some (sV s)) : Bo E Rr (.call ⟨.builtin .len,#[x],#[t₀]⟩) ρ J (.int .i64 (.ofNat s.length)) J := by
 have := Amp (Rr := Rr) (J := J) hi hx
 rwa [cs_] at this
theorem Ax {by' i : Nat} {zz : Option (List AV)} {k : IntKind} {a : α} (hi : elI E.P t = some (sz,by',zz)) (he : ∀ a,(enc a).length = sz) (hx : A4 E ρ x = some (slV enc sz l)) (hy : A4 E ρ y = some (.int k (.ofNat i))) (ha : l[i]? = some a) :
  Bo E Rr (.indexAddr t x y) ρ J (.pv (enc a ++ (l.drop (i + 1)).flatMap enc)) J := by
 have h := Afz (Rr := Rr) (J := J) hi hx hy (m := l.length) rfl rfl (ae_.1 ha).1
 have e : Afy (slV enc sz l) (i * sz) = .pv (enc a ++ (l.drop (i + 1)).flatMap enc) := by
  show AV.pv ((l.flatMap enc).drop (i * sz)) = _
  rw [Akq he ha]
 rw [e] at h;exact h
theorem I0 {p q : Str} {ty : Nat} (hi : okI E.P t = true) (hx : A4 E ρ x = some (sV p)) (hy : A4 E ρ y = some (sV q)) : Bo E Rr (.binOp .eql t x y ty) ρ J (.bool (decide (p = q))) J := by
 have := At3 (Rr := Rr) (J := J) (ty := ty) hi hx hy
 simpa only [Fj] using this
theorem Lx {p q : Str} {ty : Nat} (hi : okI E.P t = true) (hx : A4 E ρ x = some (sV p)) (hy : A4 E ρ y = some (sV q)) : Bo E Rr (.binOp .neq t x y ty) ρ J (.bool (!decide (p = q))) J := by
 have := At4 (Rr := Rr) (J := J) (ty := ty) hi hx hy
 simpa only [Fj] using this
end
theorem Hs : ∀ {l r : List AV},D6 l.length (l ++ r) = some l
 | [],r => rfl
 | x :: l,r => by simp only [aq_,av_,D6,Hs (l := l)]
theorem Cj {l : List AV} {sz : Nat} (h : l.length = sz) (r : List AV) : Iq sz true (l ++ r) = some (.agg l) := by
 subst h; simp only [Iq,Hs]
theorem A9 {l : List AV} {sz : Nat} (h : l.length = sz) : Iq sz true l = some (.agg l) := by
 have := Cj h []
 rwa [cr_] at this
theorem Bj {l : List AV} {sz : Nat} (h : l.length = sz) : (AV.agg l).cellsN sz = some l := by
 subst h; simp only [AV.cellsN,bg_,cond_true]
def A7 {α : Type} (p : α -> Bool) : List α -> Nat -> Int
 | [],_ => -1
 | a :: r,i => cond (p a) (.ofNat i) (A7 p r (i + 1))
theorem Af3 {α : Type} {p : α -> Bool} : ∀ (l : List α) (i : Nat),(0 : Int) <= A7 p l i ↔ l.any p = true
 | [],i => by simp [A7]
 | a :: r,i => by
  rw [List.any_cons];unfold A7
  by_cases hp : p a = true
  ·rw [hp]; simp
  ·have hp : p a = false := by simpa using hp
   rw [hp,cond_false,Bool.false_or];exact Af3 r (i + 1)
theorem E5 {α : Type} {p : α -> Bool} (l : List α) : decide (Int.ofNat 0 <= A7 p l 0) = l.any p := by
 have := Af3 (p := p) l 0
 by_cases h : l.any p = true
 ·rw [h]; exact decide_eq_true (this.2 h)
 ·rw [Bool.not_eq_true] at h; rw [h]; exact decide_eq_false (fun hh => by rw [this.1 hh] at h; cases h)
structure Pr where
 a : Str
 b : Str
 deriving DecidableEq
structure Hp where
 label : Str
 floating : Bool
 text : List Str
structure Fr where
 label : Str
 thm : Bool
 hyps : List Hp
 apart : List Pr
 text : List Str
 dummies : List Hp
 wide : List Pr
 proof : List Str
structure Db where
 consts : List Str
 vars : List Str
 frames : List Fr
inductive Au where
 | node (label : Str) (kids : List Au)
structure Sb where
 label : Str
 tree : Au
structure Pt where
 symbol : Str
 sort : Str
 arg : Int
structure Rl where
 label : Str
 sort : Str
 parts : List Pt
 var : Bool
structure Gr where
 sorts : List Str
 rules : List Rl
abbrev A3 (l : List Str) : AV := slV (fun s => [sV s]) 1 l
def eP (p : Pr) : List AV := [sV p.a,sV p.b]
def eH (h : Hp) : List AV := [sV h.label,.bool h.floating,A3 h.text]
def eF (f : Fr) : List AV := [sV f.label,.bool f.thm,slV eH 3 f.hyps,slV eP 2 f.apart,A3 f.text,slV eH 3 f.dummies,slV eP 2 f.wide,A3 f.proof]
def dbV (d : Db) : AV := .agg [A3 d.consts,A3 d.vars,slV eF 8 d.frames]
mutual
def eT : Au -> List AV
 | .node l ks => [sV l,.sv (eTs ks) 2 ks.length none]
def eTs : List Au -> List AV
 | [] => []
 | t :: r => eT t ++ eTs r
end
theorem Af4 : ∀ l : List Au,eTs l = l.flatMap eT
 | [] => by simp [eTs]
 | t :: r => by simp [eTs,Af4 r]
theorem Ne (l : Str) (ks : List Au) : eT (.node l ks) = [sV l,slV eT 2 ks] := by simp [eT,slV,Af4]
theorem A2 (t : Au) : (eT t).length = 2 := by cases t; simp [eT]
def Bg (t : Au) : AV := .agg (eT t)
def eS (s : Sb) : List AV := sV s.label :: eT s.tree
theorem Ai3 (s : Sb) : (eS s).length = 3 := by simp [eS,A2]
def ePt (p : Pt) : List AV := [sV p.symbol,sV p.sort,iV p.arg]
def eR (r : Rl) : List AV := [sV r.label,sV r.sort,slV ePt 3 r.parts,.bool r.var]
def grV (g : Gr) : AV := .agg [A3 g.sorts,slV eR 4 g.rules]
theorem Ab8 (A : Nat -> Nat) (i : Nat) : ∀ (l : List Edge) (s : Nat),(l.foldl (fun s e => if Region.binds .any e then s ||| 2 ^ e.on ||| A e.on else s) s).testBit i = true ->
  s.testBit i = true ∨ ∃ e ∈ l,Region.binds .any e = true /\ (i = e.on ∨ (A e.on).testBit i = true)
 | [],s,h => .inl h
 | e :: l,s,h => by
  simp only [gh_] at h
  rcases Ab8 A i l _ h with h1 | ⟨f,h1,h2⟩
  ·by_cases hb : Region.binds .any e = true
   ·rw [if_pos hb] at h1;simp only [Nat.testBit_or,bc_,Nat.testBit_two_pow,decide_eq_true_eq] at h1
    rcases h1 with (h1 | h1) | h1
    ·exact .inl h1
    ·exact .inr ⟨e,by simp,hb,.inl h1.symm⟩
    ·exact .inr ⟨e,by simp,hb,.inr h1⟩
   ·rw [if_neg hb] at h1; exact .inl h1
  ·exact .inr ⟨f,ak_ _ h1,h2⟩
theorem Ab9 (val : Array Nat -> Oper -> Nat) : ∀ (l : List Oper) (acc : Array Nat),
  (l.foldl (fun acc o => acc.push (val acc o)) acc).size = acc.size + l.length /\ (∀ k,k < acc.size -> (l.foldl (fun acc o => acc.push (val acc o)) acc)[k]? = acc[k]?) /\
  ∀ (k : Nat) (o : Oper),l[k]? = some o -> ∃ A : Array Nat,A.size = acc.size + k /\ (∀ m,m < A.size -> (l.foldl (fun acc o => acc.push (val acc o)) acc)[m]? = A[m]?) /\ (l.foldl (fun acc o => acc.push (val acc o)) acc)[acc.size + k]? = some (val A o)
 | [],acc => ⟨by simp,fun k _ => rfl,fun k o h => by simp at h⟩
 | x :: l,acc => by
  obtain ⟨h1,h2,h3⟩ := Ab9 val l (acc.push (val acc x));simp only [gh_];simp only [Array.size_push] at h1 h2 h3
  refine ⟨by rw [h1]; simp; omega,fun k hk => ?_,fun k o hk => ?_⟩
  ·rw [h2 k Om,du_ hk]; exact (bw_ hk).symm
  ·cases k with
   | zero =>
    simp at hk; subst hk
    refine ⟨acc,rfl,fun m hm => ?_,?_⟩
    ·rw [h2 m Om,du_ hm]; exact (bw_ hm).symm
    ·rw [dn_,h2 acc.size Om]; simp
   | succ k =>
    obtain ⟨A,a1,a2,a3⟩ := h3 k o (by simpa using hk)
    exact ⟨A,by omega,a2,by rw [← a3]; congr 1; omega⟩
theorem W7 {ops : Array Oper} {j : Nat} {o : Oper} (ho : ops[j]? = some o) {i : Nat} (h : ((Region.before ops).getD j 0).testBit i = true) :
  ∃ e ∈ o.after,Region.binds .any e = true /\ (i = e.on ∨ ((Region.before ops).getD e.on 0).testBit i = true) := by
 obtain ⟨f,hf⟩ : ∃ f : Array Nat -> Oper -> Nat,(∀ A o,f A o = o.after.toList.foldl (fun s e => if Region.binds .any e then s ||| 2 ^ e.on ||| A.getD e.on 0 else s) 0) /\
   Region.before ops = ops.toList.foldl (fun acc o => acc.push (f acc o)) #[] := by
  refine ⟨fun A o => o.after.foldl (fun s e => if Region.binds .any e then s ||| 2 ^ e.on ||| A.getD e.on 0 else s) 0,fun A o => by simp only []; rw [← er_],?_⟩
  unfold Region.before;rw [← er_]
 obtain ⟨hf1,hf2⟩ := hf;obtain ⟨_,_,h3⟩ := Ab9 f ops.toList #[]
 obtain ⟨A,a1,a2,a3⟩ := h3 j o (by simpa using ho)
 rw [← hf2] at a2 a3
 have hv : (Region.before ops).getD j 0 = f A o := by
  rw [ay_]
  have : (#[] : Array Nat).size + j = j := by simp
  rw [this] at a3; rw [a3]; rfl
 rw [hv,hf1] at h
 rcases Ab8 (fun k => A.getD k 0) i _ 0 h with h0 | ⟨e,h4,h5,h6⟩
 ·simp at h0
 ·refine ⟨e,by simpa using h4,h5,h6.imp id fun h7 => ?_⟩
  by_cases hk : e.on < A.size
  ·rw [ay_,a2 _ hk,← ay_]; exact h7
  ·have : A.getD e.on 0 = 0 := by rw [ay_,Array.getElem?_eq_none Om]; rfl
   simp only [this,Nat.zero_testBit] at h7; cases h7
end Go.AM
