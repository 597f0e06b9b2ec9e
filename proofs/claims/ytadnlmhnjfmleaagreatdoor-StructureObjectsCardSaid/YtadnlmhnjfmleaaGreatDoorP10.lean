/- A part of the proof; shortened by program. -/
import Derived.Test.YtadnlmhnjfmleaaGreatDoorP09
set_option maxRecDepth 100000
set_option maxHeartbeats 4000000
set_option linter.unusedSimpArgs false
set_option linter.unusedVariables false
namespace Go.AM
open Go
def Zu (E : Env) (ρ : Ad) (fl : List (Nat × Nat)) : List (Nat × Operand) -> Option (List (Nat × Nat × AV))
 | [] => some []
 | (i,x) :: r => match fl[i]?,Ai E ρ x,Zu E ρ fl r with
  | some (o,n),some v,some l => some ((o,n,v) :: l)
  | _,_,_ => none
def Vr (E : Env) (ρ : Ad) (sz : Nat) : List (Nat × Operand) -> Option (List (Nat × Nat × AV))
 | [] => some []
 | (i,x) :: r => match Ai E ρ x,Vr E ρ sz r with
  | some v,some l => some ((i * sz,sz,v) :: l)
  | _,_ => none
section
variable {E : Env} {ρ : Ad} {J J' : Sto} {tm : Tr AV} {Rr : Rec}
theorem Aks {P : Program} : ∀ {fs : List Field} {fl : List (Nat × Nat)},bdF P fs = some fl -> ∀ (i : Nat) (p : Nat × Nat),fl[i]? = some p -> ∃ (f : Field) (ti : TI),fs[i]? = some f /\ Aw P f.type = some ti /\ p = (f.offset,ti.size)
 | [],fl,h,i,p,hp => by simp only [bdF,ac_] at h; subst h; simp at hp
 | f :: r,fl,h,i,p,hp => by
  simp only [bdF] at h
  split at h
  ·rename_i ti l hti hl
   cases h;cases i with
   | zero => simp at hp; exact ⟨f,ti,rfl,hti,hp.symm⟩
   | succ i => obtain ⟨g,tj,h1,h2,h3⟩ := Aks hl i p (by simpa using hp); exact ⟨g,tj,by simpa using h1,h2,h3⟩
  ·cases h
theorem Agn (h : Has tm ρ) {fs : List Field} {fl : List (Nat × Nat)} (hf : bdF E.P fs = some fl) : ∀ {l : List (Nat × Operand)} {ps : List (Nat × Nat × AV)},Zu E ρ fl l = some ps -> Ir E.P E tm fs l = some ps
 | [],ps,hp => by simp only [Zu,ac_] at hp; subst hp; rfl
 | (i,x) :: r,ps,hp => by
  simp only [Zu] at hp
  split at hp
  ·rename_i o n v l h1 h2 h3
   cases hp;obtain ⟨f,ti,k1,k2,k3⟩ := Aks hf i _ h1;cases k3;simp only [Ir,k1,Agn h hf h3,k2,h.opd h2]
  ·cases hp
theorem Zv (h : Has tm ρ) {sz : Nat} : ∀ {l : List (Nat × Operand)} {ps : List (Nat × Nat × AV)},Vr E ρ sz l = some ps -> Ht E tm sz l = ps
 | [],ps,hp => by simp only [Vr,ac_] at hp; subst hp; rfl
 | (i,x) :: r,ps,hp => by
  simp only [Vr] at hp
  split at hp
  ·rename_i v l h2 h3
   cases hp;simp only [Ht,h.opd h2,Zv h h3]
  ·cases hp
theorem Aog {t : Nat} {parts : Array (Nat × Operand)} {z cs : List AV} {fl : List (Nat × Nat)} {ps : List (Nat × Nat × AV)} (hi : bdI E.P t = some (z,fl)) (hp : Zu E ρ fl parts.toList = some ps) (hf : S0 z ps = some cs) :
  A0 E Rr (.build t parts) ρ J (.agg cs) J := fun tm h => by
 unfold bdI at hi
 split at hi
 ·rename_i ti hti
  split at hi
  ·rename_i z' fs hz hd
   split at hi
   ·rename_i l h1 h2
    cases hi;simp only [opA,Ar,hti,hz,hd,h1,Agn h h2 hp,Lk,hf]
   ·cases hi
  ·cases hi
 ·cases hi
theorem Ay {t len sz by' : Nat} {z cs : List AV} {parts : Array (Nat × Operand)} {ps : List (Nat × Nat × AV)} (hi : elI E.P t = some (sz,by',some z)) (hby : ∀ e,E.byref e = false) (hl : (Nat.ble (len * sz) 16777216 && Nat.beq z.length sz) = true)
  (hp : Vr E ρ sz parts.toList = some ps) (hf : S0 (rep z len) ps = some cs) : A0 E Rr (.buildSlice t len parts) ρ J (.sv cs sz len (some len)) J := fun tm h => by
 obtain ⟨ti,e,te,h1,h2,h3,h4,h5,h6⟩ := T0 hi;subst h4;simp only [opA,Ar,h1,h2,h3,h6,hl,hby,Zv h hp,Hj,hf]
theorem Aoh {α : Type} {enc : α -> List AV} {sz : Nat} (he : ∀ a,(enc a).length = sz) (l : List α) {a b : Nat} (hab : a <= b) (hb : b <= l.length) :
  Di ((b - a) * sz) ((l.flatMap enc).drop (a * sz)) = some (((l.take b).drop a).flatMap enc) := by
 rw [Vp he]
 have bn : ((l.take b).drop a).length = b - a := by simp; omega
 have e : l.drop a = (l.take b).drop a ++ l.drop b := by
  have h1 : l = l.take b ++ l.drop b := (bx_ b l).symm
  calc l.drop a = (l.take b ++ l.drop b).drop a := by rw [← h1]
   _ = (l.take b).drop a ++ l.drop b := by rw [fq_ (by simp; omega)]
 rw [e,da_];have := E8 (l := ((l.take b).drop a).flatMap enc) (r := (l.drop b).flatMap enc)
 rwa [D7 he,bn] at this
theorem Ajd {α : Type} {enc : α -> List AV} {t sz by' a b : Nat} {zz : Option (List AV)} {l : List α} {x : Operand} {lo hi mx : Option Operand} {alo ahi amx : Option AV} {c : Option Nat} (hel : elI E.P t = some (sz,by',zz)) (he : ∀ a,(enc a).length = sz)
  (hx : Ai E ρ x = some (slV enc sz l)) (h1 : Iy E ρ lo = some alo) (h2 : Iy E ρ hi = some ahi) (h3 : Iy E ρ mx = some amx) (hb : C1 l.length none alo ahi amx = some (a,b,c)) (hab : a <= b) (hbl : b <= l.length) :
  A0 E Rr (.slice t x lo hi mx) ρ J (.sv (((l.take b).drop a).flatMap enc) sz (b - a) c) J := fun tm h => by
 obtain ⟨ti,e,te,k1,k2,k3,k4,k5,k6⟩ := T0 hel;subst k4;simp only [opA,Ar,k1,k2,k3,h.opd hx,h.opdO h1,h.opdO h2,h.opdO h3,slV,Ml,bm_,hb,Aoh he l hab hbl,Ag]
theorem A1 {t t2 sz by' n : Nat} {z : List AV} {x y : Operand} {d s v : AV} {new : List AV} (hi : elI E.P t = some (sz,by',some z)) (hl : Nat.beq z.length sz = true) (hs : Kj E.P t2 = true) (hx : Ai E ρ x = some d) (hy : Ai E ρ y = some s)
  (hn : lenA s = some n) (fa : Dj J sz s n = some new) (ha : Cf J sz by' d n new = some (v,J')) : A0 E Rr (.call ⟨.builtin .append,#[x,y],#[t,t2]⟩) ρ J v J' := fun tm h => by
 obtain ⟨ti,e,te,h1,h2,h3,h4,h5,h6⟩ := T0 hi;subst h4 h5;unfold Kj at hs
 split at hs
 ·rename_i t2i ht2
  split at hs
  ·rename_i e2 hd2
   simp only [opA,Ar,h1,Dp,h2,h3,ht2,h6,hl,hd2,h.opd hx,h.opd hy,opds,Tc,hn,fa,ha]
  ·cases hs
 ·cases hs
def Below (N : Nat) (J J' : Sto) : Prop := nx J <= nx J' /\ ∀ a,a < N -> J'.get a = J.get a
theorem Below.rfl' {N : Nat} : Below N J J := ⟨nl,fun _ _ => rfl⟩
abbrev dv_ := @Below.rfl'
theorem Below.trans {N : Nat} {J'' : Sto} (h : Below N J J') (k : Below N J' J'') : Below N J J'' := ⟨bc_ h.1 k.1,fun a ha => (k.2 a ha).trans (h.2 a ha)⟩
end
theorem Below.new {N : Nat} {J J' : Sto} (h : Below N J J') (hN : N <= nx J) (o : AO) : Below N J (J'.new o) :=
 ⟨by rw [Ac]; have := h.1; omega,fun a ha => by rw [ab_,if_neg (by have := h.1; omega)]; exact h.2 a ha⟩
theorem Below.set {N a : Nat} {J J' : Sto} (h : Below N J J') (ha : N <= a) (o : AO) : Below N J (J'.set a o) :=
 ⟨by rw [Ae]; exact h.1,fun b hb => by rw [a_,if_neg Om]; exact h.2 b hb⟩
theorem Hl.below {J J' : Sto} (hw : WFS J) (h : Below (nx J) J J') : Hl J' J := ag_ hw h.1 h.2
abbrev as_ := @Hl.below
theorem Wy {N : Nat} : ∀ {l m : List AV},AV.unds N (l ++ m) = (AV.unds N l && AV.unds N m)
 | [],m => by simp [AV.unds]
 | x :: l,m => by simp only [av_,AV.unds,Wy (l := l),Bool.and_assoc]
theorem Br {N : Nat} {α : Type} {enc : α -> List AV} (h : ∀ a,AV.unds N (enc a) = true) : ∀ l : List α,AV.unds N (l.flatMap enc) = true
 | [] => rfl
 | a :: r => by rw [ch_,Wy,h a,Br h r]; rfl
theorem Cw {N : Nat} {α : Type} {enc : α -> List AV} {sz : Nat} (h : ∀ a,AV.unds N (enc a) = true) (l : List α) : AV.und N (slV enc sz l) = true := Br h l
theorem Aci (A : Nat -> Nat) (i : Nat) : ∀ (l : List Edge) (s : Nat),(l.foldl (fun s e => if Region.binds .any e then s ||| 2 ^ e.on ||| A e.on else s) s).testBit i = true ->
  s.testBit i = true ∨ ∃ e ∈ l,Region.binds .any e = true /\ (i = e.on ∨ (A e.on).testBit i = true)
 | [],s,h => .inl h
 | e :: l,s,h => by
  simp only [dk_] at h
  rcases Aci A i l _ h with h1 | ⟨f,h1,h2⟩
  ·by_cases hb : Region.binds .any e = true
   ·rw [if_pos hb] at h1;simp only [Nat.testBit_or,bh_,Nat.testBit_two_pow,decide_eq_true_eq] at h1
    rcases h1 with (h1 | h1) | h1
    ·exact .inl h1
    ·exact .inr ⟨e,by simp,hb,.inl h1.symm⟩
    ·exact .inr ⟨e,by simp,hb,.inr h1⟩
   ·rw [if_neg hb] at h1; exact .inl h1
  ·exact .inr ⟨f,am_ _ h1,h2⟩
theorem Acj (val : Array Nat -> Oper -> Nat) : ∀ (l : List Oper) (acc : Array Nat),
  (l.foldl (fun acc o => acc.push (val acc o)) acc).size = acc.size + l.length /\ (∀ k,k < acc.size -> (l.foldl (fun acc o => acc.push (val acc o)) acc)[k]? = acc[k]?) /\
  ∀ (k : Nat) (o : Oper),l[k]? = some o -> ∃ A : Array Nat,A.size = acc.size + k /\ (∀ m,m < A.size -> (l.foldl (fun acc o => acc.push (val acc o)) acc)[m]? = A[m]?) /\ (l.foldl (fun acc o => acc.push (val acc o)) acc)[acc.size + k]? = some (val A o)
 | [],acc => ⟨by simp,fun k _ => rfl,fun k o h => by simp at h⟩
 | x :: l,acc => by
  obtain ⟨h1,h2,h3⟩ := Acj val l (acc.push (val acc x));simp only [dk_];simp only [Array.size_push] at h1 h2 h3
  refine ⟨by rw [h1]; simp; omega,fun k hk => ?_,fun k o hk => ?_⟩
  ·rw [h2 k Om,ei_ hk]; exact (ce_ hk).symm
  ·cases k with
   | zero =>
    simp at hk; subst hk
    refine ⟨acc,rfl,fun m hm => ?_,?_⟩
    ·rw [h2 m Om,ei_ hm]; exact (ce_ hm).symm
    ·rw [dx_,h2 acc.size Om]; simp
   | succ k =>
    obtain ⟨A,a1,a2,a3⟩ := h3 k o (by simpa using hk)
    exact ⟨A,by omega,a2,by rw [← a3]; congr 1; omega⟩
theorem Wz {ops : Array Oper} {j : Nat} {o : Oper} (ho : ops[j]? = some o) {i : Nat} (h : ((Region.before ops).getD j 0).testBit i = true) :
  ∃ e ∈ o.after,Region.binds .any e = true /\ (i = e.on ∨ ((Region.before ops).getD e.on 0).testBit i = true) := by
 obtain ⟨f,hf⟩ : ∃ f : Array Nat -> Oper -> Nat,(∀ A o,f A o = o.after.toList.foldl (fun s e => if Region.binds .any e then s ||| 2 ^ e.on ||| A.getD e.on 0 else s) 0) /\
   Region.before ops = ops.toList.foldl (fun acc o => acc.push (f acc o)) #[] := by
  refine ⟨fun A o => o.after.foldl (fun s e => if Region.binds .any e then s ||| 2 ^ e.on ||| A.getD e.on 0 else s) 0,fun A o => by simp only []; rw [← fd_],?_⟩
  unfold Region.before;rw [← fd_]
 obtain ⟨hf1,hf2⟩ := hf;obtain ⟨_,_,h3⟩ := Acj f ops.toList #[]
 obtain ⟨A,a1,a2,a3⟩ := h3 j o (by simpa using ho)
 rw [← hf2] at a2 a3
 have hv : (Region.before ops).getD j 0 = f A o := by
  rw [ba_]
  have : (#[] : Array Nat).size + j = j := by simp
  rw [this] at a3; rw [a3]; rfl
 rw [hv,hf1] at h
 rcases Aci (fun k => A.getD k 0) i _ 0 h with h0 | ⟨e,h4,h5,h6⟩
 ·simp at h0
 ·refine ⟨e,by simpa using h4,h5,h6.imp id fun h7 => ?_⟩
  by_cases hk : e.on < A.size
  ·rw [ba_,a2 _ hk,← ba_]; exact h7
  ·have : A.getD e.on 0 = 0 := by rw [ba_,Array.getElem?_eq_none Om]; rfl
   simp only [this,Nat.zero_testBit] at h7; cases h7
section
variable {E : Env} {ops : List Oper} {Rr : Rec} {nt : Nat}
def Ago (E : Env) (ops : List Oper) (Rr : Rec) (o : Oper) (tm : Tr AV) (J : Sto) (v : AV) (J' : Sto) : Prop :=
 (B7 ops o tm = some true /\ opA E o.op Rr tm J = some (v,J')) ∨ (B7 ops o tm = some false /\ v = An /\ J' = J)
def cnt (E : Env) : List Oper -> Nat -> Nat
 | [],_ => 0
 | _ :: _,0 => 0
 | o :: r,k + 1 => (if Bv (A5 E o.op) = true then 1 else 0) + cnt E r k
inductive Lex (E : Env) (ops : List Oper) (Rr : Rec) (nt : Nat) : List Oper -> Tr AV -> Sto -> List (Tr AV × AV) -> List Sto -> Tr AV -> Sto -> Prop
 | nil {tm J} : Lex E ops Rr nt [] tm J [] [] tm J
 | eff {o r tm J v J₁ tm₁ log eps tm' J'} : Bv (A5 E o.op) = true -> Ago E ops Rr o tm J v J₁ -> Hu o.dst tm nt v = some tm₁ -> Lex E ops Rr nt r tm₁ J₁ log eps tm' J' ->
   Lex E ops Rr nt (o :: r) tm J ((tm,v) :: log) (J₁ :: eps) tm' J'
 | calm {o r tm J v J₁ tm₁ log eps tm' J'} : Bv (A5 E o.op) = false -> Ago E ops Rr o tm J v J₁ -> Hu o.dst tm nt v = some tm₁ -> Lex E ops Rr nt r tm₁ J log eps tm' J' ->
   Lex E ops Rr nt (o :: r) tm J ((tm,v) :: log) eps tm' J'
theorem Kq : ∀ {r : List Oper} {d d' : DS},L1 E ops Rr r d = some d' -> ∃ log eps,Lex E ops Rr d.s.nt r d.s.tm d.s.sto log eps d'.s.tm d'.s.sto /\ d'.log.reverse = d.log.reverse ++ log /\ d'.eps.reverse = d.eps.reverse ++ eps /\ d'.s.nt = d.s.nt /\ d'.s.df = d.s.df
 | [],d,d',h => by
  simp only [L1,ac_] at h; subst h
  exact ⟨[],[],.nil,by simp,by simp,rfl,rfl⟩
 | o :: r,d,d',h => by
  simp only [L1] at h
  split at h
  ·rename_i d₁ h₁
   obtain ⟨log,eps,k1,k2,k3,k4,k5⟩ := Kq h;unfold Qe at h₁
   split at h₁
   ·rename_i hg
    split at h₁
    ·rename_i v J hv
     split at h₁
     ·rename_i tm htm
      split at h₁
      ·rename_i he
       cases h₁
       exact ⟨_,_,.eff he (.inl ⟨hg,hv⟩) htm k1,by rw [k2]; simp,by rw [k3]; simp,k4,k5⟩
      ·rename_i he
       cases h₁
       exact ⟨_,_,.calm he (.inl ⟨hg,hv⟩) htm k1,by rw [k2]; simp,k3,k4,k5⟩
     ·cases h₁
    ·cases h₁
   ·rename_i hg
    split at h₁
    ·rename_i tm htm
     split at h₁
     ·rename_i he
      cases h₁
      exact ⟨_,_,.eff he (.inr ⟨hg,rfl,rfl⟩) htm k1,by rw [k2]; simp,by rw [k3]; simp,k4,k5⟩
     ·rename_i he
      cases h₁
      exact ⟨_,_,.calm he (.inr ⟨hg,rfl,rfl⟩) htm k1,by rw [k2]; simp,k3,k4,k5⟩
    ·cases h₁
   ·cases h₁
  ·cases h
theorem Vs {r : List Oper} {tm tm' : Tr AV} {J J' : Sto} {log : List (Tr AV × AV)} {eps : List Sto} (h : Lex E ops Rr nt r tm J log eps tm' J') :
  log.length = r.length /\ eps.length = cnt E r r.length /\ (log.map (·.1) ++ [tm'])[0]? = some tm /\ (J :: eps)[eps.length]? = some J' /\
  ∀ (k : Nat) (o : Oper),r[k]? = some o -> ∃ t v t₁ Jk J₁,log[k]? = some (t,v) /\ (log.map (·.1) ++ [tm'])[k + 1]? = some t₁ /\ (J :: eps)[cnt E r k]? = some Jk /\ Hu o.dst t nt v = some t₁ /\ Ago E ops Rr o t Jk v J₁ /\
   (Bv (A5 E o.op) = true -> (J :: eps)[cnt E r k + 1]? = some J₁) := by
 induction h with
 | nil => exact ⟨rfl,rfl,rfl,rfl,fun k o h => by simp at h⟩
 | @eff o r tm J v J₁ tm₁ log eps tm' J' he gq cg n5 ih =>
  obtain ⟨h1,h2,h3,h4,h5⟩ := ih
  refine ⟨by simp [h1],by simp [cnt,he,h2]; omega,rfl,by simpa using h4,fun k o' hk => ?_⟩
  cases k with
  | zero =>
   simp at hk; subst hk
   exact ⟨tm,v,tm₁,J,J₁,rfl,by simpa using h3,rfl,cg,gq,fun _ => by simp [cnt]⟩
  | succ k =>
   obtain ⟨t,u,t₁,Jk,J₂,a1,a2,a3,a4,a5,a6⟩ := h5 k o' (by simpa using hk)
   refine ⟨t,u,t₁,Jk,J₂,by simpa using a1,by simpa using a2,?_,a4,a5,fun hh => ?_⟩
   ·simp only [cnt,he,if_true]; rw [eb_,bi_]; exact a3
   ·simp only [cnt,he,if_true]; rw [show 1 + cnt E r k + 1 = (cnt E r k + 1) + 1 by omega,bi_]; exact a6 hh
 | @calm o r tm J v J₁ tm₁ log eps tm' J' he gq cg n5 ih =>
  obtain ⟨h1,h2,h3,h4,h5⟩ := ih
  refine ⟨by simp [h1],by simp [cnt,he,h2],rfl,h4,fun k o' hk => ?_⟩
  cases k with
  | zero =>
   simp at hk; subst hk
   exact ⟨tm,v,tm₁,J,J₁,rfl,by simpa using h3,rfl,cg,gq,fun hh => by rw [he] at hh; cases hh⟩
  | succ k =>
   obtain ⟨t,u,t₁,Jk,J₂,a1,a2,a3,a4,a5,a6⟩ := h5 k o' (by simpa using hk)
   refine ⟨t,u,t₁,Jk,J₂,by simpa using a1,by simpa using a2,?_,a4,a5,fun hh => ?_⟩
   ·simp only [cnt,he,bf_,if_false,be_]; exact a3
   ·simp only [cnt,he,bf_,if_false,be_]; exact a6 hh
end
section
variable (ops : Array Oper) (V : Nat -> AV) (tm₀ : Tr AV)
def Bz (L : Nat -> Bool) : Nat -> Nat -> Option AV
 | 0,t => tm₀.get t
 | i + 1,t => if L i = true /\ (ops[i]?).bind (·.dst) = some t then some (V i) else Bz L i t
variable {ops V tm₀}
theorem Gw {L L' : Nat -> Bool} {t : Nat} : ∀ {k : Nat},(∀ i,i < k -> (ops[i]?).bind (·.dst) = some t -> L i = L' i) -> Bz ops V tm₀ L k t = Bz ops V tm₀ L' k t
 | 0,_ => rfl
 | i + 1,h => by
  simp only [Bz];rw [Gw fun j hj => h j Om]
  by_cases hd : (ops[i]?).bind (·.dst) = some t
  ·rw [h i Om hd]
  ·rw [if_neg (fun hh => hd hh.2),if_neg (fun hh => hd hh.2)]
theorem Ga {L : Nat -> Bool} {t k : Nat} : ∀ {m : Nat},k <= m -> (∀ i,k <= i -> i < m -> (ops[i]?).bind (·.dst) = some t -> L i = false) -> Bz ops V tm₀ L m t = Bz ops V tm₀ L k t
 | 0,hk,_ => by rw [show k = 0 by omega]
 | m + 1,hk,h => by
  by_cases he : k = m + 1
  ·rw [he]
  ·simp only [Bz];rw [if_neg,Ga Om fun i h1 h2 => h i h1 Om]
   rintro ⟨h1,h2⟩;rw [h m Om Om h2] at h1; cases h1
theorem Qm {T : Nat -> Tr AV} {nt n : Nat} (h0 : T 0 = tm₀) (hT : ∀ k,k < n -> ∃ o,ops[k]? = some o /\ Hu o.dst (T k) nt (V k) = some (T (k + 1))) : ∀ k,k <= n -> ∀ t,(T k).get t = Bz ops V tm₀ (fun _ => true) k t
 | 0,_,t => by rw [h0]; rfl
 | k + 1,hk,t => by
  obtain ⟨o,ho,cg⟩ := hT k Om;have ih := Qm h0 hT k Om t;simp only [Bz,ho,fp_,true_and];cases hd : o.dst with
  | none =>
   rw [hd] at cg;simp only [Hu,ac_] at cg
   rw [if_neg (by simp),← cg]; exact ih
  | some d =>
   rw [hd] at cg;simp only [Hu,Dq] at cg;cases hb : Nat.blt d nt
   ·simp [hb] at cg
   ·simp only [hb,cond_true,ac_] at cg;rw [← cg,dl_]
    by_cases ht : t = d
    ·subst ht; rw [if_pos rfl,if_pos rfl]
    ·rw [if_neg ht,if_neg (by simpa using fun hh => ht hh.symm)]; exact ih
def Ae5 (ops : Array Oper) (j t : Nat) : Prop := ∀ i,i ≠ j -> (ops[i]?).bind (·.dst) = some t ->
 (i < j -> ((Region.before ops).getD j 0).testBit i = true) /\ (j < i -> ((Region.before ops).getD i 0).testBit j = true)
def Zw (ops : Array Oper) (L : Nat -> Bool) : Prop := ∀ j,L j = true -> ∀ i,((Region.before ops).getD j 0).testBit i = true -> L i = true
theorem Agp {L : Nat -> Bool} {j t n : Nat} (hj : j <= n) (hc : Zw ops L) (hL : L j = false) (hr : ∀ i,((Region.before ops).getD j 0).testBit i = true -> L i = true) (ho : Ae5 ops j t) :
  Bz ops V tm₀ L n t = Bz ops V tm₀ (fun _ => true) j t := by
 rw [Ga (k := j) hj fun i h1 h2 hd => ?_]
 ·refine Gw fun i hi hd => ?_
  exact hr i ((ho i Om hd).1 hi)
 ·by_cases hij : i = j
  ·rw [hij]; exact hL
  ·rw [bw_];intro hi;have := hc i hi j ((ho i hij hd).2 Om);rw [hL] at this; cases this
theorem Ack {L : Nat -> Bool} {j t n : Nat} (hj : j < n) (hc : Zw ops L) (hL : L j = false) (ho : Ae5 ops j t) (hd : (ops[j]?).bind (·.dst) = some t) :
  Bz ops V tm₀ (fun i => L i || i == j) n t = some (V j) := by
 rw [Ga (k := j + 1) Om fun i h1 h2 hdi => ?_]
 ·simp only [Bz,beq_self_eq_true,Bool.or_true,true_and]; rw [if_pos hd]
 ·rw [bw_];intro hi;rw [bh_] at hi
  rcases hi with hi | hi
  ·have := hc i hi j ((ho i Om hdi).2 Om);rw [hL] at this; cases this
  ·have : i = j := by simpa using hi
   omega
theorem Zx {L : Nat -> Bool} {j t n : Nat} (hd : (ops[j]?).bind (·.dst) ≠ some t) :
  Bz ops V tm₀ (fun i => L i || i == j) n t = Bz ops V tm₀ L n t := by
 refine Gw fun i _ hdi => ?_
 have : (i == j) = false := by
  rw [beq_eq_false_iff_ne]; intro hh; subst hh; exact hd hdi
 rw [this,fc_]
end
theorem E9 (A : Array Nat) (i : Nat) : A.toList.getD i 0 = A.getD i 0 := by
 rw [List.getD_eq_getElem?_getD,ba_,bg_]
theorem M4 {ops : Array Oper} (h : Hv ops (Region.before ops).toList = true) {j : Nat} {o : Oper} (ho : ops[j]? = some o) {t : Nat} (ht : t ∈ o.looksAt ops ∨ o.dst = some t) : Ae5 ops j t := by
 have key : ∀ i j x y,i < j -> ops[i]? = some x -> ops[j]? = some y -> ((Region.before ops).getD j 0).testBit i = true ∨ Oper.apart ops x y = true := by
  intro i j x y hij hx hy;unfold Hv at h;rw [br_] at h;have hlt := (at_.1 hy).1;have h1 := h j (e_.2 hlt);rw [br_] at h1;have h2 := h1 i (e_.2 hij);rw [bh_,E9] at h2
  rcases h2 with h2 | h2
  ·exact .inl h2
  ·simp only [hx,hy] at h2; exact .inr h2
 intro i hne hd;cases hx : ops[i]? with
 | none => rw [hx] at hd; cases hd
 | some x =>
  rw [hx] at hd;simp only [fp_] at hd;refine ⟨fun hij => ?_,fun hji => ?_⟩
  ·rcases key i j x o hij hx ho with h1 | h1
   ·exact h1
   ·obtain ⟨a1,a2,_⟩ := Oper.apart_spec h1
    rcases ht with ht | ht
    ·exact absurd ht (a1 t hd)
    ·exact absurd ht (a2 t hd)
  ·rcases key j i o x hji ho hx with h1 | h1
   ·exact h1
   ·obtain ⟨_,a2,a3⟩ := Oper.apart_spec h1
    rcases ht with ht | ht
    ·exact absurd ht (a3 t hd)
    ·exact absurd hd (a2 t ht)
section
variable {E : Env}
theorem I1 : ∀ (l : List Oper) (i₀ : Nat),(∀ (k : Nat) (o : Oper),l[k]? = some o -> Bv (A5 E o.op) = true -> (Bw E l i₀)[cnt E l k]? = some (i₀ + k)) /\
  (∀ (m e : Nat),(Bw E l i₀)[m]? = some e -> ∃ (k : Nat) (o : Oper),e = i₀ + k /\ l[k]? = some o /\ Bv (A5 E o.op) = true /\ cnt E l k = m)
 | [],i₀ => ⟨fun k o h => by simp at h,fun m e h => by simp [Bw] at h⟩
 | o :: r,i₀ => by
  obtain ⟨h1,h2⟩ := I1 r (i₀ + 1);cases hb : Bv (A5 E o.op)
  ·simp only [Bw,hb];refine ⟨fun k o' hk he => ?_,fun m e hm => ?_⟩
   ·cases k with
    | zero => simp at hk; subst hk; rw [hb] at he; cases he
    | succ k =>
     simp only [cnt,hb,bf_,if_false,be_]
     rw [h1 k o' (by simpa using hk) he]; congr 1; omega
   ·obtain ⟨k,o',e1,e2,e3,e4⟩ := h2 m e hm
    exact ⟨k + 1,o',by omega,by simpa using e2,e3,by simp only [cnt,hb,bf_,if_false,be_]; exact e4⟩
  ·simp only [Bw,hb];refine ⟨fun k o' hk he => ?_,fun m e hm => ?_⟩
   ·cases k with
    | zero => simp [cnt]
    | succ k =>
     simp only [cnt,hb,if_true]
     rw [eb_ 1,bi_,h1 k o' (by simpa using hk) he]; congr 1; omega
   ·cases m with
    | zero => simp at hm; exact ⟨0,o,by omega,rfl,hb,rfl⟩
    | succ m =>
     obtain ⟨k,o',e1,e2,e3,e4⟩ := h2 m e (by simpa using hm)
     exact ⟨k + 1,o',by omega,by simpa using e2,e3,by simp only [cnt,hb,if_true]; omega⟩
theorem T7 {b : List Nat} : ∀ {l : List Nat},K3 b l = true -> ∀ (k i j : Nat),l[k]? = some i -> l[k + 1]? = some j -> (b.getD j 0).testBit i = true
 | [],_,k,i,j,h,_ => by simp at h
 | [x],_,k,i,j,_,h => by simp at h
 | x :: y :: l,hc,k,i,j,hi,hj => by
  simp only [K3,ae_] at hc;cases k with
  | zero => simp at hi hj; subst hi hj; exact hc.1
  | succ k => exact T7 (l := y :: l) hc.2 k i j (by simpa using hi) (by simpa using hj)
theorem W2 {p : Nat -> Bool} : ∀ {l : List Nat} {k e : Nat},k < Ba p l -> l[k]? = some e -> p e = true
 | [],k,e,h,_ => by simp [Ba] at h
 | x :: l,k,e,h,he => by
  simp only [Ba] at h
  split at h
  ·rename_i hp
   cases k with
   | zero => simp at he; subst he; exact hp
   | succ k => exact W2 (l := l) (k := k) Om (by simpa using he)
  ·omega
theorem W3 {p : Nat -> Bool} : ∀ {l : List Nat} {m : Nat},m <= l.length -> (∀ k e,k < m -> l[k]? = some e -> p e = true) -> m <= Ba p l
 | l,0,_,_ => ca_ _
 | [],m + 1,h,_ => by simp at h
 | x :: l,m + 1,h,hp => by
  simp only [Ba];rw [hp 0 x Om rfl]
  have := W3 (l := l) (m := m) (by simpa using h) fun k e hk he => hp (k + 1) e Om (by simpa using he)
  simp only; omega
theorem T8 {p : Nat -> Bool} : ∀ (l : List Nat),Ba p l <= l.length
 | [] => by simp [Ba]
 | x :: l => by
  simp only [Ba]
  split
  ·have := T8 (p := p) l; simp; omega
  ·omega
theorem Gb {b effs : List Nat} : ∀ (l : List Oper) (i k : Nat) (o : Oper),l[k]? = some o -> (Iw E b effs l i)[k]? = some ⟨A5 E o.op,Ba (fun e => (b.getD (i + k) 0).testBit e) effs,Ba (fun e => !(b.getD e 0).testBit (i + k)) effs⟩
 | [],i,k,o,h => by simp at h
 | x :: l,i,k,o,h => by
  cases k with
  | zero =>
   simp at h; subst h
   simp only [Iw,Ag];cases hc : A5 E x.op <;> rfl
  | succ k =>
   have ih := Gb (b := b) (effs := effs) l (i + 1) k o (by simpa using h)
   simp only [Iw,Ag]
   cases hc : A5 E x.op <;> (simp only [bi_]; rw [ih]; simp only [show i + 1 + k = i + (k + 1) by omega])
def X6 (E : Env) (ops : List Oper) (o : Oper) (tm : Tr AV) (v : AV) (l : List Sto) : Prop := B7 ops o tm = some true -> ∀ J ∈ l,∃ J',Ar E o.op tm J = some (v,J')
theorem Agq {E : Env} {ops : List Oper} {o : Oper} {tm : Tr AV} {v : AV} {l : List Sto} (h : steady E ops o tm v l = true) : X6 E ops o tm v l := by
 intro hg J hJ;unfold steady at h;rw [hg] at h;simp only at h;have := br_.1 h J hJ
 split at this
 ·rename_i u J' hu
  rw [AV.beq_eq _ _ this] at hu;exact ⟨J',hu⟩
 ·cases this
theorem Rk {ops : List Oper} {eps : List Sto} : ∀ {az : List Ann} {os : List Oper} {log : List (Tr AV × AV)},F5 E ops eps az os log = true -> ∀ (k : Nat) (a : Ann) (o : Oper) (t : Tr AV) (v : AV),az[k]? = some a -> os[k]? = some o -> log[k]? = some (t,v) -> a.cls = .read ->
  steady E ops o t v ((eps.drop a.lo).take (a.hi + 1 - a.lo)) = true
 | [],[],[],_,k,a,o,t,v,h,_,_,_ => by simp at h
 | x :: az,y :: os,(t',v') :: log,hs,k,a,o,t,v,ha,ho,hl,hc => by
  simp only [F5,ae_] at hs;cases k with
  | zero =>
   simp at ha ho hl
   obtain ⟨rfl,rfl⟩ := hl;subst ha ho;have := hs.1;rw [hc] at this; exact this
  | succ k => exact Rk hs.2 k a o t v (by simpa using ha) (by simpa using ho) (by simpa using hl) hc
 | [],_ :: _,_,hs,_,_,_,_,_,_,_,_,_ => by simp [F5] at hs
 | [],[],_ :: _,hs,_,_,_,_,_,_,_,_,_ => by simp [F5] at hs
 | _ :: _,[],_,hs,_,_,_,_,_,_,_,_,_ => by simp [F5] at hs
 | _ :: _,_ :: _,[],hs,_,_,_,_,_,_,_,_,_ => by simp [F5] at hs
end
theorem Acl {ops : Array Oper} (he : Jo ops = true) {listed : Array Bool} (hs : listed.size = ops.size) (h : Region.ready .any ops listed = []) : ∀ i,i < ops.size -> listed.getD i false = true := by
  intro i
  induction i using Nat.strongRecOn with
  | _ i ih =>
    intro hi;cases hl : listed.getD i false with
    | true => rfl
    | false =>
      exfalso
      have hm : i ∈ Region.ready .any ops listed := by
        rw [mem_ready]
        have ho : ops[i]? = some ops[i] := by simp [hi]
        refine ⟨?_,ops[i],ho,fun e hem hb => ?_⟩
        · have : i < listed.size := by omega
          rw [ba_,ce_ this] at hl ⊢;exact hl
        · unfold Jo at he
          rw [br_] at he;have h1 := he i (e_.2 hi);simp only [ho] at h1;rw [Array.all_eq_true_iff_forall_mem] at h1;have h2 := h1 e hem;rw [bh_] at h2
          rcases h2 with h2 | h2
          · rw [hb] at h2; cases h2
          · exact ih e.on (by simpa using h2) (by have : e.on < i := by simpa using h2
                                                  omega)
      rw [h] at hm; cases hm
theorem T9 {listed : Array Bool} {j n : Nat} (hs : listed.size = n) (hj : j < n) (i : Nat) : (listed.setIfInBounds j true).getD i false = (listed.getD i false || i == j) := by
 by_cases hij : i = j
 ·subst hij; simp [hs,hj]
 ·rw [getD_set_ne false (go_ hij)]
  have : (i == j) = false := by simpa using hij
  rw [this,fc_]
section
variable {E : Env} {tm tm' : Tr AV} {ops : Array Oper}
theorem Ua {o : Oper} (h : ∀ t ∈ o.looksAt ops,tm.get t = tm'.get t) : B7 ops.toList o tm = B7 ops.toList o tm' := by
 unfold B7;cases hg : o.guard with
 | none => rfl
 | some gw =>
  obtain ⟨j,want⟩ := gw;simp only;cases hj : ops.toList[j]? with
  | none => rfl
  | some oj =>
   simp only;cases hd : oj.dst with
   | none => rfl
   | some d =>
    simp only
    have hj' : ops[j]? = some oj := by simpa using hj
    rw [h d (by simp [Oper.looksAt,hg,hj',hd])]
theorem Acm {o : Oper} (h : ∀ t ∈ o.looksAt ops,tm.get t = tm'.get t) : ∀ x ∈ o.op.operands,opd E tm x = opd E tm' x := by
 intro x hx;cases x with
 | tmp t =>
  have : t ∈ o.looksAt ops := cu_ _ (List.mem_filterMap.2 ⟨.tmp t,by simpa using hx,rfl⟩)
  simp only [opd,h t this]
 | _ => rfl
def only (tm : Tr AV) : List Nat -> Tr AV
 | [] => .e
 | t :: l => match tm.get t with
  | some v => (only tm l).put (t + 1) t (some v)
  | none => only tm l
theorem Pi {tm : Tr AV} : ∀ {l : List Nat} {t : Nat} {v : AV},(only tm l).get t = some v -> t ∈ l /\ tm.get t = some v
 | [],t,v,h => by simp [only,Tr.get] at h
 | u :: l,t,v,h => by
  simp only [only] at h
  split at h
  ·rename_i x hx
   rw [dl_] at h
   by_cases ht : t = u
   ·subst ht; rw [if_pos rfl] at h; cases h; exact ⟨by simp,hx⟩
   ·rw [if_neg ht] at h; obtain ⟨h1,h2⟩ := Pi h; exact ⟨by simp [h1],h2⟩
  ·obtain ⟨h1,h2⟩ := Pi h; exact ⟨by simp [h1],h2⟩
theorem Qn {tm : Tr AV} : ∀ {l : List Nat} {t : Nat},t ∈ l -> (only tm l).get t = tm.get t
 | [],t,h => by simp at h
 | u :: l,t,h => by
  simp only [only]
  by_cases ht : t = u
  ·subst ht
   split
   ·rename_i x hx; rw [dl_,if_pos rfl,hx]
   ·rename_i hx
    cases hg : (only tm l).get t with
    | none => exact hx.symm
    | some v => have := (Pi hg).2; rw [hx] at this; cases this
  ·have hl : t ∈ l := by simpa [ht] using h
   split
   ·rw [dl_,if_neg ht]; exact Qn hl
   ·exact Qn hl
end
structure Acn (E : Env) (ops : Array Oper) (Rr : Rec) (nt : Nat) (tm₀ : Tr AV) (es : List Nat) (T : Nat -> Tr AV) (V : Nat -> AV) (S : List Sto) : Prop where
 slots : Hv ops (Region.before ops).toList = true
 hes : es = Bw E ops.toList 0
 len : S.length = es.length + 1
 chain : K3 (Region.before ops).toList es = true
 here : ∀ (j : Nat) (o : Oper),ops[j]? = some o -> ∃ Jk J₁,S[cnt E ops.toList j]? = some Jk /\ Hu o.dst (T j) nt (V j) = some (T (j + 1)) /\ Ago E ops.toList Rr o (T j) Jk (V j) J₁ /\ (Bv (A5 E o.op) = true -> S[cnt E ops.toList j + 1]? = some J₁)
 get : ∀ j,j <= ops.size -> ∀ t,(T j).get t = Bz ops V tm₀ (fun _ => true) j t
 steady : ∀ (j : Nat) (o : Oper),ops[j]? = some o -> A5 E o.op = .read -> X6 E ops.toList o (T j) (V j)
  ((S.drop (Ba (fun e => ((Region.before ops).getD j 0).testBit e) es)).take (Ba (fun e => !((Region.before ops).getD e 0).testBit j) es + 1 - Ba (fun e => ((Region.before ops).getD j 0).testBit e) es))
structure Inv (E : Env) (ops : Array Oper) (nt : Nat) (df : List (Nat × List AV)) (tm₀ : Tr AV) (es : List Nat) (V : Nat -> AV) (S : List Sto) (C₀ : Ctx) (N₀ : Nat) (w₀ : World)
  (L : Nat -> Bool) (m : Nat) (J : Sto) (C : Ctx) (w : World) (a : Act) : Prop where
 closed : Zw ops L
 effs : ∀ k e,es[k]? = some e -> (L e = true ↔ k < m)
 sto : S[m]? = some J
 sim : Sim E.P C w J
 glob : Fo C (nx J) w E
 slots : ∀ t x,Bz ops V tm₀ L ops.size t = some x -> R C (nx J) w x (a.tmps.getD t undef)
 size : a.tmps.size = nt
 dfs : DR C (nx J) w df a.defers
 ext : Ext C₀ N₀ w₀ C (nx J) w
section
variable {E : Env} {ops : Array Oper} {Rr : Rec} {nt : Nat} {df : List (Nat × List AV)} {tm₀ : Tr AV} {es : List Nat} {T : Nat -> Tr AV} {V : Nat -> AV} {S : List Sto} {C₀ C : Ctx} {N₀ : Nat} {w₀ w : World} {L : Nat -> Bool} {m : Nat} {J : Sto} {a : Act}
theorem Inv.next (lx : Acn E ops Rr nt tm₀ es T V S) (iv : Inv E ops nt df tm₀ es V S C₀ N₀ w₀ L m J C w a) {j : Nat} {o : Oper} (ho : ops[j]? = some o) (hL : L j = false) (hr : ∀ i,((Region.before ops).getD j 0).testBit i = true -> L i = true)
  {m' : Nat} {J' : Sto} {C' : Ctx} {w' : World} {x : Value} (n6 : S[m']? = some J') (kz : ∀ k e,es[k]? = some e -> ((L e || e == j) = true ↔ k < m')) (hs : Sim E.P C' w' J') (he : Ext C (nx J) w C' (nx J') w') (hx : R C' (nx J') w' (V j) x) :
  Inv E ops nt df tm₀ es V S C₀ N₀ w₀ (fun i => L i || i == j) m' J' C' w' (a.put o.dst x) := by
 have hj := (at_.1 ho).1;obtain ⟨_,_,_,cg,_,_⟩ := lx.here j o ho
 have hdn : ∀ d,o.dst = some d -> d < nt := fun d hd => by
  rw [hd] at cg;simp only [Hu] at cg;cases hb : Nat.blt d nt
  ·simp [hb] at cg
  ·exact ak_ hb
 refine ⟨fun i hi k hk => ?_,kz,n6,hs,iv.glob.ext he,fun t y hy => ?_,?_,?_,iv.ext.trans he⟩
 ·rw [bh_] at hi ⊢
  rcases hi with hi | hi
  ·exact .inl (iv.closed i hi k hk)
  ·have : i = j := by simpa using hi
   subst this; exact .inl (hr k hk)
 ·by_cases hd : (ops[j]?).bind (·.dst) = some t
  ·have hd' : o.dst = some t := by rw [ho] at hd; exact hd
   rw [Ack hj iv.closed hL (M4 lx.slots ho (.inr hd')) hd] at hy;cases hy;have := hdn t hd';rw [hd']
   have : t < a.tmps.size := by rw [iv.size]; exact this
   simp [Act.put,this]; exact hx
  ·rw [Zx hd] at hy;have h1 := R.ext he _ _ (iv.slots t y hy);cases hod : o.dst with
   | none => exact h1
   | some d =>
    have hne : d ≠ t := fun hh => hd (by rw [ho]; simp [hod,hh])
    simpa [Act.put,cm_ hne] using h1
 ·cases hod : o.dst <;> simp [Act.put,iv.size]
 ·have : (a.put o.dst x).defers = a.defers := by cases o.dst <;> rfl
  rw [this]; exact iv.dfs.ext he
end
section
variable {E : Env} {ops : Array Oper} {Rr : Rec} {nt : Nat} {df : List (Nat × List AV)} {tm₀ : Tr AV} {es : List Nat} {T : Nat -> Tr AV} {V : Nat -> AV} {S : List Sto} {C₀ C : Ctx} {N₀ : Nat} {w₀ w : World} {L : Nat -> Bool} {m : Nat} {J : Sto} {a : Act}
theorem I2 {op : Op} (h : A5 E op = .read) : ∀ tm J,opA E op Rr tm J = Ar E op tm J := by
 intro tm J;cases op
 case call c =>
  cases hc : c.callee with
  | value f => cases f <;> simp only [A5,hc] at h <;> first | (cases h; done) | (split at h <;> cases h)
  | builtin b => simp only [opA,hc]
  | invoke r n => simp [A5,hc] at h
 all_goals rfl
theorem Agr (hR : Ao E Rr) {op : Op} (h : A5 E op = .pure) (tm : Tr AV) : D4 (opA E op Rr tm) := by
 have viaStep : (∀ J,opA E op Rr tm J = Ar E op tm J) -> D4 (opA E op Rr tm) := fun e J J' v hv => by
  rw [e] at hv;obtain ⟨k1,k2⟩ := Al9 (tm := tm) h J J' v hv
  exact ⟨k1,fun τ => by rw [e]; exact k2 τ⟩
 cases op
 case call c =>
  cases hc : c.callee with
  | value f =>
   cases f with
   | func f =>
    have hp : E.pu f = true := by
     simp only [A5,hc] at h
     split at h
     ·assumption
     ·cases h
    intro J J' v hv
    have e : ∀ τ,opA E (.call c) Rr tm τ = Rr (.fn f) ([] ++ opds E tm c.args.toList ++ []) τ := fun τ => by simp only [opA,hc,opd,Qc]
    rw [e] at hv;obtain ⟨k1,k2⟩ := hR.pu f hp _ J J' v hv
    exact ⟨k1,fun τ => by rw [e]; exact k2 τ⟩
   | _ => simp only [A5,hc] at h; cases h
  | builtin b => exact viaStep fun J => by simp only [opA,hc]
  | invoke r n => simp only [A5,hc] at h; cases h
 all_goals exact viaStep fun _ => rfl
theorem Inv.step (hR : Ao E Rr) (lx : Acn E ops Rr nt tm₀ es T V S) (iv : Inv E ops nt df tm₀ es V S C₀ N₀ w₀ L m J C w a) {j : Nat} {o : Oper} (ho : ops[j]? = some o) (hL : L j = false) (hr : ∀ i,((Region.before ops).getD j 0).testBit i = true -> L i = true)
  {K : Act -> World -> Prop} {Q : Exit -> Act -> World -> Prop} (hK : ∀ m' J' C' w' a',Inv E ops nt df tm₀ es V S C₀ N₀ w₀ (fun i => L i || i == j) m' J' C' w' a' -> K a' w') {ro : Option Nat} {n : Nat} : wpOpIn (B8 ro) n E.P ops Q j K a w := by
 have hj := (at_.1 ho).1
 have hol : ops.toList[j]? = some o := by simpa using ho
 obtain ⟨Jk,J₁,h1,cg,gq,h3⟩ := lx.here j o ho
 have fc : ∀ t ∈ o.looksAt ops,Bz ops V tm₀ L ops.size t = (T j).get t := fun t ht => by
  rw [lx.get j Om];exact Agp Om iv.closed hL hr (M4 lx.slots ho (.inl ht))
 have st : SSt E C w ⟨only (T j) (o.looksAt ops),nt,df,J⟩ a := ⟨iv.sim,iv.glob,fun t y hy => by
  obtain ⟨k1,k2⟩ := Pi hy
  exact iv.slots t y (by rw [fc t k1]; exact k2),iv.size,iv.dfs⟩
 have hgc : B7 ops.toList o (only (T j) (o.looksAt ops)) = B7 ops.toList o (T j) := Ua fun t ht => Qn ht
 have hoc : ∀ τ,opA E o.op Rr (only (T j) (o.looksAt ops)) τ = opA E o.op Rr (T j) τ := fun τ => Acd (Acm fun t ht => Qn ht)
 obtain ⟨e1,e2⟩ := I1 (E := E) ops.toList 0;rw [← lx.hes] at e1 e2
 -- where the store stands
 have ip : Bv (A5 E o.op) = true -> J = Jk /\ ∀ k e,es[k]? = some e -> ((L e || e == j) = true ↔ k < cnt E ops.toList j + 1) := by
  intro he;have hc := e1 j o hol he;rw [be_] at hc
  have hle : m <= cnt E ops.toList j := by
   have := iv.effs _ _ hc;rw [hL] at this
   have h0 : ¬ (cnt E ops.toList j < m) := fun hh => by have := this.2 hh; cases this
   omega
  have hge : cnt E ops.toList j <= m := by
   rcases cq_ (cnt E ops.toList j) with h0 | h0
   ·omega
   ·have hlt := (ad_.1 hc).1;have hp : es[cnt E ops.toList j - 1]? = some es[cnt E ops.toList j - 1] := ao_ Om
    have hb := T7 lx.chain _ _ _ hp (by rw [show cnt E ops.toList j - 1 + 1 = cnt E ops.toList j by omega]; exact hc)
    rw [E9] at hb;have := (iv.effs _ _ hp).1 (hr _ hb);omega
  have hm : m = cnt E ops.toList j := by omega
  refine ⟨by have := iv.sto; rw [hm,h1] at this; cases this; rfl,fun k e hk => ?_⟩
  obtain ⟨k',o',q1,q2,q3,q4⟩ := e2 k e hk;rw [bh_,iv.effs k e hk,beq_iff_eq]
  constructor
  ·rintro (h | h)
   ·omega
   ·have : k' = j := by omega
    subst this; omega
  ·intro h
   by_cases hkc : k = cnt E ops.toList j
   ·subst hkc; rw [hc] at hk; cases hk; exact .inr rfl
   ·exact .inl Om
 have ia : Bv (A5 E o.op) = false -> ∀ k e,es[k]? = some e -> ((L e || e == j) = true ↔ k < m) := by
  intro he k e hk;obtain ⟨k',o',q1,q2,q3,q4⟩ := e2 k e hk
  have hne : (e == j) = false := by
   rw [beq_eq_false_iff_ne]; intro hh
   have : k' = j := by omega
   subst this; rw [hol] at q2; cases q2; rw [q3] at he; cases he
  rw [hne,fc_]; exact iv.effs k e hk
 unfold wpOpIn;simp only [ho]
 rcases gq with ⟨hg,hv⟩ | ⟨hg,hv,hJ⟩
 ·rw [← hgc] at hg;have hw := D5 (b := true) st.tmps hg;rw [if_pos hw];cases he : Bv (A5 E o.op) with
  | true =>
   obtain ⟨rfl,q2⟩ := ip he
   exact Qh hR st (by rw [hoc]; exact hv) fun C' w' x k1 k2 k3 => hK _ _ _ _ _ (iv.next lx ho hL hr (h3 he) q2 k1 k2 k3)
  | false =>
   have kl : opA E o.op Rr (T j) J = some (V j,J) := by
    cases hc : A5 E o.op with
    | eff => rw [hc] at he; cases he
    | pure => exact (Agr hR hc _ _ _ _ hv).2 J
    | read =>
     rw [hgc] at hg;have hst := lx.steady j o ho hc hg
     have kn : m <= es.length := by have := (ad_.1 iv.sto).1; rw [lx.len] at this; omega
     have hlo : Ba (fun e => ((Region.before ops).getD j 0).testBit e) es <= m := by
      rcases Nat.lt_or_ge m (Ba (fun e => ((Region.before ops).getD j 0).testBit e) es) with h | h
      ·exfalso
       have hlt : m < es.length := aq_ h (T8 es);have hp : es[m]? = some es[m] := ao_ hlt;have := (iv.effs _ _ hp).1 (hr _ (W2 h hp));omega
      ·exact h
     have hhi : m <= Ba (fun e => !((Region.before ops).getD e 0).testBit j) es := by
      refine W3 kn fun k e hk hek => ?_
      have hle := (iv.effs k e hek).2 hk;cases hb : ((Region.before ops).getD e 0).testBit j with
      | false => rfl
      | true => have := iv.closed e hle j hb; rw [hL] at this; cases this
     have cd : J ∈ (S.drop (Ba (fun e => ((Region.before ops).getD j 0).testBit e) es)).take (Ba (fun e => !((Region.before ops).getD e 0).testBit j) es + 1 - Ba (fun e => ((Region.before ops).getD j 0).testBit e) es) := by
      refine af_ (i := m - Ba (fun e => ((Region.before ops).getD j 0).testBit e) es) ?_
      rw [dm_,if_pos Om,fe_,show Ba (fun e => ((Region.before ops).getD j 0).testBit e) es + (m - Ba (fun e => ((Region.before ops).getD j 0).testBit e) es) = m by omega]
      exact iv.sto
     obtain ⟨J₂,hs2⟩ := hst J cd;have := Zg hc hs2;subst this; rw [I2 hc]; exact hs2
   exact Qh (s := ⟨only (T j) (o.looksAt ops),nt,df,J⟩) hR st (by rw [hoc]; exact kl) fun C' w' x k1 k2 k3 => hK _ _ _ _ _ (iv.next lx ho hL hr iv.sto (ia he) k1 k2 k3)
 ·rw [← hgc] at hg;have hw := D5 (b := false) st.tmps hg
  rw [if_neg (by rw [hw]; simp)]
  refine ⟨fun _ _ => trivial,?_⟩
  have hx : R C (nx J) w (V j) undef := by rw [hv]; exact Pc
  cases he : Bv (A5 E o.op) with
  | true =>
   obtain ⟨rfl,q2⟩ := ip he
   exact hK _ _ _ _ _ (iv.next lx ho hL hr (by rw [h3 he,hJ]) q2 iv.sim (bz_ _ _ _) hx)
  | false => exact hK _ _ _ _ _ (iv.next lx ho hL hr iv.sto (ia he) iv.sim (bz_ _ _ _) hx)
end
def Pj (L : Nat -> Bool) : Nat -> Nat
 | 0 => 0
 | i + 1 => (if L i = true then 0 else 1) + Pj L i
theorem Aco {L L' : Nat -> Bool} : ∀ {n : Nat},(∀ i,i < n -> L i = L' i) -> Pj L n = Pj L' n
 | 0,_ => rfl
 | n + 1,h => by
  simp only [Pj];rw [h n Om,Aco (L := L) (L' := L') (n := n) fun i hi => h i Om]
theorem Zy {L : Nat -> Bool} {j : Nat} (hL : L j = false) : ∀ {n : Nat},j < n -> Pj (fun i => L i || i == j) n + 1 = Pj L n
 | 0,h => by omega
 | n + 1,h => by
  by_cases hj : j = n
  ·subst hj
   have : Pj (fun i => L i || i == j) j = Pj L j := Aco fun i hi => by
    have : (i == j) = false := by rw [beq_eq_false_iff_ne]; omega
    rw [this,fc_]
   simp [Pj,hL,this]; omega
  ·have ih := Zy (n := n) hL Om
   have : (n == j) = false := by rw [beq_eq_false_iff_ne]; omega
   simp only [Pj,this,fc_]; omega
theorem Vt {L : Nat -> Bool} : ∀ {n : Nat},Pj L n = 0 -> ∀ i,i < n -> L i = true
 | 0,_,i,hi => by omega
 | n + 1,h,i,hi => by
  simp only [Pj] at h
  by_cases hn : L n = true
  ·rw [if_pos hn] at h
   by_cases he : i = n
   ·subst he; exact hn
   ·exact Vt (n := n) Om i Om
  ·rw [if_neg hn] at h; omega
section
variable {E : Env} {ops : Array Oper} {Rr : Rec} {nt : Nat} {df : List (Nat × List AV)} {tm₀ : Tr AV} {es : List Nat} {T : Nat -> Tr AV} {V : Nat -> AV} {S : List Sto} {C₀ : Ctx} {N₀ : Nat} {w₀ : World}
theorem Inv.last (lx : Acn E ops Rr nt tm₀ es T V S) {L : Nat -> Bool} {m : Nat} {J : Sto} {C : Ctx} {w : World} {a : Act} (iv : Inv E ops nt df tm₀ es V S C₀ N₀ w₀ L m J C w a) (bt : ∀ i,i < ops.size -> L i = true) :
  S[es.length]? = some J /\ SSt E C w ⟨T ops.size,nt,df,J⟩ a := by
 have hm : m = es.length := by
  have h1 := (ad_.1 iv.sto).1;rw [lx.len] at h1
  rcases Nat.lt_or_ge m es.length with h | h
  ·exfalso
   have hp : es[m]? = some es[m] := ao_ h;obtain ⟨_,e2⟩ := I1 (E := E) ops.toList 0;rw [← lx.hes] at e2;obtain ⟨k,o,q1,q2,_⟩ := e2 m _ hp;have hk := (ad_.1 q2).1
   have := (iv.effs m _ hp).1 (bt _ (by rw [q1,be_]; simpa using hk))
   omega
  ·omega
 refine ⟨hm ▸ iv.sto,iv.sim,iv.glob,fun t y hy => iv.slots t y ?_,iv.size,iv.dfs⟩
 rw [← hy,lx.get ops.size nl];exact Gw fun i hi _ => bt i hi
theorem Vu (hR : Ao E Rr) (lx : Acn E ops Rr nt tm₀ es T V S) (hed : Jo ops = true) {Q : Exit -> Act -> World -> Prop}
  (hQ : ∀ (L : Nat -> Bool) m J C w a,Inv E ops nt df tm₀ es V S C₀ N₀ w₀ L m J C w a -> (∀ i,i < ops.size -> L i = true) -> Q .normal a w) {ro : Option Nat} {n : Nat} :
  ∀ (fuel : Nat) (listed : Array Bool) (m : Nat) (J : Sto) (C : Ctx) (w : World) (a : Act),listed.size = ops.size -> Pj (fun i => listed.getD i false) ops.size = fuel ->
   Inv E ops nt df tm₀ es V S C₀ N₀ w₀ (fun i => listed.getD i false) m J C w a -> wpAnyIn (B8 ro) n E.P .any ops Q fuel listed a w
 | 0,listed,m,J,C,w,a,hs,ht,iv => by
  have bt := Vt ht;refine ⟨?_,hQ _ m J C w a iv bt⟩;rw [List.eq_nil_iff_forall_not_mem];intro j hj;obtain ⟨h1,o,ho,_⟩ := mem_ready.1 hj;have hlt := (at_.1 ho).1;have h2 := bt j hlt;simp only [ba_] at h1 h2
  rw [ce_ (by omega : j < listed.size)] at h1 h2
  simp only [ef_] at h1 h2;rw [h1] at h2; cases h2
 | fuel + 1,listed,m,J,C,w,a,hs,ht,iv => by
  refine ⟨fun h0 => hQ _ m J C w a iv (Acl hed hs h0),fun j hj => ?_⟩
  obtain ⟨h1,o,ho,bt⟩ := mem_ready.1 hj;have hlt := (at_.1 ho).1
  have hL : listed.getD j false = false := by
   simp only [ba_] at h1 ⊢
   rw [ce_ (by omega : j < listed.size)] at h1 ⊢
   exact h1
  have hr : ∀ i,((Region.before ops).getD j 0).testBit i = true -> listed.getD i false = true := fun i hi => by
   obtain ⟨e,he,hb,h⟩ := Wz ho hi;have hon := bt e he hb
   rcases h with rfl | h
   ·exact hon
   ·exact iv.closed _ hon i h
  refine iv.step hR lx ho hL hr fun m' J' C' w' a' iv' => ?_
  have ff : (fun i => (listed.setIfInBounds j true).getD i false) = fun i => listed.getD i false || i == j := funext fun i => T9 hs hlt i
  refine Vu hR lx hed hQ fuel _ m' J' C' w' a' (by simp [hs]) ?_ (by rw [ff]; exact iv')
  rw [ff];have := Zy (L := fun i => listed.getD i false) hL hlt
  omega
end
theorem Qo {L : Nat -> Bool} : ∀ {n : Nat},(∀ i,L i = false) -> Pj L n = n
 | 0,_ => rfl
 | n + 1,h => by simp only [Pj]; rw [if_neg (by rw [h n]; simp),Qo (n := n) h]; omega
theorem Ma {E : Env} : ∀ (l : List Oper) (i : Nat),cnt E l l.length = (Bw E l i).length
 | [],i => rfl
 | o :: r,i => by
  simp only [ap_,cnt,Bw];cases hb : Bv (A5 E o.op)
  ·simp [Ma r (i + 1)]
  ·simp [Ma r (i + 1)]; omega
theorem Acp {E : Env} (hm : E.P.follows .mixedOrders = true) {Rr : Rec} (hR : Ao E Rr) {ops : Array Oper} {s : St} {d : DS} {C : Ctx} {w : World} {a : Act} {id : Nat} (st : SSt E C w s a)
  (c1 : Hv ops (Region.before ops).toList = true) (c2 : Jo ops = true) (c3 : K3 (Region.before ops).toList (Bw E ops.toList 0) = true) (hd : L1 E ops.toList Rr ops.toList ⟨s,[s.sto],[]⟩ = some d)
  (hb : ∀ (j : Nat) (o : Oper) (t : Tr AV) (v : AV),ops[j]? = some o -> d.log.reverse[j]? = some (t,v) -> A5 E o.op = .read -> X6 E ops.toList o t v
   ((d.eps.reverse.drop (Ba (fun e => ((Region.before ops).getD j 0).testBit e) (Bw E ops.toList 0))).take (Ba (fun e => !((Region.before ops).getD e 0).testBit j) (Bw E ops.toList 0) + 1 - Ba (fun e => ((Region.before ops).getD j 0).testBit e) (Bw E ops.toList 0)))) {ro : Option Nat} {n : Nat} :
  (Code.region id ops true).wpIn (B8 ro) n E.P (H7 E C (nx s.sto) w [(.normal,d.s)]) a w := by
 obtain ⟨log,eps,lex,k2,k3,k4,k5⟩ := Kq hd;simp only [eg_,bt_,dd_] at k2 k3;obtain ⟨x1,x2,x3,x4,x5⟩ := Vs lex
 have bn : ops.toList.length = ops.size := by simp
 have hT : ∀ k,k < ops.size -> ∃ o,ops[k]? = some o /\ Hu o.dst (((log.map (·.1) ++ [d.s.tm])[k]?).getD .e) s.nt (((log[k]?).map (·.2)).getD .any) = some (((log.map (·.1) ++ [d.s.tm])[k + 1]?).getD .e) := by
  intro k hk
  have ho : ops.toList[k]? = some ops[k] := by simp [hk]
  obtain ⟨t,v,t₁,Jk,J₁,y1,y2,y3,y4,y5,y6⟩ := x5 k _ ho;have hlt := (ad_.1 y1).1
  refine ⟨ops[k],by simp [hk],?_⟩
  rw [bb_ (by simpa using hlt),az_,y1,y2]
  exact y4
 have lx : Acn E ops Rr s.nt s.tm (Bw E ops.toList 0) (fun k => ((log.map (·.1) ++ [d.s.tm])[k]?).getD .e) (fun k => ((log[k]?).map (·.2)).getD .any) (s.sto :: eps) := by
  refine ⟨c1,rfl,by simp only [ap_,x2,Ma ops.toList 0],c3,fun j o ho => ?_,fun j hj t => ?_,fun j o ho hc => ?_⟩
  ·obtain ⟨t,v,t₁,Jk,J₁,y1,y2,y3,y4,y5,y6⟩ := x5 j o (by simpa using ho)
   have hlt := (ad_.1 y1).1;refine ⟨Jk,J₁,y3,?_,?_,y6⟩
   ·rw [bb_ (by simpa using hlt),az_,y1,y2]; exact y4
   ·rw [bb_ (by simpa using hlt),az_,y1]; exact y5
  ·exact Qm (n := ops.size) (by rw [x3]; rfl) hT j hj t
  ·obtain ⟨t,v,t₁,Jk,J₁,y1,y2,y3,y4,y5,y6⟩ := x5 j o (by simpa using ho)
   have hlt := (ad_.1 y1).1
   have := hb j o t v ho (by rw [k2]; exact y1) hc
   rw [k3] at this
   rw [bb_ (by simpa using hlt),az_,y1]
   exact this
 refine wpIn_region_any hm ?_;obtain ⟨t1,t2⟩ := st.sim.same (w' := { w with drawn := w.drawn + 1 }) nl (fun _ _ => rfl) ⟨rfl,rfl⟩
 have ct : ∀ i,(Array.replicate ops.size false).getD i false = false := fun i => by
  rw [ba_,Array.getElem?_replicate]; split <;> rfl
 refine Vu (C₀ := C) (N₀ := nx s.sto) (w₀ := w) (df := s.df) hR lx c2 (fun L m J C' w' a' iv bt => ?_) ops.size _ 0 s.sto C _ a (by simp) (Qo ct) ?_
 ·obtain ⟨z1,z2⟩ := iv.last lx bt
  have hJ : J = d.s.sto := by
   rw [← Ma,← x2,x4] at z1; cases z1; rfl
  subst hJ;refine ⟨(.normal,d.s),bj_ _,C',rfl,?_,iv.ext⟩
  have hTn : ((log.map (·.1) ++ [d.s.tm])[ops.size]?).getD .e = d.s.tm := by
   rw [← bn,← x1,cb_ (by simp)]; simp
  simp only [hTn] at z2
  exact ⟨z2.sim,z2.glob,z2.tmps,by rw [k4]; exact z2.size,by rw [k5]; exact z2.dfs⟩
 ·refine ⟨fun j hj => ?_,fun k e _ => ?_,rfl,t1,st.glob.ext t2,fun t x hx => ?_,st.size,st.dfs.ext t2,t2⟩
  ·rw [ct] at hj; cases hj
  ·rw [ct]; constructor
   ·intro hh; cases hh
   ·intro hh; omega
  ·refine R.ext t2 _ _ (st.tmps t x ?_);rw [← hx,Ga (k := 0) (ca_ _) fun i _ _ _ => ct i]; rfl
end Go.AM
