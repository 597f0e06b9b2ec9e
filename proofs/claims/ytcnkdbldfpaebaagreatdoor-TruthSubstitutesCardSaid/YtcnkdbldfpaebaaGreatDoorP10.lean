/- A part of the proof; shortened by program. -/
import Derived.Test.YtcnkdbldfpaebaaGreatDoorP09
set_option maxRecDepth 100000
set_option maxHeartbeats 4000000
set_option linter.unusedSimpArgs false
set_option linter.unusedVariables false
namespace Go.AM
open Go
section
variable {E : Env} {ops : List Oper} {Rr : Rec} {nt : Nat}
def Af5 (E : Env) (ops : List Oper) (Rr : Rec) (o : Oper) (tm : Tr AV) (J : Sto) (v : AV) (J' : Sto) : Prop :=
 (Cn ops o tm = some true /\ opA E o.op Rr tm J = some (v,J')) ∨ (Cn ops o tm = some false /\ v = A5 /\ J' = J)
def cnt (E : Env) : List Oper -> Nat -> Nat
 | [],_ => 0
 | _ :: _,0 => 0
 | o :: r,k + 1 => (if Cg (By E o.op) = true then 1 else 0) + cnt E r k
inductive Lex (E : Env) (ops : List Oper) (Rr : Rec) (nt : Nat) : List Oper -> Tr AV -> Sto -> List (Tr AV × AV) -> List Sto -> Tr AV -> Sto -> Prop
 | nil {tm J} : Lex E ops Rr nt [] tm J [] [] tm J
 | eff {o r tm J v J₁ tm₁ log eps tm' J'} : Cg (By E o.op) = true -> Af5 E ops Rr o tm J v J₁ -> H3 o.dst tm nt v = some tm₁ -> Lex E ops Rr nt r tm₁ J₁ log eps tm' J' ->
   Lex E ops Rr nt (o :: r) tm J ((tm,v) :: log) (J₁ :: eps) tm' J'
 | calm {o r tm J v J₁ tm₁ log eps tm' J'} : Cg (By E o.op) = false -> Af5 E ops Rr o tm J v J₁ -> H3 o.dst tm nt v = some tm₁ -> Lex E ops Rr nt r tm₁ J log eps tm' J' ->
   Lex E ops Rr nt (o :: r) tm J ((tm,v) :: log) eps tm' J'
theorem Mb : ∀ {r : List Oper} {d d' : DS},Ov E ops Rr r d = some d' -> ∃ log eps,Lex E ops Rr d.s.nt r d.s.tm d.s.sto log eps d'.s.tm d'.s.sto /\ d'.log.reverse = d.log.reverse ++ log /\ d'.eps.reverse = d.eps.reverse ++ eps /\ d'.s.nt = d.s.nt /\ d'.s.df = d.s.df
 | [],d,d',h => by
  simp only [Ov,ac_] at h; subst h
  exact ⟨[],[],.nil,by simp,by simp,rfl,rfl⟩
 | o :: r,d,d',h => by
  simp only [Ov] at h
  split at h
  ·rename_i d₁ h₁
   obtain ⟨log,eps,k1,k2,k3,k4,k5⟩ := Mb h;unfold Qy at h₁
   split at h₁
   ·rename_i hg
    split at h₁
    ·rename_i v J hv
     split at h₁
     ·rename_i tm htm
      split at h₁
      ·rename_i he
       cases h₁
       exact ⟨_,_,.eff he (.inl ⟨hg,hv⟩) htm k1,by rw [k2]; simp,by rw [k3]; simp,k4,k5⟩
      ·rename_i he
       cases h₁
       exact ⟨_,_,.calm he (.inl ⟨hg,hv⟩) htm k1,by rw [k2]; simp,k3,k4,k5⟩
     ·cases h₁
    ·cases h₁
   ·rename_i hg
    split at h₁
    ·rename_i tm htm
     split at h₁
     ·rename_i he
      cases h₁
      exact ⟨_,_,.eff he (.inr ⟨hg,rfl,rfl⟩) htm k1,by rw [k2]; simp,by rw [k3]; simp,k4,k5⟩
     ·rename_i he
      cases h₁
      exact ⟨_,_,.calm he (.inr ⟨hg,rfl,rfl⟩) htm k1,by rw [k2]; simp,k3,k4,k5⟩
    ·cases h₁
   ·cases h₁
  ·cases h
theorem Zu {r : List Oper} {tm tm' : Tr AV} {J J' : Sto} {log : List (Tr AV × AV)} {eps : List Sto} (h : Lex E ops Rr nt r tm J log eps tm' J') :
  log.length = r.length /\ eps.length = cnt E r r.length /\ (log.map (·.1) ++ [tm'])[0]? = some tm /\ (J :: eps)[eps.length]? = some J' /\
  ∀ (k : Nat) (o : Oper),r[k]? = some o -> ∃ t v t₁ Jk J₁,log[k]? = some (t,v) /\ (log.map (·.1) ++ [tm'])[k + 1]? = some t₁ /\ (J :: eps)[cnt E r k]? = some Jk /\ H3 o.dst t nt v = some t₁ /\ Af5 E ops Rr o t Jk v J₁ /\
   (Cg (By E o.op) = true -> (J :: eps)[cnt E r k + 1]? = some J₁) := by
 induction h with
 | nil => exact ⟨rfl,rfl,rfl,rfl,fun k o h => by simp at h⟩
 | @eff o r tm J v J₁ tm₁ log eps tm' J' he fa cc m7 ih =>
  obtain ⟨h1,h2,h3,h4,h5⟩ := ih
  refine ⟨by simp [h1],by simp [cnt,he,h2]; omega,rfl,by simpa using h4,fun k o' hk => ?_⟩
  cases k with
  | zero =>
   simp at hk; subst hk
   exact ⟨tm,v,tm₁,J,J₁,rfl,by simpa using h3,rfl,cc,fa,fun _ => by simp [cnt]⟩
  | succ k =>
   obtain ⟨t,u,t₁,Jk,J₂,a1,a2,a3,a4,a5,a6⟩ := h5 k o' (by simpa using hk)
   refine ⟨t,u,t₁,Jk,J₂,by simpa using a1,by simpa using a2,?_,a4,a5,fun hh => ?_⟩
   ·simp only [cnt,he,if_true]; rw [en_,bh_]; exact a3
   ·simp only [cnt,he,if_true]; rw [show 1 + cnt E r k + 1 = (cnt E r k + 1) + 1 by omega,bh_]; exact a6 hh
 | @calm o r tm J v J₁ tm₁ log eps tm' J' he fa cc m7 ih =>
  obtain ⟨h1,h2,h3,h4,h5⟩ := ih
  refine ⟨by simp [h1],by simp [cnt,he,h2],rfl,h4,fun k o' hk => ?_⟩
  cases k with
  | zero =>
   simp at hk; subst hk
   exact ⟨tm,v,tm₁,J,J₁,rfl,by simpa using h3,rfl,cc,fa,fun hh => by rw [he] at hh; cases hh⟩
  | succ k =>
   obtain ⟨t,u,t₁,Jk,J₂,a1,a2,a3,a4,a5,a6⟩ := h5 k o' (by simpa using hk)
   refine ⟨t,u,t₁,Jk,J₂,by simpa using a1,by simpa using a2,?_,a4,a5,fun hh => ?_⟩
   ·simp only [cnt,he,bd_,if_false,bf_]; exact a3
   ·simp only [cnt,he,bd_,if_false,bf_]; exact a6 hh
end
section
variable (ops : Array Oper) (V : Nat -> AV) (tm₀ : Tr AV)
def Ch (L : Nat -> Bool) : Nat -> Nat -> Option AV
 | 0,t => tm₀.get t
 | i + 1,t => if L i = true /\ (ops[i]?).bind (·.dst) = some t then some (V i) else Ch L i t
variable {ops V tm₀}
theorem G6 {L L' : Nat -> Bool} {t : Nat} : ∀ {k : Nat},(∀ i,i < k -> (ops[i]?).bind (·.dst) = some t -> L i = L' i) -> Ch ops V tm₀ L k t = Ch ops V tm₀ L' k t
 | 0,_ => rfl
 | i + 1,h => by
  simp only [Ch];rw [G6 fun j hj => h j Om]
  by_cases hd : (ops[i]?).bind (·.dst) = some t
  ·rw [h i Om hd]
  ·rw [if_neg (fun hh => hd hh.2),if_neg (fun hh => hd hh.2)]
theorem Ia {L : Nat -> Bool} {t k : Nat} : ∀ {m : Nat},k <= m -> (∀ i,k <= i -> i < m -> (ops[i]?).bind (·.dst) = some t -> L i = false) -> Ch ops V tm₀ L m t = Ch ops V tm₀ L k t
 | 0,hk,_ => by rw [show k = 0 by omega]
 | m + 1,hk,h => by
  by_cases he : k = m + 1
  ·rw [he]
  ·simp only [Ch];rw [if_neg,Ia Om fun i h1 h2 => h i h1 Om]
   rintro ⟨h1,h2⟩;rw [h m Om Om h2] at h1; cases h1
theorem Vt {T : Nat -> Tr AV} {nt n : Nat} (h0 : T 0 = tm₀) (hT : ∀ k,k < n -> ∃ o,ops[k]? = some o /\ H3 o.dst (T k) nt (V k) = some (T (k + 1))) : ∀ k,k <= n -> ∀ t,(T k).get t = Ch ops V tm₀ (fun _ => true) k t
 | 0,_,t => by rw [h0]; rfl
 | k + 1,hk,t => by
  obtain ⟨o,ho,cc⟩ := hT k Om;have ih := Vt h0 hT k Om t;simp only [Ch,ho,fg_,true_and];cases hd : o.dst with
  | none =>
   rw [hd] at cc;simp only [H3,ac_] at cc
   rw [if_neg (by simp),← cc]; exact ih
  | some d =>
   rw [hd] at cc;simp only [H3,Dw] at cc;cases hb : Nat.blt d nt
   ·simp [hb] at cc
   ·simp only [hb,cond_true,ac_] at cc;rw [← cc,db_]
    by_cases ht : t = d
    ·subst ht; rw [if_pos rfl,if_pos rfl]
    ·rw [if_neg ht,if_neg (by simpa using fun hh => ht hh.symm)]; exact ih
def Aeg (ops : Array Oper) (j t : Nat) : Prop := ∀ i,i ≠ j -> (ops[i]?).bind (·.dst) = some t ->
 (i < j -> ((Region.before ops).getD j 0).testBit i = true) /\ (j < i -> ((Region.before ops).getD i 0).testBit j = true)
def Zv (ops : Array Oper) (L : Nat -> Bool) : Prop := ∀ j,L j = true -> ∀ i,((Region.before ops).getD j 0).testBit i = true -> L i = true
theorem Af6 {L : Nat -> Bool} {j t n : Nat} (hj : j <= n) (hc : Zv ops L) (hL : L j = false) (hr : ∀ i,((Region.before ops).getD j 0).testBit i = true -> L i = true) (ho : Aeg ops j t) :
  Ch ops V tm₀ L n t = Ch ops V tm₀ (fun _ => true) j t := by
 rw [Ia (k := j) hj fun i h1 h2 hd => ?_]
 ·refine G6 fun i hi hd => ?_
  exact hr i ((ho i Om hd).1 hi)
 ·by_cases hij : i = j
  ·rw [hij]; exact hL
  ·rw [bs_];intro hi;have := hc i hi j ((ho i hij hd).2 Om);rw [hL] at this; cases this
theorem Aca {L : Nat -> Bool} {j t n : Nat} (hj : j < n) (hc : Zv ops L) (hL : L j = false) (ho : Aeg ops j t) (hd : (ops[j]?).bind (·.dst) = some t) :
  Ch ops V tm₀ (fun i => L i || i == j) n t = some (V j) := by
 rw [Ia (k := j + 1) Om fun i h1 h2 hdi => ?_]
 ·simp only [Ch,beq_self_eq_true,Bool.or_true,true_and]; rw [if_pos hd]
 ·rw [bs_];intro hi;rw [bc_] at hi
  rcases hi with hi | hi
  ·have := hc i hi j ((ho i Om hdi).2 Om);rw [hL] at this; cases this
  ·have : i = j := by simpa using hi
   omega
theorem Zw {L : Nat -> Bool} {j t n : Nat} (hd : (ops[j]?).bind (·.dst) ≠ some t) :
  Ch ops V tm₀ (fun i => L i || i == j) n t = Ch ops V tm₀ L n t := by
 refine G6 fun i _ hdi => ?_
 have : (i == j) = false := by
  rw [beq_eq_false_iff_ne]; intro hh; subst hh; exact hd hdi
 rw [this,eq_]
end
theorem Gq (A : Array Nat) (i : Nat) : A.toList.getD i 0 = A.getD i 0 := by
 rw [List.getD_eq_getElem?_getD,ay_,bb_]
theorem Nf {ops : Array Oper} (h : I8 ops (Region.before ops).toList = true) {j : Nat} {o : Oper} (ho : ops[j]? = some o) {t : Nat} (ht : t ∈ o.looksAt ops ∨ o.dst = some t) : Aeg ops j t := by
 have key : ∀ i j x y,i < j -> ops[i]? = some x -> ops[j]? = some y -> ((Region.before ops).getD j 0).testBit i = true ∨ Oper.apart ops x y = true := by
  intro i j x y hij hx hy;unfold I8 at h;rw [bu_] at h;have hlt := (ar_.1 hy).1;have h1 := h j (ft_.2 hlt);rw [bu_] at h1;have h2 := h1 i (ft_.2 hij);rw [bc_,Gq] at h2
  rcases h2 with h2 | h2
  ·exact .inl h2
  ·simp only [hx,hy] at h2; exact .inr h2
 intro i hne hd;cases hx : ops[i]? with
 | none => rw [hx] at hd; cases hd
 | some x =>
  rw [hx] at hd;simp only [fg_] at hd;refine ⟨fun hij => ?_,fun hji => ?_⟩
  ·rcases key i j x o hij hx ho with h1 | h1
   ·exact h1
   ·obtain ⟨a1,a2,_⟩ := Oper.apart_spec h1
    rcases ht with ht | ht
    ·exact absurd ht (a1 t hd)
    ·exact absurd ht (a2 t hd)
  ·rcases key j i o x hji ho hx with h1 | h1
   ·exact h1
   ·obtain ⟨_,a2,a3⟩ := Oper.apart_spec h1
    rcases ht with ht | ht
    ·exact absurd ht (a3 t hd)
    ·exact absurd hd (a2 t ht)
section
variable {E : Env}
theorem Jg : ∀ (l : List Oper) (i₀ : Nat),(∀ (k : Nat) (o : Oper),l[k]? = some o -> Cg (By E o.op) = true -> (Ct E l i₀)[cnt E l k]? = some (i₀ + k)) /\
  (∀ (m e : Nat),(Ct E l i₀)[m]? = some e -> ∃ (k : Nat) (o : Oper),e = i₀ + k /\ l[k]? = some o /\ Cg (By E o.op) = true /\ cnt E l k = m)
 | [],i₀ => ⟨fun k o h => by simp at h,fun m e h => by simp [Ct] at h⟩
 | o :: r,i₀ => by
  obtain ⟨h1,h2⟩ := Jg r (i₀ + 1);cases hb : Cg (By E o.op)
  ·simp only [Ct,hb];refine ⟨fun k o' hk he => ?_,fun m e hm => ?_⟩
   ·cases k with
    | zero => simp at hk; subst hk; rw [hb] at he; cases he
    | succ k =>
     simp only [cnt,hb,bd_,if_false,bf_]
     rw [h1 k o' (by simpa using hk) he]; congr 1; omega
   ·obtain ⟨k,o',e1,e2,e3,e4⟩ := h2 m e hm
    exact ⟨k + 1,o',by omega,by simpa using e2,e3,by simp only [cnt,hb,bd_,if_false,bf_]; exact e4⟩
  ·simp only [Ct,hb];refine ⟨fun k o' hk he => ?_,fun m e hm => ?_⟩
   ·cases k with
    | zero => simp [cnt]
    | succ k =>
     simp only [cnt,hb,if_true]
     rw [en_ 1,bh_,h1 k o' (by simpa using hk) he]; congr 1; omega
   ·cases m with
    | zero => simp at hm; exact ⟨0,o,by omega,rfl,hb,rfl⟩
    | succ m =>
     obtain ⟨k,o',e1,e2,e3,e4⟩ := h2 m e (by simpa using hm)
     exact ⟨k + 1,o',by omega,by simpa using e2,e3,by simp only [cnt,hb,if_true]; omega⟩
theorem T2 {b : List Nat} : ∀ {l : List Nat},Mv b l = true -> ∀ (k i j : Nat),l[k]? = some i -> l[k + 1]? = some j -> (b.getD j 0).testBit i = true
 | [],_,k,i,j,h,_ => by simp at h
 | [x],_,k,i,j,_,h => by simp at h
 | x :: y :: l,hc,k,i,j,hi,hj => by
  simp only [Mv,ad_] at hc;cases k with
  | zero => simp at hi hj; subst hi hj; exact hc.1
  | succ k => exact T2 (l := y :: l) hc.2 k i j (by simpa using hi) (by simpa using hj)
theorem W8 {p : Nat -> Bool} : ∀ {l : List Nat} {k e : Nat},k < B7 p l -> l[k]? = some e -> p e = true
 | [],k,e,h,_ => by simp [B7] at h
 | x :: l,k,e,h,he => by
  simp only [B7] at h
  split at h
  ·rename_i hp
   cases k with
   | zero => simp at he; subst he; exact hp
   | succ k => exact W8 (l := l) (k := k) Om (by simpa using he)
  ·omega
theorem W9 {p : Nat -> Bool} : ∀ {l : List Nat} {m : Nat},m <= l.length -> (∀ k e,k < m -> l[k]? = some e -> p e = true) -> m <= B7 p l
 | l,0,_,_ => ch_ _
 | [],m + 1,h,_ => by simp at h
 | x :: l,m + 1,h,hp => by
  simp only [B7];rw [hp 0 x Om rfl]
  have := W9 (l := l) (m := m) (by simpa using h) fun k e hk he => hp (k + 1) e Om (by simpa using he)
  simp only; omega
theorem T3 {p : Nat -> Bool} : ∀ (l : List Nat),B7 p l <= l.length
 | [] => by simp [B7]
 | x :: l => by
  simp only [B7]
  split
  ·have := T3 (p := p) l; simp; omega
  ·omega
theorem Ib {b effs : List Nat} : ∀ (l : List Oper) (i k : Nat) (o : Oper),l[k]? = some o -> (Jc E b effs l i)[k]? = some ⟨By E o.op,B7 (fun e => (b.getD (i + k) 0).testBit e) effs,B7 (fun e => !(b.getD e 0).testBit (i + k)) effs⟩
 | [],i,k,o,h => by simp at h
 | x :: l,i,k,o,h => by
  cases k with
  | zero =>
   simp at h; subst h
   simp only [Jc,Av];cases hc : By E x.op <;> rfl
  | succ k =>
   have ih := Ib (b := b) (effs := effs) l (i + 1) k o (by simpa using h)
   simp only [Jc,Av]
   cases hc : By E x.op <;> (simp only [bh_]; rw [ih]; simp only [show i + 1 + k = i + (k + 1) by omega])
def Aeh (E : Env) (ops : List Oper) (o : Oper) (tm : Tr AV) (v : AV) (l : List Sto) : Prop := Cn ops o tm = some true -> ∀ J ∈ l,∃ J',Bd E o.op tm J = some (v,J')
theorem Af7 {E : Env} {ops : List Oper} {o : Oper} {tm : Tr AV} {v : AV} {l : List Sto} (h : steady E ops o tm v l = true) : Aeh E ops o tm v l := by
 intro hg J hJ;unfold steady at h;rw [hg] at h;simp only at h;have := bu_.1 h J hJ
 split at this
 ·rename_i u J' hu
  rw [AV.beq_eq _ _ this] at hu;exact ⟨J',hu⟩
 ·cases this
theorem Ru {ops : List Oper} {eps : List Sto} : ∀ {az : List Ann} {os : List Oper} {log : List (Tr AV × AV)},Gk E ops eps az os log = true -> ∀ (k : Nat) (a : Ann) (o : Oper) (t : Tr AV) (v : AV),az[k]? = some a -> os[k]? = some o -> log[k]? = some (t,v) -> a.cls = .read ->
  steady E ops o t v ((eps.drop a.lo).take (a.hi + 1 - a.lo)) = true
 | [],[],[],_,k,a,o,t,v,h,_,_,_ => by simp at h
 | x :: az,y :: os,(t',v') :: log,hs,k,a,o,t,v,ha,ho,hl,hc => by
  simp only [Gk,ad_] at hs;cases k with
  | zero =>
   simp at ha ho hl
   obtain ⟨rfl,rfl⟩ := hl;subst ha ho;have := hs.1;rw [hc] at this; exact this
  | succ k => exact Ru hs.2 k a o t v (by simpa using ha) (by simpa using ho) (by simpa using hl) hc
 | [],_ :: _,_,hs,_,_,_,_,_,_,_,_,_ => by simp [Gk] at hs
 | [],[],_ :: _,hs,_,_,_,_,_,_,_,_,_ => by simp [Gk] at hs
 | _ :: _,[],_,hs,_,_,_,_,_,_,_,_,_ => by simp [Gk] at hs
 | _ :: _,_ :: _,[],hs,_,_,_,_,_,_,_,_,_ => by simp [Gk] at hs
end
theorem Acb {ops : Array Oper} (he : Ld ops = true) {listed : Array Bool} (hs : listed.size = ops.size) (h : Region.ready .any ops listed = []) : ∀ i,i < ops.size -> listed.getD i false = true := by
  intro i
  induction i using Nat.strongRecOn with
  | _ i ih =>
    intro hi;cases hl : listed.getD i false with
    | true => rfl
    | false =>
      exfalso
      have hm : i ∈ Region.ready .any ops listed := by
        rw [mem_ready]
        have ho : ops[i]? = some ops[i] := by simp [hi]
        refine ⟨?_,ops[i],ho,fun e hem hb => ?_⟩
        · have : i < listed.size := by omega
          rw [ay_,bw_ this] at hl ⊢;exact hl
        · unfold Ld at he
          rw [bu_] at he;have h1 := he i (ft_.2 hi);simp only [ho] at h1;rw [Array.all_eq_true_iff_forall_mem] at h1;have h2 := h1 e hem;rw [bc_] at h2
          rcases h2 with h2 | h2
          · rw [hb] at h2; cases h2
          · exact ih e.on (by simpa using h2) (by have : e.on < i := by simpa using h2
                                                  omega)
      rw [h] at hm; cases hm
theorem T4 {listed : Array Bool} {j n : Nat} (hs : listed.size = n) (hj : j < n) (i : Nat) : (listed.setIfInBounds j true).getD i false = (listed.getD i false || i == j) := by
 by_cases hij : i = j
 ·subst hij; simp [hs,hj]
 ·rw [getD_set_ne false (gj_ hij)]
  have : (i == j) = false := by simpa using hij
  rw [this,eq_]
section
variable {E : Env} {tm tm' : Tr AV} {ops : Array Oper}
theorem T5 {o : Oper} (h : ∀ t ∈ o.looksAt ops,tm.get t = tm'.get t) : Cn ops.toList o tm = Cn ops.toList o tm' := by
 unfold Cn;cases hg : o.guard with
 | none => rfl
 | some gw =>
  obtain ⟨j,want⟩ := gw;simp only;cases hj : ops.toList[j]? with
  | none => rfl
  | some oj =>
   simp only;cases hd : oj.dst with
   | none => rfl
   | some d =>
    simp only
    have hj' : ops[j]? = some oj := by simpa using hj
    rw [h d (by simp [Oper.looksAt,hg,hj',hd])]
theorem Acc {o : Oper} (h : ∀ t ∈ o.looksAt ops,tm.get t = tm'.get t) : ∀ x ∈ o.op.operands,opd E tm x = opd E tm' x := by
 intro x hx;cases x with
 | tmp t =>
  have : t ∈ o.looksAt ops := cz_ _ (List.mem_filterMap.2 ⟨.tmp t,by simpa using hx,rfl⟩)
  simp only [opd,h t this]
 | _ => rfl
def only (tm : Tr AV) : List Nat -> Tr AV
 | [] => .e
 | t :: l => match tm.get t with
  | some v => (only tm l).put (t + 1) t (some v)
  | none => only tm l
theorem P7 {tm : Tr AV} : ∀ {l : List Nat} {t : Nat} {v : AV},(only tm l).get t = some v -> t ∈ l /\ tm.get t = some v
 | [],t,v,h => by simp [only,Tr.get] at h
 | u :: l,t,v,h => by
  simp only [only] at h
  split at h
  ·rename_i x hx
   rw [db_] at h
   by_cases ht : t = u
   ·subst ht; rw [if_pos rfl] at h; cases h; exact ⟨by simp,hx⟩
   ·rw [if_neg ht] at h; obtain ⟨h1,h2⟩ := P7 h; exact ⟨by simp [h1],h2⟩
  ·obtain ⟨h1,h2⟩ := P7 h; exact ⟨by simp [h1],h2⟩
theorem Q4 {tm : Tr AV} : ∀ {l : List Nat} {t : Nat},t ∈ l -> (only tm l).get t = tm.get t
 | [],t,h => by simp at h
 | u :: l,t,h => by
  simp only [only]
  by_cases ht : t = u
  ·subst ht
   split
   ·rename_i x hx; rw [db_,if_pos rfl,hx]
   ·rename_i hx
    cases hg : (only tm l).get t with
    | none => exact hx.symm
    | some v => have := (P7 hg).2; rw [hx] at this; cases this
  ·have hl : t ∈ l := by simpa [ht] using h
   split
   ·rw [db_,if_neg ht]; exact Q4 hl
   ·exact Q4 hl
end
structure Af8 (E : Env) (ops : Array Oper) (Rr : Rec) (nt : Nat) (tm₀ : Tr AV) (es : List Nat) (T : Nat -> Tr AV) (V : Nat -> AV) (S : List Sto) : Prop where
 slots : I8 ops (Region.before ops).toList = true
 hes : es = Ct E ops.toList 0
 len : S.length = es.length + 1
 chain : Mv (Region.before ops).toList es = true
 here : ∀ (j : Nat) (o : Oper),ops[j]? = some o -> ∃ Jk J₁,S[cnt E ops.toList j]? = some Jk /\ H3 o.dst (T j) nt (V j) = some (T (j + 1)) /\ Af5 E ops.toList Rr o (T j) Jk (V j) J₁ /\ (Cg (By E o.op) = true -> S[cnt E ops.toList j + 1]? = some J₁)
 get : ∀ j,j <= ops.size -> ∀ t,(T j).get t = Ch ops V tm₀ (fun _ => true) j t
 steady : ∀ (j : Nat) (o : Oper),ops[j]? = some o -> By E o.op = .read -> Aeh E ops.toList o (T j) (V j)
  ((S.drop (B7 (fun e => ((Region.before ops).getD j 0).testBit e) es)).take (B7 (fun e => !((Region.before ops).getD e 0).testBit j) es + 1 - B7 (fun e => ((Region.before ops).getD j 0).testBit e) es))
structure Inv (E : Env) (ops : Array Oper) (nt : Nat) (df : List (Nat × List AV)) (tm₀ : Tr AV) (es : List Nat) (V : Nat -> AV) (S : List Sto) (C₀ : Ctx) (N₀ : Nat) (w₀ : World)
  (L : Nat -> Bool) (m : Nat) (J : Sto) (C : Ctx) (w : World) (a : Act) : Prop where
 closed : Zv ops L
 effs : ∀ k e,es[k]? = some e -> (L e = true ↔ k < m)
 sto : S[m]? = some J
 sim : Sim E.P C w J
 glob : Fh C (nx J) w E
 slots : ∀ t x,Ch ops V tm₀ L ops.size t = some x -> R C (nx J) w x (a.tmps.getD t undef)
 size : a.tmps.size = nt
 dfs : DR C (nx J) w df a.defers
 ext : Ext C₀ N₀ w₀ C (nx J) w
section
variable {E : Env} {ops : Array Oper} {Rr : Rec} {nt : Nat} {df : List (Nat × List AV)} {tm₀ : Tr AV} {es : List Nat} {T : Nat -> Tr AV} {V : Nat -> AV} {S : List Sto} {C₀ C : Ctx} {N₀ : Nat} {w₀ w : World} {L : Nat -> Bool} {m : Nat} {J : Sto} {a : Act}
theorem Inv.next (lx : Af8 E ops Rr nt tm₀ es T V S) (iv : Inv E ops nt df tm₀ es V S C₀ N₀ w₀ L m J C w a) {j : Nat} {o : Oper} (ho : ops[j]? = some o) (hL : L j = false) (hr : ∀ i,((Region.before ops).getD j 0).testBit i = true -> L i = true)
  {m' : Nat} {J' : Sto} {C' : Ctx} {w' : World} {x : Value} (m8 : S[m']? = some J') (j8 : ∀ k e,es[k]? = some e -> ((L e || e == j) = true ↔ k < m')) (hs : Sim E.P C' w' J') (he : Ext C (nx J) w C' (nx J') w') (hx : R C' (nx J') w' (V j) x) :
  Inv E ops nt df tm₀ es V S C₀ N₀ w₀ (fun i => L i || i == j) m' J' C' w' (a.put o.dst x) := by
 have hj := (ar_.1 ho).1;obtain ⟨_,_,_,cc,_,_⟩ := lx.here j o ho
 have hdn : ∀ d,o.dst = some d -> d < nt := fun d hd => by
  rw [hd] at cc;simp only [H3] at cc;cases hb : Nat.blt d nt
  ·simp [hb] at cc
  ·exact ai_ hb
 refine ⟨fun i hi k hk => ?_,j8,m8,hs,iv.glob.ext he,fun t y hy => ?_,?_,?_,iv.ext.trans he⟩
 ·rw [bc_] at hi ⊢
  rcases hi with hi | hi
  ·exact .inl (iv.closed i hi k hk)
  ·have : i = j := by simpa using hi
   subst this; exact .inl (hr k hk)
 ·by_cases hd : (ops[j]?).bind (·.dst) = some t
  ·have hd' : o.dst = some t := by rw [ho] at hd; exact hd
   rw [Aca hj iv.closed hL (Nf lx.slots ho (.inr hd')) hd] at hy;cases hy;have := hdn t hd';rw [hd']
   have : t < a.tmps.size := by rw [iv.size]; exact this
   simp [Act.put,this]; exact hx
  ·rw [Zw hd] at hy;have h1 := R.ext he _ _ (iv.slots t y hy);cases hod : o.dst with
   | none => exact h1
   | some d =>
    have hne : d ≠ t := fun hh => hd (by rw [ho]; simp [hod,hh])
    simpa [Act.put,ce_ hne] using h1
 ·cases hod : o.dst <;> simp [Act.put,iv.size]
 ·have : (a.put o.dst x).defers = a.defers := by cases o.dst <;> rfl
  rw [this]; exact iv.dfs.ext he
end
section
variable {E : Env} {ops : Array Oper} {Rr : Rec} {nt : Nat} {df : List (Nat × List AV)} {tm₀ : Tr AV} {es : List Nat} {T : Nat -> Tr AV} {V : Nat -> AV} {S : List Sto} {C₀ C : Ctx} {N₀ : Nat} {w₀ w : World} {L : Nat -> Bool} {m : Nat} {J : Sto} {a : Act}
theorem Jh {op : Op} (h : Cg (By E op) = false) : ∀ tm J,opA E op Rr tm J = Bd E op tm J := by
 intro tm J;cases op
 case call c =>
  cases hc : c.callee with
  | value f => simp [By,hc,Cg] at h
  | builtin b => simp only [opA,hc]
  | invoke r n => simp [By,hc,Cg] at h
 all_goals rfl
theorem Inv.step (hR : Bc E Rr) (lx : Af8 E ops Rr nt tm₀ es T V S) (iv : Inv E ops nt df tm₀ es V S C₀ N₀ w₀ L m J C w a) {j : Nat} {o : Oper} (ho : ops[j]? = some o) (hL : L j = false) (hr : ∀ i,((Region.before ops).getD j 0).testBit i = true -> L i = true)
  {K : Act -> World -> Prop} {Q : Exit -> Act -> World -> Prop} (hK : ∀ m' J' C' w' a',Inv E ops nt df tm₀ es V S C₀ N₀ w₀ (fun i => L i || i == j) m' J' C' w' a' -> K a' w') {ro : Option Nat} {n : Nat} : wpOpIn (C1 ro) n E.P ops Q j K a w := by
 have hj := (ar_.1 ho).1
 have hol : ops.toList[j]? = some o := by simpa using ho
 obtain ⟨Jk,J₁,h1,cc,fa,h3⟩ := lx.here j o ho
 have ek : ∀ t ∈ o.looksAt ops,Ch ops V tm₀ L ops.size t = (T j).get t := fun t ht => by
  rw [lx.get j Om];exact Af6 Om iv.closed hL hr (Nf lx.slots ho (.inl ht))
 have st : SSt E C w ⟨only (T j) (o.looksAt ops),nt,df,J⟩ a := ⟨iv.sim,iv.glob,fun t y hy => by
  obtain ⟨k1,k2⟩ := P7 hy
  exact iv.slots t y (by rw [ek t k1]; exact k2),iv.size,iv.dfs⟩
 have hgc : Cn ops.toList o (only (T j) (o.looksAt ops)) = Cn ops.toList o (T j) := T5 fun t ht => Q4 ht
 have hoc : ∀ τ,opA E o.op Rr (only (T j) (o.looksAt ops)) τ = opA E o.op Rr (T j) τ := fun τ => Ab4 (Acc fun t ht => Q4 ht)
 obtain ⟨e1,e2⟩ := Jg (E := E) ops.toList 0;rw [← lx.hes] at e1 e2
 -- where the store stands
 have gn : Cg (By E o.op) = true -> J = Jk /\ ∀ k e,es[k]? = some e -> ((L e || e == j) = true ↔ k < cnt E ops.toList j + 1) := by
  intro he;have hc := e1 j o hol he;rw [bf_] at hc
  have hle : m <= cnt E ops.toList j := by
   have := iv.effs _ _ hc;rw [hL] at this
   have h0 : ¬ (cnt E ops.toList j < m) := fun hh => by have := this.2 hh; cases this
   omega
  have hge : cnt E ops.toList j <= m := by
   rcases ci_ (cnt E ops.toList j) with h0 | h0
   ·omega
   ·have hlt := (ae_.1 hc).1;have hp : es[cnt E ops.toList j - 1]? = some es[cnt E ops.toList j - 1] := ao_ Om
    have hb := T2 lx.chain _ _ _ hp (by rw [show cnt E ops.toList j - 1 + 1 = cnt E ops.toList j by omega]; exact hc)
    rw [Gq] at hb;have := (iv.effs _ _ hp).1 (hr _ hb);omega
  have hm : m = cnt E ops.toList j := by omega
  refine ⟨by have := iv.sto; rw [hm,h1] at this; cases this; rfl,fun k e hk => ?_⟩
  obtain ⟨k',o',q1,q2,q3,q4⟩ := e2 k e hk;rw [bc_,iv.effs k e hk,beq_iff_eq]
  constructor
  ·rintro (h | h)
   ·omega
   ·have : k' = j := by omega
    subst this; omega
  ·intro h
   by_cases hkc : k = cnt E ops.toList j
   ·subst hkc; rw [hc] at hk; cases hk; exact .inr rfl
   ·exact .inl Om
 have ig : Cg (By E o.op) = false -> ∀ k e,es[k]? = some e -> ((L e || e == j) = true ↔ k < m) := by
  intro he k e hk;obtain ⟨k',o',q1,q2,q3,q4⟩ := e2 k e hk
  have hne : (e == j) = false := by
   rw [beq_eq_false_iff_ne]; intro hh
   have : k' = j := by omega
   subst this; rw [hol] at q2; cases q2; rw [q3] at he; cases he
  rw [hne,eq_]; exact iv.effs k e hk
 unfold wpOpIn;simp only [ho]
 rcases fa with ⟨hg,hv⟩ | ⟨hg,hv,hJ⟩
 ·rw [← hgc] at hg;have hw := El (b := true) st.tmps hg;rw [if_pos hw];cases he : Cg (By E o.op) with
  | true =>
   obtain ⟨rfl,q2⟩ := gn he
   exact Q1 hR st (by rw [hoc]; exact hv) fun C' w' x k1 k2 k3 => hK _ _ _ _ _ (iv.next lx ho hL hr (h3 he) q2 k1 k2 k3)
  | false =>
   have j9 : Bd E o.op (T j) J = some (V j,J) := by
    rw [Jh he] at hv;cases hc : By E o.op with
    | eff => rw [hc] at he; cases he
    | pure => exact (Ab6 hc _ _ _ hv).2 J
    | read =>
     rw [hgc] at hg;have hst := lx.steady j o ho hc hg
     have kd : m <= es.length := by have := (ae_.1 iv.sto).1; rw [lx.len] at this; omega
     have hlo : B7 (fun e => ((Region.before ops).getD j 0).testBit e) es <= m := by
      rcases Nat.lt_or_ge m (B7 (fun e => ((Region.before ops).getD j 0).testBit e) es) with h | h
      ·exfalso
       have hlt : m < es.length := an_ h (T3 es);have hp : es[m]? = some es[m] := ao_ hlt;have := (iv.effs _ _ hp).1 (hr _ (W8 h hp));omega
      ·exact h
     have hhi : m <= B7 (fun e => !((Region.before ops).getD e 0).testBit j) es := by
      refine W9 kd fun k e hk hek => ?_
      have hle := (iv.effs k e hek).2 hk;cases hb : ((Region.before ops).getD e 0).testBit j with
      | false => rfl
      | true => have := iv.closed e hle j hb; rw [hL] at this; cases this
     have eu : J ∈ (S.drop (B7 (fun e => ((Region.before ops).getD j 0).testBit e) es)).take (B7 (fun e => !((Region.before ops).getD e 0).testBit j) es + 1 - B7 (fun e => ((Region.before ops).getD j 0).testBit e) es) := by
      refine af_ (i := m - B7 (fun e => ((Region.before ops).getD j 0).testBit e) es) ?_
      rw [es_,if_pos Om,et_,show B7 (fun e => ((Region.before ops).getD j 0).testBit e) es + (m - B7 (fun e => ((Region.before ops).getD j 0).testBit e) es) = m by omega]
      exact iv.sto
     obtain ⟨J₂,hs2⟩ := hst J eu;have := Zk hc hs2;subst this; exact hs2
   exact Q1 (s := ⟨only (T j) (o.looksAt ops),nt,df,J⟩) hR st (by rw [hoc,Jh he]; exact j9) fun C' w' x k1 k2 k3 => hK _ _ _ _ _ (iv.next lx ho hL hr iv.sto (ig he) k1 k2 k3)
 ·rw [← hgc] at hg;have hw := El (b := false) st.tmps hg
  rw [if_neg (by rw [hw]; simp)]
  refine ⟨fun _ _ => trivial,?_⟩
  have hx : R C (nx J) w (V j) undef := by rw [hv]; exact P0
  cases he : Cg (By E o.op) with
  | true =>
   obtain ⟨rfl,q2⟩ := gn he
   exact hK _ _ _ _ _ (iv.next lx ho hL hr (by rw [h3 he,hJ]) q2 iv.sim (bv_ _ _ _) hx)
  | false => exact hK _ _ _ _ _ (iv.next lx ho hL hr iv.sto (ig he) iv.sim (bv_ _ _ _) hx)
end
def P8 (L : Nat -> Bool) : Nat -> Nat
 | 0 => 0
 | i + 1 => (if L i = true then 0 else 1) + P8 L i
theorem Acd {L L' : Nat -> Bool} : ∀ {n : Nat},(∀ i,i < n -> L i = L' i) -> P8 L n = P8 L' n
 | 0,_ => rfl
 | n + 1,h => by
  simp only [P8];rw [h n Om,Acd (L := L) (L' := L') (n := n) fun i hi => h i Om]
theorem Zx {L : Nat -> Bool} {j : Nat} (hL : L j = false) : ∀ {n : Nat},j < n -> P8 (fun i => L i || i == j) n + 1 = P8 L n
 | 0,h => by omega
 | n + 1,h => by
  by_cases hj : j = n
  ·subst hj
   have : P8 (fun i => L i || i == j) j = P8 L j := Acd fun i hi => by
    have : (i == j) = false := by rw [beq_eq_false_iff_ne]; omega
    rw [this,eq_]
   simp [P8,hL,this]; omega
  ·have ih := Zx (n := n) hL Om
   have : (n == j) = false := by rw [beq_eq_false_iff_ne]; omega
   simp only [P8,this,eq_]; omega
theorem Vu {L : Nat -> Bool} : ∀ {n : Nat},P8 L n = 0 -> ∀ i,i < n -> L i = true
 | 0,_,i,hi => by omega
 | n + 1,h,i,hi => by
  simp only [P8] at h
  by_cases hn : L n = true
  ·rw [if_pos hn] at h
   by_cases he : i = n
   ·subst he; exact hn
   ·exact Vu (n := n) Om i Om
  ·rw [if_neg hn] at h; omega
section
variable {E : Env} {ops : Array Oper} {Rr : Rec} {nt : Nat} {df : List (Nat × List AV)} {tm₀ : Tr AV} {es : List Nat} {T : Nat -> Tr AV} {V : Nat -> AV} {S : List Sto} {C₀ : Ctx} {N₀ : Nat} {w₀ : World}
theorem Inv.last (lx : Af8 E ops Rr nt tm₀ es T V S) {L : Nat -> Bool} {m : Nat} {J : Sto} {C : Ctx} {w : World} {a : Act} (iv : Inv E ops nt df tm₀ es V S C₀ N₀ w₀ L m J C w a) (bt : ∀ i,i < ops.size -> L i = true) :
  S[es.length]? = some J /\ SSt E C w ⟨T ops.size,nt,df,J⟩ a := by
 have hm : m = es.length := by
  have h1 := (ae_.1 iv.sto).1;rw [lx.len] at h1
  rcases Nat.lt_or_ge m es.length with h | h
  ·exfalso
   have hp : es[m]? = some es[m] := ao_ h;obtain ⟨_,e2⟩ := Jg (E := E) ops.toList 0;rw [← lx.hes] at e2;obtain ⟨k,o,q1,q2,_⟩ := e2 m _ hp;have hk := (ae_.1 q2).1
   have := (iv.effs m _ hp).1 (bt _ (by rw [q1,bf_]; simpa using hk))
   omega
  ·omega
 refine ⟨hm ▸ iv.sto,iv.sim,iv.glob,fun t y hy => iv.slots t y ?_,iv.size,iv.dfs⟩
 rw [← hy,lx.get ops.size nl];exact G6 fun i hi _ => bt i hi
theorem Ace (hR : Bc E Rr) (lx : Af8 E ops Rr nt tm₀ es T V S) (hed : Ld ops = true) {Q : Exit -> Act -> World -> Prop}
  (hQ : ∀ (L : Nat -> Bool) m J C w a,Inv E ops nt df tm₀ es V S C₀ N₀ w₀ L m J C w a -> (∀ i,i < ops.size -> L i = true) -> Q .normal a w) {ro : Option Nat} {n : Nat} :
  ∀ (fuel : Nat) (listed : Array Bool) (m : Nat) (J : Sto) (C : Ctx) (w : World) (a : Act),listed.size = ops.size -> P8 (fun i => listed.getD i false) ops.size = fuel ->
   Inv E ops nt df tm₀ es V S C₀ N₀ w₀ (fun i => listed.getD i false) m J C w a -> wpAnyIn (C1 ro) n E.P .any ops Q fuel listed a w
 | 0,listed,m,J,C,w,a,hs,ht,iv => by
  have bt := Vu ht;refine ⟨?_,hQ _ m J C w a iv bt⟩;rw [List.eq_nil_iff_forall_not_mem];intro j hj;obtain ⟨h1,o,ho,_⟩ := mem_ready.1 hj;have hlt := (ar_.1 ho).1;have h2 := bt j hlt;simp only [ay_] at h1 h2
  rw [bw_ (by omega : j < listed.size)] at h1 h2
  simp only [ee_] at h1 h2;rw [h1] at h2; cases h2
 | fuel + 1,listed,m,J,C,w,a,hs,ht,iv => by
  refine ⟨fun h0 => hQ _ m J C w a iv (Acb hed hs h0),fun j hj => ?_⟩
  obtain ⟨h1,o,ho,bt⟩ := mem_ready.1 hj;have hlt := (ar_.1 ho).1
  have hL : listed.getD j false = false := by
   simp only [ay_] at h1 ⊢
   rw [bw_ (by omega : j < listed.size)] at h1 ⊢
   exact h1
  have hr : ∀ i,((Region.before ops).getD j 0).testBit i = true -> listed.getD i false = true := fun i hi => by
   obtain ⟨e,he,hb,h⟩ := W7 ho hi;have hon := bt e he hb
   rcases h with rfl | h
   ·exact hon
   ·exact iv.closed _ hon i h
  refine iv.step hR lx ho hL hr fun m' J' C' w' a' iv' => ?_
  have em : (fun i => (listed.setIfInBounds j true).getD i false) = fun i => listed.getD i false || i == j := funext fun i => T4 hs hlt i
  refine Ace hR lx hed hQ fuel _ m' J' C' w' a' (by simp [hs]) ?_ (by rw [em]; exact iv')
  rw [em];have := Zx (L := fun i => listed.getD i false) hL hlt
  omega
end
theorem Vv {L : Nat -> Bool} : ∀ {n : Nat},(∀ i,L i = false) -> P8 L n = n
 | 0,_ => rfl
 | n + 1,h => by simp only [P8]; rw [if_neg (by rw [h n]; simp),Vv (n := n) h]; omega
theorem T6 {E : Env} : ∀ (l : List Oper) (i : Nat),cnt E l l.length = (Ct E l i).length
 | [],i => rfl
 | o :: r,i => by
  simp only [aq_,cnt,Ct];cases hb : Cg (By E o.op)
  ·simp [T6 r (i + 1)]
  ·simp [T6 r (i + 1)]; omega
theorem Acf {E : Env} (hm : E.P.follows .mixedOrders = true) {Rr : Rec} (hR : Bc E Rr) {ops : Array Oper} {s : St} {d : DS} {C : Ctx} {w : World} {a : Act} {id : Nat} (st : SSt E C w s a)
  (c1 : I8 ops (Region.before ops).toList = true) (c2 : Ld ops = true) (c3 : Mv (Region.before ops).toList (Ct E ops.toList 0) = true) (hd : Ov E ops.toList Rr ops.toList ⟨s,[s.sto],[]⟩ = some d)
  (hb : ∀ (j : Nat) (o : Oper) (t : Tr AV) (v : AV),ops[j]? = some o -> d.log.reverse[j]? = some (t,v) -> By E o.op = .read -> Aeh E ops.toList o t v
   ((d.eps.reverse.drop (B7 (fun e => ((Region.before ops).getD j 0).testBit e) (Ct E ops.toList 0))).take (B7 (fun e => !((Region.before ops).getD e 0).testBit j) (Ct E ops.toList 0) + 1 - B7 (fun e => ((Region.before ops).getD j 0).testBit e) (Ct E ops.toList 0)))) {ro : Option Nat} {n : Nat} :
  (Code.region id ops true).wpIn (C1 ro) n E.P (Jt E C (nx s.sto) w [(.normal,d.s)]) a w := by
 obtain ⟨log,eps,lex,k2,k3,k4,k5⟩ := Mb hd;simp only [ef_,br_,dc_] at k2 k3;obtain ⟨x1,x2,x3,x4,x5⟩ := Zu lex
 have bx : ops.toList.length = ops.size := by simp
 have hT : ∀ k,k < ops.size -> ∃ o,ops[k]? = some o /\ H3 o.dst (((log.map (·.1) ++ [d.s.tm])[k]?).getD .e) s.nt (((log[k]?).map (·.2)).getD .any) = some (((log.map (·.1) ++ [d.s.tm])[k + 1]?).getD .e) := by
  intro k hk
  have ho : ops.toList[k]? = some ops[k] := by simp [hk]
  obtain ⟨t,v,t₁,Jk,J₁,y1,y2,y3,y4,y5,y6⟩ := x5 k _ ho;have hlt := (ae_.1 y1).1
  refine ⟨ops[k],by simp [hk],?_⟩
  rw [bx_ (by simpa using hlt),bn_,y1,y2]
  exact y4
 have lx : Af8 E ops Rr s.nt s.tm (Ct E ops.toList 0) (fun k => ((log.map (·.1) ++ [d.s.tm])[k]?).getD .e) (fun k => ((log[k]?).map (·.2)).getD .any) (s.sto :: eps) := by
  refine ⟨c1,rfl,by simp only [aq_,x2,T6 ops.toList 0],c3,fun j o ho => ?_,fun j hj t => ?_,fun j o ho hc => ?_⟩
  ·obtain ⟨t,v,t₁,Jk,J₁,y1,y2,y3,y4,y5,y6⟩ := x5 j o (by simpa using ho)
   have hlt := (ae_.1 y1).1;refine ⟨Jk,J₁,y3,?_,?_,y6⟩
   ·rw [bx_ (by simpa using hlt),bn_,y1,y2]; exact y4
   ·rw [bx_ (by simpa using hlt),bn_,y1]; exact y5
  ·exact Vt (n := ops.size) (by rw [x3]; rfl) hT j hj t
  ·obtain ⟨t,v,t₁,Jk,J₁,y1,y2,y3,y4,y5,y6⟩ := x5 j o (by simpa using ho)
   have hlt := (ae_.1 y1).1
   have := hb j o t v ho (by rw [k2]; exact y1) hc
   rw [k3] at this
   rw [bx_ (by simpa using hlt),bn_,y1]
   exact this
 refine wpIn_region_any hm ?_;obtain ⟨t1,t2⟩ := st.sim.same (w' := { w with drawn := w.drawn + 1 }) nl (fun _ _ => rfl) ⟨rfl,rfl⟩
 have dg : ∀ i,(Array.replicate ops.size false).getD i false = false := fun i => by
  rw [ay_,Array.getElem?_replicate]; split <;> rfl
 refine Ace (C₀ := C) (N₀ := nx s.sto) (w₀ := w) (df := s.df) hR lx c2 (fun L m J C' w' a' iv bt => ?_) ops.size _ 0 s.sto C _ a (by simp) (Vv dg) ?_
 ·obtain ⟨z1,z2⟩ := iv.last lx bt
  have hJ : J = d.s.sto := by
   rw [← T6,← x2,x4] at z1; cases z1; rfl
  subst hJ;refine ⟨(.normal,d.s),bj_ _,C',rfl,?_,iv.ext⟩
  have hTn : ((log.map (·.1) ++ [d.s.tm])[ops.size]?).getD .e = d.s.tm := by
   rw [← bx,← x1,co_ (by simp)]; simp
  simp only [hTn] at z2
  exact ⟨z2.sim,z2.glob,z2.tmps,by rw [k4]; exact z2.size,by rw [k5]; exact z2.dfs⟩
 ·refine ⟨fun j hj => ?_,fun k e _ => ?_,rfl,t1,st.glob.ext t2,fun t x hx => ?_,st.size,st.dfs.ext t2,t2⟩
  ·rw [dg] at hj; cases hj
  ·rw [dg]; constructor
   ·intro hh; cases hh
   ·intro hh; omega
  ·refine R.ext t2 _ _ (st.tmps t x ?_);rw [← hx,Ia (k := 0) (ch_ _) fun i _ _ _ => dg i]; rfl
def Jv : List (Tr AV × AV) -> List (Ao × AV) -> Prop
 | [],[] => True
 | (tm,v) :: l,(ρ,u) :: m => Has tm ρ /\ v = u /\ Jv l m
 | _,_ => False
theorem Jv.append : ∀ {l l' : List (Tr AV × AV)} {m m' : List (Ao × AV)},Jv l m -> Jv l' m' -> Jv (l ++ l') (m ++ m')
 | [],l',[],m',_,h => h
 | (tm,v) :: l,l',(ρ,u) :: m,m',h,k => ⟨h.1,h.2.1,Jv.append h.2.2 k⟩
 | [],_,_ :: _,_,h,_ => h.elim
 | _ :: _,_,[],_,h,_ => h.elim
theorem Jv.reverse : ∀ {l : List (Tr AV × AV)} {m : List (Ao × AV)},Jv l m -> Jv l.reverse m.reverse
 | [],[],h => h
 | (tm,v) :: l,(ρ,u) :: m,h => by
  rw [dc_,dc_];exact Jv.append (Jv.reverse h.2.2) ⟨h.1,h.2.1,trivial⟩
 | [],_ :: _,h => h.elim
 | _ :: _,[],h => h.elim
theorem Jv.get : ∀ {l : List (Tr AV × AV)} {m : List (Ao × AV)},Jv l m -> ∀ (j : Nat) (t : Tr AV) (v : AV),l[j]? = some (t,v) -> ∃ ρ,m[j]? = some (ρ,v) /\ Has t ρ
 | [],[],_,j,t,v,h => by simp at h
 | (tm,v) :: l,(ρ,u) :: m,h,0,t,x,hj => by simp at hj; obtain ⟨rfl,rfl⟩ := hj; obtain ⟨h1,rfl,_⟩ := h; exact ⟨ρ,rfl,h1⟩
 | (tm,v) :: l,(ρ,u) :: m,h,j + 1,t,x,hj => by
  obtain ⟨ρ',h1,h2⟩ := Jv.get h.2.2 j t x (by simpa using hj)
  exact ⟨ρ',by simpa using h1,h2⟩
 | [],_ :: _,h,_,_,_,_ => h.elim
 | _ :: _,[],h,_,_,_,_ => h.elim
abbrev KD := Ao -> Sto -> List Sto -> List (Ao × AV) -> Prop
def TD (E : Env) (nt : Nat) (Rr : Rec) (ops r : List Oper) (K : KD) (ρ : Ao) (J : Sto) (eps : List Sto) (log : List (Ao × AV)) : Prop :=
 ∀ (tm : Tr AV) (df : List (Nat × List AV)) (dl : List (Tr AV × AV)),Has tm ρ -> Jv dl log -> ∃ d',Ov E ops Rr r ⟨⟨tm,nt,df,J⟩,eps,dl⟩ = some d' /\ d'.s.nt = nt /\ d'.s.df = df /\ ∃ ρ' log',Has d'.s.tm ρ' /\ Jv d'.log log' /\ K ρ' d'.s.sto d'.eps log'
section
variable {E : Env} {nt B : Nat} {df : List (Nat × List AV)} {Q : Dr} {Rr : Rec} {ops r : List Oper} {K : KD} {ρ : Ao} {J : Sto} {eps : List Sto} {log : List (Ao × AV)}
theorem Bi (h : K ρ J eps log) : TD E nt Rr ops [] K ρ J eps log := fun tm df dl ht hl => ⟨_,rfl,rfl,rfl,ρ,log,ht,hl,h⟩
theorem Aox {o : Oper} {v : AV} {J₁ : Sto} {b : Bool} (hg : ∀ tm,Has tm ρ -> Cn ops o tm = some true) (he : Cg (By E o.op) = b) (hd : C5 nt o.dst = true) (h : Bo E Rr o.op ρ J v J₁)
  (k : TD E nt Rr ops r K (En o.dst v ρ) (cond b J₁ J) (cond b (J₁ :: eps) eps) ((ρ,v) :: log)) : TD E nt Rr ops (o :: r) K ρ J eps log := by
 intro tm df dl ht hl;obtain ⟨tm',h1,h2⟩ := D0 (dst := o.dst) hd ht v
 have : Qy E ops o Rr ⟨⟨tm,nt,df,J⟩,eps,dl⟩ = some ⟨⟨tm',nt,df,cond b J₁ J⟩,cond b (J₁ :: eps) eps,(tm,v) :: dl⟩ := by
  unfold Qy;simp only [hg tm ht,h tm ht,h1,he];cases b <;> rfl
 obtain ⟨d',k1,k2⟩ := k tm' df ((tm,v) :: dl) h2 ⟨ht,rfl,hl⟩
 exact ⟨d',by simp only [Ov,this]; exact k1,k2⟩
theorem Akr {op : Op} {dst : Option Nat} {ty : Nat} {pos : String} {after : Array Edge} {v : AV} {J₁ : Sto} {b : Bool} (he : Cg (By E op) = b) (hd : C5 nt dst = true) (h : Bo E Rr op ρ J v J₁)
  (k : TD E nt Rr ops r K (En dst v ρ) (cond b J₁ J) (cond b (J₁ :: eps) eps) ((ρ,v) :: log)) : TD E nt Rr ops ({ dst := dst,op := op,type := ty,pos := pos,after := after,guard := none } :: r) K ρ J eps log :=
 Aox (o := { dst := dst,op := op,type := ty,pos := pos,after := after,guard := none }) (fun _ _ => rfl) he hd h k
theorem P9 {o oj : Oper} {v : AV} {J₁ : Sto} {j d : Nat} {b want e : Bool} (hg : o.guard = some (j,want)) (hj : ops[j]? = some oj) (hdj : oj.dst = some d) (hb : Ao.at ρ d = some (.bool b)) (hw : cond b want (!want) = true)
  (he : Cg (By E o.op) = e) (hd : C5 nt o.dst = true) (h : Bo E Rr o.op ρ J v J₁)
  (k : TD E nt Rr ops r K (En o.dst v ρ) (cond e J₁ J) (cond e (J₁ :: eps) eps) ((ρ,v) :: log)) : TD E nt Rr ops (o :: r) K ρ J eps log :=
 Aox (fun tm ht => by rw [Gn ht hg hj hdj hb,hw]) he hd h k
def Obl (E : Env) (eps : List Sto) : List Ann -> List Oper -> List (Ao × AV) -> Prop
 | a :: az,o :: os,(ρ,v) :: l => (match a.cls with
  | .read => ∀ J ∈ (eps.drop a.lo).take (a.hi + 1 - a.lo),∃ J',Bo E (fun _ _ _ => none) o.op ρ J v J'
  | _ => True) /\ Obl E eps az os l
 | _,_,_ => True
theorem Obl.get {E : Env} {eps : List Sto} : ∀ {az : List Ann} {os : List Oper} {l : List (Ao × AV)},Obl E eps az os l -> ∀ (j : Nat) (a : Ann) (o : Oper) (ρ : Ao) (v : AV),az[j]? = some a -> os[j]? = some o -> l[j]? = some (ρ,v) -> a.cls = .read ->
  ∀ J ∈ (eps.drop a.lo).take (a.hi + 1 - a.lo),∃ J',Bo E (fun _ _ _ => none) o.op ρ J v J'
 | a :: az,o :: os,(ρ,v) :: l,h,0,a',o',ρ',v',ha,ho,hl,hc => by
  simp at ha ho hl; obtain ⟨rfl,rfl⟩ := hl; subst ha ho
  have := h.1; rw [hc] at this; exact this
 | a :: az,o :: os,(ρ,v) :: l,h,j + 1,a',o',ρ',v',ha,ho,hl,hc => Obl.get h.2 j a' o' ρ' v' (by simpa using ha) (by simpa using ho) (by simpa using hl) hc
 | [],_,_,_,_,_,_,_,_,h,_,_,_ => by simp at h
 | _ :: _,[],_,_,_,_,_,_,_,_,h,_,_ => by simp at h
 | _ :: _,_ :: _,[],_,_,_,_,_,_,_,_,h,_ => by simp at h
theorem K5 {ops : Array Oper} {anns : List Ann} (h : Mw E ops = some anns) : I8 ops (Region.before ops).toList = true /\ Ld ops = true /\ Mv (Region.before ops).toList (Ct E ops.toList 0) = true /\
  anns = Jc E (Region.before ops).toList (Ct E ops.toList 0) ops.toList 0 := by
 unfold Mw at h;simp only at h
 split at h
 ·rename_i dw
  cases h;simp only [ad_] at dw;obtain ⟨⟨⟨c1,c2⟩,c3⟩,_⟩ := dw;exact ⟨c1,c2,c3,rfl⟩
 ·cases h
theorem Ai4 {id : Nat} {ops : Array Oper} {anns : List Ann} (hm : E.P.follows .mixedOrders = true) (hR : Bc E Rr) (ha : Mw E ops = some anns)
  (h : TD E nt Rr ops.toList ops.toList (fun ρ' J' eps log => Obl E eps.reverse anns ops.toList log.reverse /\ Q .normal ρ' J') ρ J [J] []) : T E nt df B (.region id ops true) Q ρ J := by
 intro ro n hn C w tm a ht st hB;obtain ⟨c1,c2,c3,c4⟩ := K5 ha;obtain ⟨d,k1,k2,k3,ρ',log',k4,k5,k6,k7⟩ := h tm df [] ht trivial;refine wpIn_mono (Acf hm hR st c1 c2 c3 k1 fun j o t v ho hl hc hg Jk hJ => ?_) fun e a' w' he => ?_
 ·obtain ⟨ρj,q1,q2⟩ := k5.reverse.get j t v hl
  have c5 := Ib (E := E) (b := (Region.before ops).toList) (effs := Ct E ops.toList 0) ops.toList 0 j o (by simpa using ho)
  rw [← c4] at c5;simp only [bf_] at c5
  obtain ⟨J',hto⟩ := k6.get j _ o ρj v c5 (by simpa using ho) q1 hc Jk (by simp only [Gq]; exact hJ)
  have := hto t q2;refine ⟨J',?_⟩
  have hne : Cg (By E o.op) = false := by rw [hc]; rfl
  rw [← Jh (Rr := fun _ _ _ => none) hne]; exact this
 ·obtain ⟨y,hy,C',h1,h2,h3⟩ := he;rw [al_] at hy;subst hy;obtain ⟨⟨tm',nt',df',J'⟩,eps',dl'⟩ := d;simp only at k2 k3;subst k2 k3;exact ⟨.normal,tm',ρ',J',C',h1,k4,k7,h2,ax_ hB h3.next,h3.base hB⟩
def Arx (E : Env) (ops : List Oper) : Bool := ops.all fun o => !Cg (By E o.op)
def KD0 (Q : Dr) (J : Sto) : KD := fun ρ' J' eps _ => J' = J /\ eps = [J] /\ Q .normal ρ' J
theorem Fx {id : Nat} {ops : Array Oper} {anns : List Ann} (hm : E.P.follows .mixedOrders = true) (ha : Mw E ops = some anns) (hc : Arx E ops.toList = true)
  (h : TD E nt (fun _ _ _ => none) ops.toList ops.toList (KD0 Q J) ρ J [J] []) : T E nt df B (.region id ops true) Q ρ J := by
 intro ro n hn C w tm a ht st hB;obtain ⟨c1,c2,c3,c4⟩ := K5 ha;obtain ⟨d,k1,k2,k3,ρ',log',k4,k5,k6,k7,k8⟩ := h tm df [] ht trivial;refine wpIn_mono (Acf hm di_ st c1 c2 c3 k1 fun j o t v ho hl hcl hg Jk hJ => ?_) fun e a' w' he => ?_
 ·rw [k7] at hJ
  have hJ' : Jk = J := by
   have := ed_ (cy_ hJ)
   simpa using this
  subst hJ';obtain ⟨log,eps,lex,g2,g3,g4,g5⟩ := Mb k1;simp only [ef_,br_,dc_] at g2 g3;obtain ⟨x1,x2,x3,x4,x5⟩ := Zu lex
  obtain ⟨t',v',t₁,J₀,J₁,y1,y2,y3,y4,y5,y6⟩ := x5 j o (by simpa using ho)
  rw [g2] at hl;rw [hl] at y1; cases y1
  have m9 : eps = [] := by
   rw [k7] at g3
   simpa using g3.symm
  rw [m9] at y3
  have hJ0 : J₀ = Jk := by
   have := (ae_.1 y3).1;simp only [cw_] at this
   have h0 : cnt E ops.toList j = 0 := by omega
   rw [h0] at y3; simpa using y3.symm
  subst hJ0
  have hne : Cg (By E o.op) = false := by rw [hcl]; rfl
  rcases y5 with ⟨z1,z2⟩ | ⟨z1,z2⟩
  ·exact ⟨J₁,by rw [← Jh (Rr := fun _ _ _ => none) hne]; exact z2⟩
  ·rw [z1] at hg; cases hg
 ·obtain ⟨y,hy,C',h1,h2,h3⟩ := he;rw [al_] at hy;subst hy;obtain ⟨⟨tm',nt',df',J'⟩,eps',dl'⟩ := d;simp only at k2 k3 k6;subst k2 k3 k6;exact ⟨.normal,tm',ρ',J',C',h1,k4,k8,h2,ax_ hB h3.next,h3.base hB⟩
def T7 (E : Env) : List Ann -> List Oper -> Nat -> Bool
 | a :: az,o :: os,c => (match a.cls with
  | .read => Nat.beq a.lo c && Nat.beq a.hi c
  | _ => true) && T7 E az os (cond (Cg (By E o.op)) (c + 1) c)
 | _,_,_ => true
theorem Xa {E : Env} : ∀ {az : List Ann} {os : List Oper} {c : Nat},T7 E az os c = true -> ∀ (j : Nat) (a : Ann) (o : Oper),az[j]? = some a -> os[j]? = some o -> a.cls = .read -> a.lo = c + cnt E os j /\ a.hi = c + cnt E os j
 | a :: az,o :: os,c,h,0,a',o',ha,ho,hc => by
  simp at ha ho; subst ha ho
  simp only [T7,hc,ad_] at h
  exact ⟨by simp only [cnt]; exact aa_ h.1.1,by simp only [cnt]; exact aa_ h.1.2⟩
 | a :: az,o :: os,c,h,j + 1,a',o',ha,ho,hc => by
  simp only [T7,ad_] at h
  have := Xa h.2 j a' o' (by simpa using ha) (by simpa using ho) hc
  simp only [cnt];cases he : Cg (By E o.op) with
  | true => rw [he] at this; simp only [cond_true] at this; rw [if_pos rfl]; omega
  | false => rw [he] at this; simp only [cond_false] at this; rw [if_neg (by simp)]; omega
 | [],_,_,_,_,_,_,h,_,_ => by simp at h
 | _ :: _,[],_,_,_,_,_,_,h,_ => by simp at h
def KDS (Q : Dr) : KD := fun ρ' J' _ _ => Q .normal ρ' J'
theorem Cc {id : Nat} {ops : Array Oper} {anns : List Ann} (hm : E.P.follows .mixedOrders = true) (hR : Bc E Rr) (ha : Mw E ops = some anns) (hp : T7 E anns ops.toList 0 = true)
  (h : TD E nt Rr ops.toList ops.toList (KDS Q) ρ J [J] []) : T E nt df B (.region id ops true) Q ρ J := by
 intro ro n hn C w tm a ht st hB;obtain ⟨c1,c2,c3,c4⟩ := K5 ha;obtain ⟨d,k1,k2,k3,ρ',log',k4,k5,k6⟩ := h tm df [] ht trivial;refine wpIn_mono (Acf hm hR st c1 c2 c3 k1 fun j o t v ho hl hcl hg Jk hJ => ?_) fun e a' w' he => ?_
 ·have c5 := Ib (E := E) (b := (Region.before ops).toList) (effs := Ct E ops.toList 0) ops.toList 0 j o (by simpa using ho)
  rw [← c4] at c5;simp only [bf_] at c5
  obtain ⟨q1,q2⟩ := Xa hp j _ o c5 (by simpa using ho) hcl
  simp only [bf_,Gq] at q1 q2
  rw [q1,q2,show cnt E ops.toList j + 1 - cnt E ops.toList j = 1 by omega] at hJ
  obtain ⟨log,eps,lex,g2,g3,g4,g5⟩ := Mb k1;simp only [ef_,br_,dc_] at g2 g3;obtain ⟨x1,x2,x3,x4,x5⟩ := Zu lex
  obtain ⟨t',v',t₁,J₀,J₁,y1,y2,y3,y4,y5,y6⟩ := x5 j o (by simpa using ho)
  rw [g2] at hl;rw [hl] at y1; cases y1
  have eu : Jk = J₀ := by
   rw [g3] at hJ;obtain ⟨i,hi⟩ := cj_.1 hJ;rw [es_] at hi
   split at hi
   ·rename_i hlt
    have h0 : i = 0 := by omega
    subst h0;rw [et_,dn_] at hi;have e1 : ([J] ++ eps)[cnt E ops.toList j]? = some J₀ := y3;rw [e1] at hi; cases hi; rfl
   ·cases hi
  subst eu
  have hne : Cg (By E o.op) = false := by rw [hcl]; rfl
  rcases y5 with ⟨z1,z2⟩ | ⟨z1,z2⟩
  ·rw [Jh hne] at z2; exact ⟨J₁,z2⟩
  ·rw [z1] at hg; cases hg
 ·obtain ⟨y,hy,C',h1,h2,h3⟩ := he;rw [al_] at hy;subst hy;obtain ⟨⟨tm',nt',df',J'⟩,eps',dl'⟩ := d;simp only at k2 k3;subst k2 k3;exact ⟨.normal,tm',ρ',J',C',h1,k4,k6,h2,ax_ hB h3.next,h3.base hB⟩
theorem Bl {l : List (Nat × List AV × Sto × AV × Sto)} {f : Operand} {args : Array Operand} {tys : Array Nat} {k : Nat} {first cap vs : List AV} {v : AV} {J' : Sto} (hf : A4 E ρ f = some (.fn (.func k) first cap)) (ha : L9 E ρ args.toList = some vs)
  (hr : G5 l (.fn k) (first ++ vs ++ cap) J = some (v,J')) : Bo E (G5 l) (.call ⟨.value f,args,tys⟩) ρ J v J' := Ars hf ha rfl hr
theorem Bm {f : Nat} {a : List AV} {s : Sto} {v : AV} {s' : Sto} {r : List (Nat × List AV × Sto × AV × Sto)} : G5 ((f,a,s,v,s') :: r) (.fn f) a s = some (v,s') := by
 simp only [G5,and_self,if_true]
end
end Go.AM
