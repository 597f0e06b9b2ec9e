/- A part of the proof; shortened by program. -/
import Derived.Test.YtcnkdbldfpaebaaGreatDoorP11
set_option maxRecDepth 100000
set_option maxHeartbeats 4000000
set_option linter.unusedSimpArgs false
set_option linter.unusedVariables false
namespace Go.AM
open Go
section
variable {E : Env} {ops : List Oper} {Rr : Rec} {T : Nat -> Tr AV} {V : Nat -> AV} {b : List Nat}
structure At6 (E : Env) (ops : List Oper) (Rr : Rec) (T : Nat -> Tr AV) (V : Nat -> AV) (es D : List Nat) (J : Sto) (nl : NL) (nf : Nd) : Prop where
 hd : (⟨D,J,[]⟩ : Nd) ∈ nl.map (·.1) ++ [nf]
 ok : ∀ x ∈ nl,Sc E ops Rr T V (· ∈ nl.map (·.1) ++ [nf]) x.1 x.2
 sub : ∀ c ∈ nl.map (·.1) ++ [nf],(∀ k ∈ c.D,k ∈ D ∨ k ∈ es) /\ (c.U = [] ∨ ∃ p v,c.U = [(p,v)] /\ p ∈ c.D)
 fin : nf.U = []
theorem Z0 : ∀ (es D : List Nat) (J : Sto) (nl : NL) (nf : Nd),Yp E ops Rr T V b es D J = some (nl,nf) -> At6 E ops Rr T V es D J nl nf
 | [],D,J,nl,nf,h => by
  simp only [Yp,ac_,aw_] at h;obtain ⟨rfl,rfl⟩ := h
  exact ⟨by simp,fun x hx => (by cases hx),fun c hc => by simp at hc; subst hc; exact ⟨fun k hk => .inl hk,.inl rfl⟩,rfl⟩
 | [e],D,J,nl,nf,h => by
  simp only [Yp] at h
  split at h
  ·rename_i J' hc
   simp only [ac_,aw_] at h;obtain ⟨rfl,rfl⟩ := h
   refine ⟨by simp,fun x hx => ?_,fun c hc => ?_,rfl⟩
   ·rw [al_] at hx; subst hx
    exact Agd hc (by simp)
   ·simp only [ca_,ek_,av_,br_,aj_,ct_,or_false] at hc
    rcases hc with rfl | rfl
    ·exact ⟨fun k hk => .inl hk,.inl rfl⟩
    ·exact ⟨fun k hk => by rcases aj_.1 hk with h | h; exact .inr (by rw [h]; simp); exact .inl h,.inl rfl⟩
  ·cases h
 | e :: j :: r,D,J,nl,nf,h => by
  rw [Yp] at h
  split at h
  ·split at h
   ·rename_i J' hc
    split at h
    ·rename_i m nf' hm
     simp only [ac_,aw_] at h;obtain ⟨rfl,rfl⟩ := h;have w := Z0 (j :: r) (e :: D) J' m nf' hm
     refine ⟨by simp,fun x hx => ?_,fun c hc => ?_,w.fin⟩
     ·rcases aj_.1 hx with rfl | hx
      ·exact Agd hc (by simp only [ca_,av_]; exact ak_ _ w.hd)
      ·exact (w.ok x hx).mono fun c hc => by simp only [ca_,av_]; exact ak_ _ hc
     ·simp only [ca_,av_] at hc
      rcases aj_.1 hc with rfl | hc
      ·exact ⟨fun k hk => .inl hk,.inl rfl⟩
      ·obtain ⟨h1,h2⟩ := w.sub c hc;refine ⟨fun k hk => ?_,h2⟩
       rcases h1 k hk with h | h
       ·rcases aj_.1 h with h | h
        ·exact .inr (by rw [h]; simp)
        ·exact .inl h
       ·exact .inr (ak_ _ h)
    ·cases h
   ·cases h
  ·split at h
   ·rename_i l J' hp
    split at h
    ·rename_i m nf' hm
     simp only [ac_,aw_] at h;obtain ⟨rfl,rfl⟩ := h;have w := Z0 r (j :: e :: D) J' m nf' hm
     obtain ⟨p1,p2,p3⟩ := Arz (P := (· ∈ (l ++ m).map (·.1) ++ [nf'])) hp (by rw [cc_,cf_]; exact do_ _ w.hd) (fun x hx => by
      rw [cc_,cf_]; exact cz_ _ (cd_ hx))
     refine ⟨by rw [cc_,cf_]; exact cz_ _ p1,fun x hx => ?_,fun c hc => ?_,w.fin⟩
     ·rcases bo_.1 hx with hx | hx
      ·exact p2 x hx
      ·exact (w.ok x hx).mono fun c hc => by rw [cc_,cf_]; exact do_ _ hc
     ·rw [cc_,cf_] at hc
      rcases bo_.1 hc with hc | hc
      ·obtain ⟨x,hx,rfl⟩ := by_.1 hc;obtain ⟨h1,h2⟩ := p3 x hx;refine ⟨fun k hk => ?_,h2⟩
       rcases h1 k hk with h | h | h
       ·exact .inl h
       ·exact .inr (by rw [h]; simp)
       ·exact .inr (by rw [h]; simp)
      ·obtain ⟨h1,h2⟩ := w.sub c hc;refine ⟨fun k hk => ?_,h2⟩
       rcases h1 k hk with h | h
       ·rcases aj_.1 h with h | h
        ·exact .inr (by rw [h]; simp)
        ·rcases aj_.1 h with h | h
         ·exact .inr (by rw [h]; simp)
         ·exact .inl h
       ·exact .inr (ak_ _ (ak_ _ h))
    ·cases h
   ·cases h
end
theorem Aci {nt : Nat} : ∀ {ops : List Oper} {vl : List AV} {tm : Tr AV} {tl : List (Tr AV)},Aii nt ops vl tm = some tl -> tl.getD 0 .e = tm /\
  ∀ k o,ops[k]? = some o -> H3 o.dst (tl.getD k .e) nt (vl.getD k .any) = some (tl.getD (k + 1) .e)
 | [],[],tm,tl,h => by simp only [Aii,ac_] at h; subst h; exact ⟨rfl,fun k o h => by simp at h⟩
 | o :: r,v :: vs,tm,tl,h => by
  simp only [Aii] at h
  split at h
  ·rename_i tm' hp
   split at h
   ·rename_i l hl
    cases h;obtain ⟨h1,h2⟩ := Aci hl;refine ⟨rfl,fun k o' ho => ?_⟩
    cases k with
    | zero => simp at ho; subst ho; simp only [List.getD_cons_zero,List.getD_cons_succ]; rw [h1]; exact hp
    | succ k => simp at ho; simp only [List.getD_cons_succ]; exact h2 k o' ho
   ·cases h
  ·cases h
 | [],_ :: _,_,_,h => by simp [Aii] at h
 | _ :: _,[],_,_,h => by simp [Aii] at h
section
variable {E : Env} {ops : Array Oper} {Rr : Rec}
theorem Z1 {k : Nat} {o : Oper} (ho : ops[k]? = some o) : Cg (By E o.op) = true ↔ k ∈ Ct E ops.toList 0 := by
 have hol : ops.toList[k]? = some o := by simpa using ho
 obtain ⟨e1,e2⟩ := Jg (E := E) ops.toList 0
 constructor
 ·intro h;have := e1 k o hol h;rw [bf_] at this;exact af_ this
 ·intro h;obtain ⟨m,hm⟩ := cj_.1 h;obtain ⟨k',o',q1,q2,q3,_⟩ := e2 m k hm;rw [bf_] at q1;subst q1;rw [hol] at q2; cases q2; exact q3
theorem Abm (hm : E.P.follows .mixedOrders = true) (hR : Bc E Rr) {s s' : St} {vl : List AV} {C : Ctx} {w : World} {a : Act} (st : SSt E C w s a) (h : Adu E ops Rr s vl = some s') {id : Nat} {ro : Option Nat} {n : Nat} :
  (Code.region id ops true).wpIn (C1 ro) n E.P (Jt E C (nx s.sto) w [(.normal,s')]) a w := by
 unfold Adu at h
 split at h
 ·cases h
 ·rename_i tl htl
  obtain ⟨t0,tk⟩ := Aci htl
  split at h
  ·cases h
  ·rename_i hse
   simp only [ad_] at hse
   split at h
   ·cases h
   ·rename_i nl nf hst
    have W := Z0 _ _ _ _ _ hst;cases hck : ((nl ++ [(nf,[])]).all (Yq E ops.toList Rr (fun k => tl.getD k .e) (fun k => vl.getD k .any) (Region.before ops).toList (Ct E ops.toList 0)) && nl.all fun x => (Ct E ops.toList 0).any fun e => !x.1.D.contains e) with
    | false => rw [hck] at h; cases h
    | true =>
     rw [hck] at h;cases h;simp only [ad_] at hck;obtain ⟨nc,ng⟩ := hck
     have bt : ∀ c ∈ nl.map (·.1) ++ [nf],∃ nx,(c,nx) ∈ nl ++ [(nf,[])] /\ Sc E ops.toList Rr (fun k => tl.getD k .e) (fun k => vl.getD k .any) (· ∈ nl.map (·.1) ++ [nf]) c nx := fun c hc => by
      rcases bo_.1 hc with hc | hc
      ·obtain ⟨x,hx,rfl⟩ := by_.1 hc;exact ⟨x.2,cz_ _ hx,W.ok x hx⟩
      ·rw [al_] at hc; subst hc
       exact ⟨[],by simp,fun e he => by cases he⟩
     have dw : ∀ c nx,(c,nx) ∈ nl ++ [(nf,[])] -> Yq E ops.toList Rr (fun k => tl.getD k .e) (fun k => vl.getD k .any) (Region.before ops).toList (Ct E ops.toList 0) (c,nx) = true := fun c nx hc => bu_.1 nc _ hc
     have bx : ops.toList.length = ops.size := by simp
     have km : ∀ c ∈ nl.map (·.1) ++ [nf],∀ k,k < ops.size -> k ∉ c.D -> Aff (Region.before ops).toList (Ct E ops.toList 0) c.D k = true ->
       Aoa (Region.before ops).toList c.U k = true /\ (k ∈ Ct E ops.toList 0 ∨ Aij E ops.toList Rr (fun k => tl.getD k .e) (fun k => vl.getD k .any) c.J k = true) := fun c hc k hk hD hok => by
      obtain ⟨nx,h1,_⟩ := bt c hc;have h2 := dw c nx h1;unfold Yq at h2;simp only [ad_] at h2
      have h3 := bu_.1 h2.2 k (ft_.2 (by rw [bx]; exact hk))
      have hD' : c.D.contains k = false := by
       cases hh : c.D.contains k with
       | false => rfl
       | true => exact absurd (List.contains_iff_mem.1 hh) hD
      rw [hD',hok] at h3;simp only [Bool.not_true,Bool.false_or,ad_,bc_] at h3;refine ⟨h3.1,?_⟩
      rcases h3.2 with h4 | h4
      ·exact .inl (List.contains_iff_mem.1 h4)
      ·exact .inr h4
     refine Agc (s' := ⟨tl.getD ops.size .e,s.nt,s.df,nf.J⟩) (es := Ct E ops.toList 0) (V := fun k => vl.getD k .any) (T := fun k => tl.getD k .e) (nds := nl.map (·.1) ++ [nf]) hm hR st ⟨hse.1,hse.2,fun k o ho => Z1 ho,fun k hk t => ?_,fun k o ho d hd => ?_,fun c hc k hk => ?_,fun c hc k hk => ?_,fun c hc k hk hD hok i hi => ?_,fun c hc k o ho he hok => ?_,fun c hc k o ho he hD hok => ?_⟩ W.hd (fun c hc hD => ?_) rfl rfl rfl (fun e he => ?_)
     ·exact Vt (n := ops.size) (T := fun k => tl.getD k .e) (V := fun k => vl.getD k .any) t0 (fun k hk => ⟨ops[k],by simp [hk],tk k _ (by simp [hk])⟩) k hk t
     ·have := tk k o (by simpa using ho)
      rw [hd] at this;simp only [H3] at this;cases hb : Nat.blt d s.nt
      ·simp [hb] at this
      ·exact ai_ hb
     ·rcases (W.sub c hc).1 k hk with h | h
      ·cases h
      ·exact h
     ·rcases (W.sub c hc).2 with h | ⟨p,v,h,hp⟩
      ·rw [h]; rfl
      ·rw [h]; show (if k = p then _ else _) = _; rw [if_neg (fun hh : k = p => hk (by rw [hh]; exact hp))]
     ·have h1 := (km c hc k hk hD hok).1
      rcases (W.sub c hc).2 with h | ⟨p,v,h,hp⟩
      ·rw [h]; rfl
      ·rw [h] at h1 ⊢
       show (if i = p then _ else _) = _
       rw [if_neg];intro hh;subst hh;unfold Aoa at h1;simp only [Gq] at h1;rw [hi] at h1; cases h1
     ·have hk := (ar_.1 ho).1
      have hD : k ∉ c.D := fun hh => by
       rcases (W.sub c hc).1 k hh with h | h
       ·cases h
       ·exact he h
      rcases (km c hc k hk hD hok).2 with h1 | h1
      ·exact absurd h1 he
      ·have hne : Cg (By E o.op) = false := by
        cases hh : Cg (By E o.op) with
        | false => rfl
        | true => exact absurd ((Z1 ho).1 hh) he
       unfold Aij at h1
       rw [show ops.toList[k]? = some o by simpa using ho] at h1
       simp only at h1
       split at h1
       ·rename_i hg
        split at h1
        ·rename_i v τ hv
         have := AV.beq_eq _ _ h1;subst this;refine .inl ⟨hg,?_⟩
         have hτ : τ = c.J := by
          rw [Jh hne] at hv;cases hcl : By E o.op with
          | eff => rw [hcl] at hne; cases hne
          | pure => exact (Ab6 hcl _ _ _ hv).1
          | read => exact Zk hcl hv
         rw [← hτ] at hv ⊢; exact hv
        ·cases h1
       ·rename_i hg
        exact .inr ⟨hg,AV.beq_eq _ _ h1,rfl⟩
       ·cases h1
     ·obtain ⟨nx,h1,h2⟩ := bt c hc;have h3 := dw c nx h1;unfold Yq at h3;simp only [ad_] at h3;have h4 := bu_.1 h3.1 k he
      have hD' : c.D.contains k = false := by
       cases hh : c.D.contains k with
       | false => rfl
       | true => exact absurd (List.contains_iff_mem.1 hh) hD
      rw [hD',hok] at h4;simp only [Bool.not_true,Bool.false_or] at h4;obtain ⟨o',v,J',c',q1,q2,q3,q4,q5⟩ := h2 k (List.contains_iff_mem.1 h4)
      rw [show ops.toList[k]? = some o by simpa using ho] at q1
      cases q1;exact ⟨v,J',c',q2,q3,fun e _ => q4 e,q5⟩
     ·rcases bo_.1 hc with hc | hc
      ·obtain ⟨x,hx,rfl⟩ := by_.1 hc;obtain ⟨e,h1,h2⟩ := dt_.1 (bu_.1 ng x hx);have := hD e h1;rw [← List.contains_iff_mem] at this;rw [this] at h2; cases h2
      ·rw [al_] at hc; subst hc
       exact ⟨fun k => by rw [W.fin]; rfl,rfl⟩
     ·obtain ⟨m,hm'⟩ := cj_.1 he;obtain ⟨k',o',q1,q2,_⟩ := (Jg (E := E) ops.toList 0).2 m e hm';have := (ae_.1 q2).1;omega
end
theorem Age {E : Env} {Rr : Rec} (hm : E.P.follows .mixedOrders = true) (hR : Bc E Rr) (ops : Array Oper) (s s' : St) (C : Ctx) (w : World) (a : Act) (id : Nat) (ro : Option Nat) (n : Nat) (st : SSt E C w s a) (h : Aoc E ops Rr s = some s') :
  (Code.region id ops true).wpIn (C1 ro) n E.P (Jt E C (nx s.sto) w [(.normal,s')]) a w := by
 unfold Aoc at h
 split at h
 ·exact Abm hm hR st h
 ·cases h
theorem Kl {E : Env} {Rr : Rec} (hm : E.P.follows .mixedOrders = true) (hR : Bc E Rr) : Gm E Rr := by
 intro ops s s' C w a id ro n st h;unfold Pk at h
 split at h
 ·exact Age hm hR ops s s' C w a id ro n st h
 ·rename_i anns dz
  split at h
  ·rename_i d hd
   cases hb : Gk E ops.toList d.eps.reverse anns ops.toList d.log.reverse
   ·simp [hb] at h
   ·simp only [hb,cond_true,ac_] at h;subst h;unfold Mw at dz;simp only at dz
    split at dz
    ·rename_i dw
     cases dz;simp only [ad_] at dw;obtain ⟨⟨⟨c1,c2⟩,c3⟩,_⟩ := dw;refine Acf hm hR st c1 c2 c3 hd fun j o t v ho hl hc => ?_
     have := Ru hb j _ o t v (Ib ops.toList 0 j o (by simpa using ho)) (by simpa using ho) hl hc
     simp only [bf_,Gq] at this;exact Af7 this
    ·cases dz
  ·cases h
def Wk (v v' : AV) : Prop := ∀ C N w x,R C N w v x -> R C N w v' x
theorem Wk.rfl' {v : AV} : Wk v v := fun _ _ _ _ h => h
theorem Gd {cs : List AV} {sz len : Nat} {cap : Option Nat} : Wk (.sv cs sz len cap) (.sv cs sz len none) := fun C N w x h => by
 unfold R at h ⊢;obtain ⟨ado,k,h1,h2,h3,h4⟩ := h
 exact ⟨ado,k,h1,h2,fun q hq => (by cases hq),h4⟩
theorem Z2 {sz : Nat} : Wk (.nil (.slice none 0 0)) (.sv [] sz 0 none) := fun C N w x h => by
 unfold R at h ⊢;obtain ⟨rfl,_⟩ := h
 exact ⟨none,0,rfl,nl,fun q hq => (by cases hq),by simp,fun _ => rfl,fun ad ha => by cases ha⟩
inductive WkL : List AV -> List AV -> Prop
 | nil : WkL [] []
 | cons {a b : AV} {l m : List AV} : Wk a b -> WkL l m -> WkL (a :: l) (b :: m)
theorem WkL.RL {C : Ctx} {N : Nat} {w : World} : ∀ {l m : List AV},WkL l m -> ∀ {xs : List Value},RL C N w l xs -> RL C N w m xs
 | _,_,.nil,xs,h => h
 | _,_,.cons h1 h2,[],h => by unfold AM.RL at h; exact h.elim
 | _,_,.cons h1 h2,x :: xs,h => by unfold AM.RL at h ⊢; exact ⟨h1 _ _ _ _ h.1,h2.RL h.2⟩
theorem WkL.refl : ∀ {l : List AV},WkL l l
 | [] => .nil
 | _ :: _ => .cons .rfl' .refl
theorem A6.wk {E : Env} {f : Nat} {args args' : List AV} {J : Sto} {Post : AV -> Sto -> Prop} (h : A6 E f args' J Post) (k : WkL args args') : A6 E f args J Post :=
 fun C w vs hs hg ha => h C w vs hs hg (k.RL ha)
section
variable {E : Env} {nt B : Nat} {df : List (Nat × List AV)} {ρ ρ' : Ao} {J J' : Sto} {K : Ao -> Sto -> Prop} {Rr : Rec}
theorem TO_wk {ops r : List Oper} {d : Nat} {v v' : AV} (h : Wk v v') (k : TO E nt df B ops r K ((d,v') :: ρ) J) : TO E nt df B ops r K ((d,v) :: ρ) J := by
 intro ro n hn C w tm a ht st hB
 have hd := st.tmps d v (ht d v (by simp [Ao.at,bg_]))
 refine k ro n hn C w (tm.put (d + 1) d (some v')) a (fun i u hu => ?_) ⟨st.sim,st.glob,fun i u hu => ?_,st.size,st.dfs⟩ hB
 ·rw [db_];simp only [Ao.at] at hu;cases hb : Nat.beq d i with
  | true => rw [hb] at hu; have := aa_ hb; subst this; rw [if_pos rfl]; exact hu
  | false =>
   rw [hb] at hu
   rw [if_neg (fun he => by subst he; rw [bg_] at hb; cases hb)]
   exact ht i u (by simp only [Ao.at]; rw [hb]; exact hu)
 ·have hu : (tm.put (d + 1) d (some v')).get i = some u := hu;rw [db_] at hu
  by_cases hi : i = d
  ·subst hi; rw [if_pos rfl] at hu; cases hu; exact h _ _ _ _ hd
  ·rw [if_neg hi] at hu; exact st.tmps i u hu
theorem E6 {ops r : List Oper} {op : Op} {d : Nat} {ty : Nat} {pos : String} {after : Array Edge} {v v' : AV} {J₁ : Sto} (h : Bo E (fun _ _ _ => none) op ρ J v J₁) (hw : Wk v v') (hn : Fl op = true) (hd : Nat.blt d nt = true)
  (k : TO E nt df B ops r K ((d,v') :: ρ) J₁) : TO E nt df B ops ({ dst := some d,op := op,type := ty,pos := pos,after := after,guard := none } :: r) K ρ J :=
 Zq noR hn hd h (TO_wk hw k)
theorem Ap {ops r : List Oper} {f : Operand} {args : Array Operand} {tys : Array Nat} {dst : Option Nat} {ty : Nat} {pos : String} {after : Array Edge} {k : Nat} {first cap vs full : List AV} {v : AV} (hd : C5 nt dst = true)
  (hf : A4 E ρ f = some (.fn (.func k) first cap)) (ha : L9 E ρ args.toList = some vs) (hl : first ++ vs ++ cap = full) (hc : A6 E k full J fun u τ => u = v /\ τ = J')
  (kk : TO E nt df B ops r K (En dst v ρ) J') : TO E nt df B ops ({ dst := dst,op := .call ⟨.value f,args,tys⟩,type := ty,pos := pos,after := after,guard := none } :: r) K ρ J :=
 B4 hd hf ha hl hc fun u τ h => by obtain ⟨rfl,rfl⟩ := h; exact kk
theorem B5 {ops r : List Oper} {oj : Oper} {j dj : Nat} {b want : Bool} {f : Operand} {args : Array Operand} {tys : Array Nat} {dst : Option Nat} {ty : Nat} {pos : String} {after : Array Edge} {k : Nat} {first cap vs full : List AV} {v : AV}
  (hj : ops[j]? = some oj) (hdj : oj.dst = some dj) (hb : Ao.at ρ dj = some (.bool b)) (hw : cond b want (!want) = true) (hd : C5 nt dst = true)
  (hf : A4 E ρ f = some (.fn (.func k) first cap)) (ha : L9 E ρ args.toList = some vs) (hl : first ++ vs ++ cap = full) (hc : A6 E k full J fun u τ => u = v /\ τ = J')
  (kk : TO E nt df B ops r K (En dst v ρ) J') : TO E nt df B ops ({ dst := dst,op := .call ⟨.value f,args,tys⟩,type := ty,pos := pos,after := after,guard := some (j,want) } :: r) K ρ J :=
 Aow hj hdj hb hw hd hf ha hl hc fun u τ h => by obtain ⟨rfl,rfl⟩ := h; exact kk
theorem Ar0 {t i : Nat} {x y : Operand} {s : Str} {b : UInt8} {k : IntKind} (hi : Gw E.P t = true) (hx : A4 E ρ x = some (sV s)) (hy : A4 E ρ y = some (.int k (.ofNat i))) (hb : s[i]? = some b) :
  Bo E Rr (.index t x y) ρ J (.int .u8 (.ofNat b.toNat)) J := Af0 hi hx hy (by rw [bn_,hb]; rfl)
theorem Vw {n : Int} (h1 : -9223372036854775808 <= n) (h2 : n < 9223372036854775808) : Ot .i64 n = .int .i64 n := by
 cases n with
 | ofNat m =>
  have : Nat.ble m 9223372036854775807 = true := ba_ (by have : (m : Int) < 9223372036854775808 := h2; omega)
  simp only [Ot,Av,Mp,this,cond_true]
 | negSucc m =>
  have : Nat.ble m 9223372036854775807 = true := ba_ Om;simp only [Ot,Av,Mp,this,cond_true]
theorem Aku {t ty : Nat} {x y : Operand} {p q : Int} (hi : okI E.P t = true) (hx : A4 E ρ x = some (.int .i64 p)) (hy : A4 E ρ y = some (.int .i64 q)) (h1 : -9223372036854775808 <= p + q) (h2 : p + q < 9223372036854775808) :
  Bo E Rr (.binOp .add t x y ty) ρ J (iV (p + q)) J := Lv hi hx hy (by simp only [G0,Abv,Vw h1 h2]; rfl)
theorem Akv {t ty : Nat} {x y : Operand} {p q : Int} (hi : okI E.P t = true) (hx : A4 E ρ x = some (.int .i64 p)) (hy : A4 E ρ y = some (.int .i64 q)) (h1 : -9223372036854775808 <= p - q) (h2 : p - q < 9223372036854775808) :
  Bo E Rr (.binOp .sub t x y ty) ρ J (iV (p - q)) J := Lv hi hx hy (by simp only [G0,Vi,Vw h1 h2]; rfl)
theorem Aei {t ty : Nat} {x y : Operand} {p q : Nat} (hi : okI E.P t = true) (hx : A4 E ρ x = some (.int .i64 (.ofNat p))) (hy : A4 E ρ y = some (.int .i64 (.ofNat q))) (h : q <= p) (hp : p < 9223372036854775808) :
  Bo E Rr (.binOp .sub t x y ty) ρ J (iV (.ofNat (p - q))) J := by
 have := Akv (Rr := Rr) (J := J) (ty := ty) hi hx hy (by simp only [am_]; omega) (by simp only [am_]; omega)
 rwa [show (Int.ofNat p - Int.ofNat q) = Int.ofNat (p - q) by simp only [am_]; omega] at this
theorem T9 {ops r : List Oper} {t ty0 : Nat} {x : Operand} {d ty : Nat} {pos : String} {after : Array Edge} {cs : List AV} {sz len : Nat} {cap : Option Nat} (hsl : Fd E.P t = true) (hx : A4 E ρ x = some (.sv cs sz len cap)) (hd : Nat.blt d nt = true)
  (k : ∀ b : Bool,(b = true -> len = 0) -> TO E nt df B ops r K ((d,.bool b) :: ρ) J) :
  TO E nt df B ops ({ dst := some d,op := .binOp .eql t x (.const (.slice none 0 0)) ty0,type := ty,pos := pos,after := after,guard := none } :: r) K ρ J := by
 have hti : ∃ ti e,Bf E.P t = some ti /\ ti.desc = .slice e := by
  unfold Fd at hsl
  split at hsl
  ·rename_i ti hti
   split at hsl
   ·rename_i e he; exact ⟨ti,e,hti,he⟩
   ·cases hsl
  ·cases hsl
 obtain ⟨ti,e,hti,hde⟩ := hti
 have hu : E.P.underlying t = some (.slice e) := by
  obtain ⟨_,dd,_,g2,g3,_⟩ := A0 hti
  exact g2.trans (by rw [← g3,hde])
 refine Af2 (Pv := fun v => ∃ b : Bool,v = .bool b /\ (b = true -> len = 0)) (dst := some d) (J' := J) hd (fun C w tm a ht st => ?_) (fun v hv => by obtain ⟨b,rfl,hb⟩ := hv; exact k b hb)
 have hv := B3 st.glob st.tmps x;rw [ht.opd hx] at hv;unfold R at hv;obtain ⟨ado,kk,h1,h2,h3,h4,h5,h6⟩ := hv;have fin : ∀ {X : Value} {b : Bool},a.eval x = X -> (∀ l,X ≠ .agg l) -> X ≠ .nilIface -> (binOp .eql t X (.slice none 0 0)).run E.P w = .ok (.bool b) w ->
   (execOp a.eval { dst := some d,op := .binOp .eql t x (.const (.slice none 0 0)) ty0,type := ty,pos := pos,after := after,guard := none }).run E.P w = .ok (.value (.bool b)) w := by
  intro X b hX hn1 hn2 hb;have hg := Ep (P := E.P) (w := w) (op := .eql) (t := t) (x := x) (y := .const (.slice none 0 0)) (a := X) (b := .slice none 0 0) (fun l m hh => hn1 l hh.1) (fun hh => hn2 hh.1)
  have hY : a.eval (.const (.slice none 0 0)) = .slice none 0 0 := rfl;simp only [execOp,hX,hY,Sem.run_bind,hg,Result.andThen_ok,hb,Sem.run_pure]
 cases ado with
 | some ad =>
  have := (fx_ (w := w) hu ⟨_,rfl⟩ ad len kk).1.eql
  exact ⟨.bool false,⟨false,rfl,fun h => by cases h⟩,.bool false,w,C,.inl (fin h1 (fun l h => by cases h) (fun h => by cases h) this),by unfold R; rfl,st.sim,bv_ _ _ _⟩
 | none =>
  have hk := h5 rfl;subst hk
  have hl : len = 0 := by omega
  subst hl;have := (fx_ (w := w) hu ⟨_,rfl⟩ ⟨0,0,none⟩ 0 0).2.2.eql
  exact ⟨.bool true,⟨true,rfl,fun _ => rfl⟩,.bool true,w,C,.inl (fin h1 (fun l h => by cases h) (fun h => by cases h) this),by unfold R; rfl,st.sim,bv_ _ _ _⟩
end
def Z3 (E : Env) (ρ : Ao) (fl : List (Nat × Nat)) : List (Nat × Operand) -> Option (List (Nat × Nat × AV))
 | [] => some []
 | (i,x) :: r => match fl[i]?,A4 E ρ x,Z3 E ρ fl r with
  | some (o,n),some v,some l => some ((o,n,v) :: l)
  | _,_,_ => none
def Vx (E : Env) (ρ : Ao) (sz : Nat) : List (Nat × Operand) -> Option (List (Nat × Nat × AV))
 | [] => some []
 | (i,x) :: r => match A4 E ρ x,Vx E ρ sz r with
  | some v,some l => some ((i * sz,sz,v) :: l)
  | _,_ => none
section
variable {E : Env} {ρ : Ao} {J J' : Sto} {tm : Tr AV} {Rr : Rec}
theorem Akw {P : Program} : ∀ {fs : List Field} {fl : List (Nat × Nat)},bdF P fs = some fl -> ∀ (i : Nat) (p : Nat × Nat),fl[i]? = some p -> ∃ (f : Field) (ti : TI),fs[i]? = some f /\ Bf P f.type = some ti /\ p = (f.offset,ti.size)
 | [],fl,h,i,p,hp => by simp only [bdF,ac_] at h; subst h; simp at hp
 | f :: r,fl,h,i,p,hp => by
  simp only [bdF] at h
  split at h
  ·rename_i ti l hti hl
   cases h;cases i with
   | zero => simp at hp; exact ⟨f,ti,rfl,hti,hp.symm⟩
   | succ i => obtain ⟨g,tj,h1,h2,h3⟩ := Akw hl i p (by simpa using hp); exact ⟨g,tj,by simpa using h1,h2,h3⟩
  ·cases h
theorem Agf (h : Has tm ρ) {fs : List Field} {fl : List (Nat × Nat)} (hf : bdF E.P fs = some fl) : ∀ {l : List (Nat × Operand)} {ps : List (Nat × Nat × AV)},Z3 E ρ fl l = some ps -> I7 E.P E tm fs l = some ps
 | [],ps,hp => by simp only [Z3,ac_] at hp; subst hp; rfl
 | (i,x) :: r,ps,hp => by
  simp only [Z3] at hp
  split at hp
  ·rename_i o n v l h1 h2 h3
   cases hp;obtain ⟨f,ti,k1,k2,k3⟩ := Akw hf i _ h1;cases k3;simp only [I7,k1,Agf h hf h3,k2,h.opd h2]
  ·cases hp
theorem Z4 (h : Has tm ρ) {sz : Nat} : ∀ {l : List (Nat × Operand)} {ps : List (Nat × Nat × AV)},Vx E ρ sz l = some ps -> H2 E tm sz l = ps
 | [],ps,hp => by simp only [Vx,ac_] at hp; subst hp; rfl
 | (i,x) :: r,ps,hp => by
  simp only [Vx] at hp
  split at hp
  ·rename_i v l h2 h3
   cases hp;simp only [H2,h.opd h2,Z4 h h3]
  ·cases hp
theorem B1 {t : Nat} {parts : Array (Nat × Operand)} {z cs : List AV} {fl : List (Nat × Nat)} {ps : List (Nat × Nat × AV)} (hi : bdI E.P t = some (z,fl)) (hp : Z3 E ρ fl parts.toList = some ps) (hf : Su z ps = some cs) :
  Bo E Rr (.build t parts) ρ J (.agg cs) J := fun tm h => by
 unfold bdI at hi
 split at hi
 ·rename_i ti hti
  split at hi
  ·rename_i z' fs hz hd
   split at hi
   ·rename_i l h1 h2
    cases hi;simp only [opA,Bd,hti,hz,hd,h1,Agf h h2 hp,Ls,hf]
   ·cases hi
  ·cases hi
 ·cases hi
theorem Bn {t len sz by' : Nat} {z cs : List AV} {parts : Array (Nat × Operand)} {ps : List (Nat × Nat × AV)} (hi : elI E.P t = some (sz,by',some z)) (hby : ∀ e,E.byref e = false) (hl : (Nat.ble (len * sz) 16777216 && Nat.beq z.length sz) = true)
  (hp : Vx E ρ sz parts.toList = some ps) (hf : Su (rep z len) ps = some cs) : Bo E Rr (.buildSlice t len parts) ρ J (.sv cs sz len (some len)) J := fun tm h => by
 obtain ⟨ti,e,te,h1,h2,h3,h4,h5,h6⟩ := Tw hi;subst h4;simp only [opA,Bd,h1,h2,h3,h6,hl,hby,Z4 h hp,Ho,hf]
theorem Aoz {α : Type} {enc : α -> List AV} {sz : Nat} (he : ∀ a,(enc a).length = sz) (l : List α) {a b : Nat} (hab : a <= b) (hb : b <= l.length) :
  D6 ((b - a) * sz) ((l.flatMap enc).drop (a * sz)) = some (((l.take b).drop a).flatMap enc) := by
 rw [Vs he]
 have bx : ((l.take b).drop a).length = b - a := by simp; omega
 have e : l.drop a = (l.take b).drop a ++ l.drop b := by
  have h1 : l = l.take b ++ l.drop b := (ck_ b l).symm
  calc l.drop a = (l.take b ++ l.drop b).drop a := by rw [← h1]
   _ = (l.take b).drop a ++ l.drop b := by rw [fh_ (by simp; omega)]
 rw [e,dd_];have := Hs (l := ((l.take b).drop a).flatMap enc) (r := (l.drop b).flatMap enc)
 rwa [Fm he,bx] at this
theorem Ai6 {α : Type} {enc : α -> List AV} {t sz by' a b : Nat} {zz : Option (List AV)} {l : List α} {x : Operand} {lo hi mx : Option Operand} {alo ahi amx : Option AV} {c : Option Nat} (hel : elI E.P t = some (sz,by',zz)) (he : ∀ a,(enc a).length = sz)
  (hx : A4 E ρ x = some (slV enc sz l)) (h1 : Lk E ρ lo = some alo) (h2 : Lk E ρ hi = some ahi) (h3 : Lk E ρ mx = some amx) (hb : D4 l.length none alo ahi amx = some (a,b,c)) (hab : a <= b) (hbl : b <= l.length) :
  Bo E Rr (.slice t x lo hi mx) ρ J (.sv (((l.take b).drop a).flatMap enc) sz (b - a) c) J := fun tm h => by
 obtain ⟨ti,e,te,k1,k2,k3,k4,k5,k6⟩ := Tw hel;subst k4;simp only [opA,Bd,k1,k2,k3,h.opd hx,h.opdO h1,h.opdO h2,h.opdO h3,slV,Ms,bg_,hb,Aoz he l hab hbl,Av]
theorem B0 {t t2 sz by' n : Nat} {z : List AV} {x y : Operand} {d s v : AV} {new : List AV} (hi : elI E.P t = some (sz,by',some z)) (hl : Nat.beq z.length sz = true) (hs : Fd E.P t2 = true) (hx : A4 E ρ x = some d) (hy : A4 E ρ y = some s)
  (hn : lenA s = some n) (fk : Gz J sz s n = some new) (ha : Di J sz by' d n new = some (v,J')) : Bo E Rr (.call ⟨.builtin .append,#[x,y],#[t,t2]⟩) ρ J v J' := fun tm h => by
 obtain ⟨ti,e,te,h1,h2,h3,h4,h5,h6⟩ := Tw hi;subst h4 h5;unfold Fd at hs
 split at hs
 ·rename_i t2i ht2
  split at hs
  ·rename_i e2 hd2
   simp only [opA,Bd,h1,Eb,h2,h3,ht2,h6,hl,hd2,h.opd hx,h.opd hy,opds,S6,hn,fk,ha]
  ·cases hs
 ·cases hs
def Below (N : Nat) (J J' : Sto) : Prop := nx J <= nx J' /\ ∀ a,a < N -> J'.get a = J.get a
theorem Below.rfl' {N : Nat} : Below N J J := ⟨nl,fun _ _ => rfl⟩
abbrev eo_ := @Below.rfl'
theorem Below.trans {N : Nat} {J'' : Sto} (h : Below N J J') (k : Below N J' J'') : Below N J J'' := ⟨ax_ h.1 k.1,fun a ha => (k.2 a ha).trans (h.2 a ha)⟩
end
theorem Below.new {N : Nat} {J J' : Sto} (h : Below N J J') (hN : N <= nx J) (o : AO) : Below N J (J'.new o) :=
 ⟨by rw [Aj]; have := h.1; omega,fun a ha => by rw [ab_,if_neg (by have := h.1; omega)]; exact h.2 a ha⟩
theorem Below.set {N a : Nat} {J J' : Sto} (h : Below N J J') (ha : N <= a) (o : AO) : Below N J (J'.set a o) :=
 ⟨by rw [Ak]; exact h.1,fun b hb => by rw [a_,if_neg Om]; exact h.2 b hb⟩
theorem H9.below {J J' : Sto} (hw : WFS J) (h : Below (nx J) J J') : H9 J' J := ag_ hw h.1 h.2
abbrev ap_ := @H9.below
theorem Xf {N : Nat} : ∀ {l m : List AV},AV.unds N (l ++ m) = (AV.unds N l && AV.unds N m)
 | [],m => by simp [AV.unds]
 | x :: l,m => by simp only [av_,AV.unds,Xf (l := l),Bool.and_assoc]
theorem Co {N : Nat} {α : Type} {enc : α -> List AV} (h : ∀ a,AV.unds N (enc a) = true) : ∀ l : List α,AV.unds N (l.flatMap enc) = true
 | [] => rfl
 | a :: r => by rw [cn_,Xf,h a,Co h r]; rfl
theorem Ez {N : Nat} {α : Type} {enc : α -> List AV} {sz : Nat} (h : ∀ a,AV.unds N (enc a) = true) (l : List α) : AV.und N (slV enc sz l) = true := Co h l
mutual
theorem Au.ind' {P : Au -> Prop} (h : ∀ l ks,(∀ t ∈ ks,P t) -> P (.node l ks)) : ∀ t,P t
 | .node l ks => h l ks (Au.indL' h ks)
theorem Au.indL' {P : Au -> Prop} (h : ∀ l ks,(∀ t ∈ ks,P t) -> P (.node l ks)) : ∀ (ks : List Au),∀ t ∈ ks,P t
 | [],t,ht => by simp at ht
 | k :: r,t,ht => by
  have h1 := Au.ind' h k;have h2 := Au.indL' h r
  rcases aj_.1 ht with hh | hh
  ·rw [hh]; exact h1
  ·exact h2 t hh
end
mutual
def Ly : Au -> Int -> Int
 | .node _ ks,n => Nh ks (n - 1)
def Nh : List Au -> Int -> Int
 | [],n => n
 | t :: r,n => if 0 <= n then Nh r (Ly t n) else n
end
theorem Amu (t : Au) (r : List Au) (n : Int) : Nh (t :: r) n = if 0 <= n then Nh r (Ly t n) else n := by rw [Nh]
mutual
theorem Akx : ∀ (t : Au) (n : Int),0 <= n -> -1 <= Ly t n /\ Ly t n <= n - 1
 | .node _ ks,n,h => by unfold Ly; have := Aky ks (n - 1) Om; omega
theorem Aky : ∀ (l : List Au) (n : Int),-1 <= n -> -1 <= Nh l n /\ Nh l n <= n
 | [],n,h => by unfold Nh; omega
 | t :: r,n,h => by
  unfold Nh
  split
  ·have h1 := Akx t n (by assumption)
   have h2 := Aky r (Ly t n) h1.1;omega
  ·omega
end
theorem Agg {l : List Au} {n : Int} (h : n < 0) : Nh l n = n := by
 cases l with
 | nil => unfold Nh; rfl
 | cons t r => unfold Nh; rw [if_neg Om]
theorem Agh {N : Nat} : ∀ {l m : List AV},AV.unds N l = true -> AV.unds N m = true -> AV.unds N (l ++ m) = true
 | [],m,_,h => h
 | x :: l,m,h,k => by simp only [av_,AV.unds,ad_] at h ⊢; exact ⟨h.1,Agh h.2 k⟩
mutual
theorem Me {N : Nat} : ∀ t : Au,AV.unds N (eT t) = true
 | .node l ks => by simp only [eT,AV.unds,AV.und,sV,Z5 ks,cm_]
theorem Z5 {N : Nat} : ∀ l : List Au,AV.unds N (eTs l) = true
 | [] => rfl
 | t :: r => by simp only [eTs]; exact Agh (Me t) (Z5 r)
end
theorem Ua {N : Nat} (t : Au) : AV.und N (Bg t) = true := Me t
section
variable {E : Env} {nt B : Nat} {df : List (Nat × List AV)} {ρ ρ' : Ao} {J J' : Sto} {K : Ao -> Sto -> Prop}
theorem Ai7 {v : AV} {sz : Nat} {cs : List AV} (hc : v.cellsN sz = some cs) : cs.length = sz := by
 unfold AV.cellsN at hc
 split at hc <;> try (cases hc; done)
 ·cases hb' : Nat.beq ‹List AV›.length sz with
  | true => rw [hb'] at hc; cases hc; exact aa_ hb'
  | false => rw [hb'] at hc; cases hc
 ·cases hb' : Nat.beq sz 1 with
  | true => rw [hb'] at hc; cases hc; exact (aa_ hb').symm
  | false => rw [hb'] at hc; cases hc
theorem Ai8 {v : AV} {sz N : Nat} {cs : List AV} (hc : v.cellsN sz = some cs) (hv : AV.und N v = true) : AV.unds N cs = true := by
 unfold AV.cellsN at hc
 split at hc <;> try (cases hc; done)
 ·cases hb' : Nat.beq ‹List AV›.length sz with
  | true => rw [hb'] at hc; cases hc; exact hv
  | false => rw [hb'] at hc; cases hc
 ·cases hb' : Nat.beq sz 1 with
  | true => rw [hb'] at hc; cases hc; simp only [AV.unds,hv,cm_]
  | false => rw [hb'] at hc; cases hc
theorem Ub {ops r : List Oper} {t d e sz : Nat} {agg : Bool} {x y : Operand} {ty ty' ty'' : Nat} {pos pos' pos'' : String} {after after' after'' : Array Edge} {z cs : List AV} {v u : AV} (hz : zI E.P t = some z) (hi : ldI E.P t = some (sz,agg)) (hl : Nat.beq z.length sz = true)
  (hy : A4 E ρ y = some u) (hy' : ∀ p,A4 E ((d,p) :: ρ) y = some u) (hv : A4 E ρ x = some v) (hx : ∀ p,A4 E ((e,u) :: (d,p) :: ρ) x = some v) (hde : Nat.beq e d = false) (hc : v.cellsN sz = some cs) (hd : Nat.blt d nt = true) (he : Nat.blt e nt = true) [Abl E] (hdf : df = [])
  (k : TO E nt df B ops r K ((e,u) :: (d,.pv cs) :: ρ) J) :
  TO E nt df B ops ({ dst := some d,op := .alloc t,type := ty,pos := pos,after := after,guard := none } :: { dst := some e,op := .assign y,type := ty'',pos := pos'',after := after'',guard := none } ::
   { dst := none,op := .store t (.tmp d) x,type := ty',pos := pos',after := after',guard := none } :: r) K ρ J := by
 subst hdf;intro ro n hn C w tm a ht st hB;have hwf := st.sim.wfs;have fh : ∀ i u,Ao.at ρ i = some u -> AV.und (nx J) u = true := fun i u hu => R.und _ _ (st.tmps i u (ht i u hu))
 have hou : ∀ (o : Operand) v,A4 E ρ o = some v -> AV.und (nx J) v = true := fun o v ho => by
  have hvR := B3 st.glob st.tmps o;rw [ht.opd ho] at hvR;exact R.und _ _ hvR
 have hcu := Ai8 hc (hou x v hv)
 have hcs : cs.length = z.length := by rw [Ai7 hc]; exact (aa_ hl).symm
 have key : TO E nt [] B ops ({ dst := some d,op := .alloc t,type := ty,pos := pos,after := after,guard := none } :: { dst := some e,op := .assign y,type := ty'',pos := pos'',after := after'',guard := none } ::
   { dst := none,op := .store t (.tmp d) x,type := ty',pos := pos',after := after',guard := none } :: r) K ρ J := by
  refine R6 noR (J₁ := J.new (.cells z)) (ρ₁ := (d,.pr (nx J) 0) :: ρ) (fun tm' ht' => ⟨_,Zt hz hd,ht'.put d _⟩) ?_
  refine Zq noR rfl he (Bk (hy' _)) ?_
  refine Zq noR rfl rfl (B9 (vs := z) (vs' := cs) (ad := nx J) (off := 0) (v := v) (cs := cs) hi (by simp [A4,En,Ao.at,bg_,hde]) (hx _) hc Ed (E4 hcs)) ?_
  simp only [En];refine Aou J ((e,u) :: (d,.pv cs) :: ρ) ?_ hB ?_ k
  ·refine ag_ hwf (by rw [Ak,Aj]; exact fa_ _) fun b hb => ?_
   rw [a_,if_neg Om,ab_,if_neg Om]
  ·intro i u' hu;simp only [Ao.at] at hu ⊢;cases hb : Nat.beq e i with
   | true =>
    rw [hb] at hu; simp only [cond_true,ac_] at hu ⊢;subst hu;exact ⟨_,rfl,.same (hou y _ hy)⟩
   | false =>
    rw [hb] at hu;simp only [cond_false] at hu ⊢;cases hb2 : Nat.beq d i with
    | true =>
     rw [hb2] at hu; simp only [cond_true,ac_] at hu ⊢;subst hu
     refine ⟨_,rfl,.pr (vs := cs) (by rw [a_,if_pos rfl]) ?_ (fp_ hcu)⟩
     cases hg : J.get (nx J) with
     | none => rfl
     | some O => exact absurd (hwf _ _ hg).1 (Nat.lt_irrefl _)
    | false => rw [hb2] at hu; exact ⟨u',hu,.same (fh i u' hu)⟩
 exact key ro n hn C w tm a ht st hB
def KDI (Q : Dr) (J : Sto) : KD := fun ρ' J' eps _ => J' = J /\ (∀ e ∈ eps,e = J) /\ Q .normal ρ' J
theorem Uc {Q : Dr} {Rr : Rec} {id : Nat} {ops : Array Oper} {anns : List Ann} (hm : E.P.follows .mixedOrders = true) (hR : Bc E Rr) (ha : Mw E ops = some anns)
  (h : TD E nt Rr ops.toList ops.toList (KDI Q J) ρ J [J] []) : T E nt df B (.region id ops true) Q ρ J := by
 intro ro n hn C w tm a ht st hB;obtain ⟨c1,c2,c3,c4⟩ := K5 ha;obtain ⟨d,k1,k2,k3,ρ',log',k4,k5,k6,k7,k8⟩ := h tm df [] ht trivial;refine wpIn_mono (Acf hm hR st c1 c2 c3 k1 fun j o t v ho hl hcl hg Jk hJ => ?_) fun e a' w' he => ?_
 ·have hJ' : Jk = J := k7 Jk (by simpa using ed_ (cy_ hJ))
  subst hJ';obtain ⟨log,eps,lex,g2,g3,g4,g5⟩ := Mb k1;simp only [ef_,br_,dc_] at g2 g3;obtain ⟨x1,x2,x3,x4,x5⟩ := Zu lex
  obtain ⟨t',v',t₁,J₀,J₁,y1,y2,y3,y4,y5,y6⟩ := x5 j o (by simpa using ho)
  rw [g2] at hl;rw [hl] at y1; cases y1
  have hJ0 : J₀ = Jk := by
   refine k7 J₀ ?_
   have : J₀ ∈ d.eps.reverse := by rw [g3]; exact af_ y3
   simpa using this
  subst hJ0
  have hne : Cg (By E o.op) = false := by rw [hcl]; rfl
  rcases y5 with ⟨z1,z2⟩ | ⟨z1,z2⟩
  ·rw [Jh hne] at z2; exact ⟨J₁,z2⟩
  ·rw [z1] at hg; cases hg
 ·obtain ⟨y,hy,C',h1,h2,h3⟩ := he;rw [al_] at hy;subst hy;obtain ⟨⟨tm',nt',df',J'⟩,eps',dl'⟩ := d;simp only at k2 k3 k6;subst k2 k3 k6;exact ⟨.normal,tm',ρ',J',C',h1,k4,k8,h2,ax_ hB h3.next,h3.base hB⟩
theorem D1 {f f' : Nat} {a a' : List AV} {s s' t : Sto} {v : AV} {r : List (Nat × List AV × Sto × AV × Sto)} {o : Option (AV × Sto)} (h : f' ≠ f) (k : G5 r (.fn f') a' t = o) : G5 ((f,a,s,v,s') :: r) (.fn f') a' t = o := by
 simp only [G5]; rw [if_neg (fun hh => h hh.1)]; exact k
theorem B6 {a t b off sz : Nat} {agg : Bool} {vs : List AV} {v : AV} {r : List ResultVar} {l : List AV} (hi : ldI E.P t = some (sz,agg)) (ha : Ao.at ρ a = some (.pr b off)) (hc : J.cells b = some vs) (hv : Iq sz agg (vs.drop off) = some v) (hr : T0 E ρ J r = some l) :
  T0 E ρ J (.cell a t :: r) = some (v :: l) := by
 obtain ⟨ti,h1,h2,h3⟩ := Q3 hi;subst h2 h3;simp only [T0,h1,ha,hc,hv,hr]
theorem Dj {t : Nat} {v : AV} {r : List ResultVar} {l : List AV} (hv : Ao.at ρ t = some v) (hr : T0 E ρ J r = some l) : T0 E ρ J (.tmp t :: r) = some (v :: l) := by
 simp only [T0,hv,hr]
theorem Ds {J τ : Sto} {sz : Nat} : Fz J τ (.nil (.slice none 0 0)) (.sv [] sz 0 none) := .nils (fun q hq => by cases hq)
end
abbrev SM (α : Type) := List (Str × α)
def kS (s : Str) : Key := .str (s.map UInt8.toNat)
def Cp {α : Type} (enc : α -> AV) (m : SM α) : List (Key × AV) := m.map fun p => (kS p.1,enc p.2)
def SM.get {α : Type} : SM α -> Str -> Option α
 | [],_ => none
 | (k,v) :: r,s => if s = k then some v else SM.get r s
def SM.set {α : Type} : SM α -> Str -> α -> SM α
 | [],_,_ => []
 | (k,v) :: r,s,x => if s = k then (k,x) :: r else (k,v) :: SM.set r s x
def SM.ins {α : Type} : SM α -> Str -> α -> SM α
 | [],s,x => [(s,x)]
 | (k,v) :: r,s,x => if Key.lt (kS s) (kS k) then (s,x) :: (k,v) :: r else (k,v) :: SM.ins r s x
def SM.put {α : Type} (m : SM α) (s : Str) (x : α) : SM α := match m.get s with | some _ => m.set s x | none => m.ins s x
def SM.has (m : SM Bool) (s : Str) : Bool := (m.get s).getD false
theorem Acj (a b : Str) : Key.eq (kS a) (kS b) = decide (a = b) := by
 show F4 _ _ = _
 by_cases h : a = b
 ·rw [decide_eq_true h]; subst h; exact (F7 _ _).2 rfl
 ·rw [decide_eq_false h];cases hb : F4 (a.map UInt8.toNat) (b.map UInt8.toNat) with
  | true => exact absurd (Fj.1 ((F7 _ _).1 hb)) h
  | false => rfl
section
variable {α : Type} {enc : α -> AV} {m : SM α} {s t : Str} {x : α}
theorem Ht : ∀ {m : SM α},D7 (kS s) (Cp enc m) = (m.get s).map enc
 | [] => rfl
 | (k,v) :: r => by
  show cond (Key.eq (kS s) (kS k)) (some (enc v)) (D7 (kS s) (Cp enc r)) = _
  rw [Acj,SM.get]
  by_cases h : s = k
  ·rw [decide_eq_true h,cond_true,if_pos h]; rfl
  ·rw [decide_eq_false h,cond_false,if_neg h]; exact Ht
theorem Z6 : ∀ {m : SM α},Re (kS s) (enc x) (Cp enc m) = Cp enc (m.set s x)
 | [] => rfl
 | (k,v) :: r => by
  show cond (Key.eq (kS s) (kS k)) ((kS k,enc x) :: Cp enc r) ((kS k,enc v) :: Re (kS s) (enc x) (Cp enc r)) = _
  rw [Acj,SM.set]
  by_cases h : s = k
  ·rw [decide_eq_true h,cond_true,if_pos h]; rfl
  ·rw [decide_eq_false h,cond_false,if_neg h,Z6]; rfl
theorem Z7 : ∀ {m : SM α},Ph (kS s) (enc x) (Cp enc m) = Cp enc (m.ins s x)
 | [] => rfl
 | (k,v) :: r => by
  show cond (Key.lt (kS s) (kS k)) ((kS s,enc x) :: (kS k,enc v) :: Cp enc r) ((kS k,enc v) :: Ph (kS s) (enc x) (Cp enc r)) = _
  rw [SM.ins];cases h : Key.lt (kS s) (kS k)
  ·rw [cond_false,if_neg (by simp),Z7]; rfl
  ·rw [cond_true,if_pos rfl]; rfl
theorem Ao0 : mput (kS s) (enc x) (Cp enc m) = Cp enc (m.put s x) := by
 unfold mput SM.put;rw [Ht];cases m.get s with
 | none => exact Z7
 | some y => exact Z6
theorem SM.get_set : ∀ {m : SM α},(m.set s x).get t = if t = s /\ (m.get s).isSome then some x else m.get t
 | [] => by simp [SM.set,SM.get]
 | (k,v) :: r => by
  unfold SM.set
  by_cases h : s = k
  ·subst h;rw [if_pos rfl];simp only [SM.get,if_true,fq_,and_true]
   by_cases ht : t = s
   ·simp [ht]
   ·simp [ht]
  ·rw [if_neg h];simp only [SM.get,if_neg h]
   by_cases ht : t = k
   ·subst ht;rw [if_pos rfl,if_pos rfl,if_neg (fun hh => h hh.1.symm)]
   ·rw [if_neg ht,if_neg ht]; exact SM.get_set
theorem SM.get_ins : ∀ {m : SM α},m.get s = none -> (m.ins s x).get t = if t = s then some x else m.get t
 | [],_ => by simp [SM.ins,SM.get]
 | (k,v) :: r,hn => by
  have hk : s ≠ k := fun h => by simp [SM.get,h] at hn
  have hr : SM.get r s = none := by simpa [SM.get,hk] using hn
  unfold SM.ins
  split
  ·simp only [SM.get]
  ·simp only [SM.get]
   by_cases ht : t = k
   ·subst ht; rw [if_pos rfl,if_neg (fun h => hk h.symm),if_pos rfl]
   ·rw [if_neg ht,if_neg ht]; exact SM.get_ins hr
theorem SM.get_put : (m.put s x).get t = if t = s then some x else m.get t := by
 unfold SM.put;cases h : m.get s with
 | none => exact SM.get_ins h
 | some y => simp only [SM.get_set,h,fq_,and_true]
abbrev bz_ := @SM.get_put
theorem SM.has_put {m : SM Bool} : (m.put s true).has t = (decide (t = s) || m.has t) := by
 unfold SM.has;rw [bz_]
 by_cases h : t = s
 ·rw [if_pos h,decide_eq_true h]; rfl
 ·rw [if_neg h,decide_eq_false h]; rfl
theorem Ack {N : Nat} (h : ∀ a,AV.und N (enc a) = true) (m : SM α) : Is N (Cp enc m) = true := by
 unfold Is Cp;rw [List.all_map,bu_];intro p _;exact h p.2
end
def Bx {α : Type} (enc : α -> AV) (J : Sto) (r : Nat) (m : SM α) : Prop := ∃ ver,J.get r = some (.map 9 (Cp enc m) ver)
abbrev E7 (J : Sto) (r : Nat) (m : SM Bool) : Prop := Bx bV J r m
section
variable {E : Env} {ρ : Ao} {J J' : Sto} {Rr : Rec} {t : Nat} {x y w : Operand} {α : Type} {enc : α -> AV} {m : SM α} {s : Str} {r : Nat}
theorem keyS (h : Gw E.P 9 = true) : Hn E.P 9 (sV s) = some (kS s) := by
 unfold Gw at h
 split at h
 ·rename_i ti hti
  split at h
  ·rename_i hd
   unfold Hn;simp only [hti,hd]
   rfl
  ·cases h
 ·cases h
theorem Aej {z : AV} {sz : Nat} {agg : Bool} (h9 : Gw E.P 9 = true) (hi : mpI E.P t = some (9,z,sz,agg)) (hx : A4 E ρ x = some (.mp r)) (hm : Bx enc J r m) (hy : A4 E ρ y = some (sV s)) :
  Bo E Rr (.lookup t x y false) ρ J (((m.get s).map enc).getD z) J := by
 have := Amn (Rr := Rr) hi hx (show Ab7 J 9 (Cp enc m) (.mp r) from hm) hy (keyS h9)
 rwa [Ht] at this
theorem Kf {z : AV} {sz : Nat} {agg : Bool} (h9 : Gw E.P 9 = true) (hi : mpI E.P t = some (9,z,sz,agg)) (hx : A4 E ρ x = some (.mp r)) (hm : Bx enc J r m) (hy : A4 E ρ y = some (sV s)) :
  Bo E Rr (.lookup t x y true) ρ J (.tup [((m.get s).map enc).getD z,.bool (m.get s).isSome]) J := by
 have := Aiw (Rr := Rr) hi hx (show Ab7 J 9 (Cp enc m) (.mp r) from hm) hy (keyS h9)
 rwa [Ht,Option.isSome_map] at this
theorem De {sz : Nat} {agg : Bool} {m : SM Bool} (h9 : Gw E.P 9 = true) (hi : mpI E.P t = some (9,.bool false,sz,agg)) (hx : A4 E ρ x = some (.mp r)) (hm : E7 J r m) (hy : A4 E ρ y = some (sV s)) :
  Bo E Rr (.lookup t x y false) ρ J (.bool (m.has s)) J := by
 have := Aej (Rr := Rr) h9 hi hx hm hy
 have e : ((m.get s).map bV).getD (.bool false) = .bool (m.has s) := by unfold SM.has; cases m.get s <;> rfl
 rwa [e] at this
theorem E8 {z : AV} {sz ver : Nat} {agg : Bool} {v : α} (h9 : Gw E.P 9 = true) (hi : mpI E.P t = some (9,z,sz,agg)) (hx : A4 E ρ x = some (.mp r)) (hm : J.get r = some (.map 9 (Cp enc m) ver))
  (hy : A4 E ρ y = some (sV s)) (hw : A4 E ρ w = some (enc v)) (hf : ∀ te : TI,te.size = sz -> te.isAgg = agg -> O4 te (enc v) = true) :
  Bo E Rr (.mapUpdate t x y w) ρ J A5 (J.set r (.map 9 (Cp enc (m.put s v)) (ver + 1))) := by
 have := Amo (Rr := Rr) hi hx hm hy (keyS h9) hw hf
 rwa [Ao0] at this
end
theorem Fq {te : TI} {n : Nat} {b : Bool} (_ : te.size = n) (h : te.isAgg = false) : O4 te (bV b) = true := by unfold bV O4; rw [h]; rfl
theorem Fs {te : TI} {n : Nat} {s : Str} (_ : te.size = n) (h : te.isAgg = false) : O4 te (sV s) = true := by unfold sV O4; rw [h]; rfl
theorem Ge {te : TI} {n : Nat} {k : IntKind} {i : Int} (_ : te.size = n) (h : te.isAgg = false) : O4 te (.int k i) = true := by unfold O4; rw [h]; rfl
theorem Gf {te : TI} {n r : Nat} (_ : te.size = n) (h : te.isAgg = false) : O4 te (.mp r) = true := by unfold O4; rw [h]; rfl
theorem Ft {te : TI} {n : Nat} {cs : List AV} (hn : te.size = n) (h : te.isAgg = true) (hc : cs.length = n) : O4 te (.agg cs) = true := by
 show (te.isAgg && Nat.beq cs.length te.size) = true
 rw [h,hn,hc,bg_]; rfl
section
variable {J J' : Sto} {α : Type} {enc : α -> AV} {m : SM α} {r a : Nat}
theorem Bx.lt (hw : WFS J) (h : Bx enc J r m) : r < nx J := by obtain ⟨v,h⟩ := h; exact (hw _ _ h).1
theorem Bx.of_get (h : Bx enc J r m) (hg : J'.get r = J.get r) : Bx enc J' r m := by obtain ⟨v,h⟩ := h; exact ⟨v,hg.trans h⟩
theorem Bx.new (h : Bx enc J r m) (hw : r < nx J) {o : AO} : Bx enc (J.new o) r m := h.of_get (by rw [ab_,if_neg Om])
theorem Bx.set (h : Bx enc J r m) {o : AO} (hne : r ≠ a) : Bx enc (J.set a o) r m := h.of_get (by rw [a_,if_neg Om])
theorem Bx.put {ver : Nat} : Bx enc (J.set r (.map 9 (Cp enc m) ver)) r m := ⟨ver,by rw [a_,if_pos rfl]⟩
abbrev dh_ := @Bx.put
theorem Bx.fresh {ver : Nat} : Bx enc (J.new (.map 9 (Cp enc m) ver)) (nx J) m := ⟨ver,by rw [ab_,if_pos rfl]⟩
end
section
variable {E : Env} {nt B : Nat} {df : List (Nat × List AV)} {Q : Dr} {Rr : Rec} {ops r : List Oper} {K : KD} {ρ : Ao} {J τ : Sto} {eps : List Sto} {log : List (Ao × AV)}
theorem Akz {o : Oper} {b : Bool} (hg : ∀ tm,Has tm ρ -> Cn ops o tm = some false) (he : Cg (By E o.op) = b) (hd : C5 nt o.dst = true)
  (k : TD E nt Rr ops r K (En o.dst A5 ρ) J (cond b (J :: eps) eps) ((ρ,A5) :: log)) : TD E nt Rr ops (o :: r) K ρ J eps log := by
 intro tm df dl ht hl;obtain ⟨tm',h1,h2⟩ := D0 (dst := o.dst) hd ht A5
 have : Qy E ops o Rr ⟨⟨tm,nt,df,J⟩,eps,dl⟩ = some ⟨⟨tm',nt,df,J⟩,cond b (J :: eps) eps,(tm,A5) :: dl⟩ := by
  unfold Qy;simp only [hg tm ht,h1,he];cases b <;> rfl
 obtain ⟨d',k1,k2⟩ := k tm' df ((tm,A5) :: dl) h2 ⟨ht,rfl,hl⟩
 exact ⟨d',by simp only [Ov,this]; exact k1,k2⟩
theorem Sd {o oj : Oper} {j d : Nat} {b want e : Bool} (hg : o.guard = some (j,want)) (hj : ops[j]? = some oj) (hdj : oj.dst = some d) (hb : Ao.at ρ d = some (.bool b)) (hw : cond b want (!want) = false)
  (he : Cg (By E o.op) = e) (hd : C5 nt o.dst = true)
  (k : TD E nt Rr ops r K (En o.dst A5 ρ) J (cond e (J :: eps) eps) ((ρ,A5) :: log)) : TD E nt Rr ops (o :: r) K ρ J eps log :=
 Akz (fun tm ht => by rw [Gn ht hg hj hdj hb,hw]) he hd k
theorem Yb {o oj : Oper} {j d : Nat} {want e : Bool} (hg : o.guard = some (j,want)) (hj : ops[j]? = some oj) (hdj : oj.dst = some d) (hb : Ao.at ρ d = some A5)
  (he : Cg (By E o.op) = e) (hd : C5 nt o.dst = true)
  (k : TD E nt Rr ops r K (En o.dst A5 ρ) J (cond e (J :: eps) eps) ((ρ,A5) :: log)) : TD E nt Rr ops (o :: r) K ρ J eps log :=
 Akz (fun tm ht => by simp only [Cn,hg,hj,hdj,ht d _ hb]; rfl) he hd k
theorem Aek {α : Type} {enc : α -> List AV} {t sz by' a : Nat} {zz : Option (List AV)} {l : List α} {x : Operand} {lo : Option Operand} {k : IntKind} (hel : elI E.P t = some (sz,by',zz)) (he : ∀ a,(enc a).length = sz)
  (hx : A4 E ρ x = some (slV enc sz l)) (h1 : Lk E ρ lo = some (some (.int k (.ofNat a)))) (ha : a <= l.length) : Bo E Rr (.slice t x lo none none) ρ J (slV enc sz (l.drop a)) J := by
 have hb : D4 l.length none (some (.int k (.ofNat a))) none none = some (a,l.length,none) := by
  have h2 : Nat.ble a l.length = true := ba_ ha;have h3 : Nat.ble l.length l.length = true := ba_ nl;simp only [D4,Lr,h2,Pi,h3,cond_true,cm_,Pj]
 have := Ai6 (Rr := Rr) (J := J) (lo := lo) (hi := none) (mx := none) hel he hx h1 rfl rfl hb ha nl;rw [eg_] at this
 rwa [show slV enc sz (l.drop a) = .sv ((l.drop a).flatMap enc) sz (l.length - a) none by rw [← cu_]; rfl]
theorem Dp {c : Code} (h : WFS J -> T E nt df B c Q ρ J) : T E nt df B c Q ρ J := fun ro n hn C w tm a ht st hB => h st.sim.wfs ro n hn C w tm a ht st hB
theorem Ao1 {c : Code} {i : Nat} {v : AV} (hi : Ao.at ρ i = some v) (h : AV.und (nx J) v = true -> T E nt df B c Q ρ J) : T E nt df B c Q ρ J := fun ro n hn C w tm a ht st hB => h (R.und _ _ (st.tmps i v (ht i v hi))) ro n hn C w tm a ht st hB
def cutQ (L : Ao) (τ : Sto) : Dr
 | .normal => fun ρ J => Lw L ρ /\ J = τ
 | _ => fun _ _ => False
theorem Amv {x y : Code} (L : Ao) (τ : Sto) (h : T E nt df B x (cutQ L τ) ρ J) (k : T E nt df B y Q L τ) : T E nt df B (.seq x y) Q ρ J := by
 refine Ac (h.mono fun e ρ' J' hq => ?_)
 cases e with
 | normal => obtain ⟨h1,rfl⟩ := hq; exact k.sub h1
 | exit _ => exact hq.elim
 | ret => exact hq.elim
theorem Ao.at_app : ∀ (L ρ : Ao) (i : Nat),Ao.at (L ++ ρ) i = (Ao.at L i).or (Ao.at ρ i)
 | [],ρ,i => rfl
 | (j,v) :: r,ρ,i => by
  show cond (Nat.beq j i) (some v) (Ao.at (r ++ ρ) i) = (cond (Nat.beq j i) (some v) (Ao.at r i)).or _
  cases Nat.beq j i with
  | true => rfl
  | false => exact Ao.at_app r ρ i
abbrev fr_ := @Ao.at_app
def addQ (L ρ : Ao) (τ : Sto) : Dr
 | .normal => fun ρ' J => Lw L ρ' /\ K4 ρ ρ' /\ J = τ
 | _ => fun _ _ => False
theorem Hu {x y : Code} (L : Ao) (h : T E nt df B x (addQ L ρ J) ρ J) (k : T E nt df B y Q (L ++ ρ) J) : T E nt df B (.seq x y) Q ρ J := by
 refine Ac (h.mono fun e ρ' J' hq => ?_)
 cases e with
 | normal =>
  obtain ⟨h1,h2,rfl⟩ := hq;refine fun ro n hn C w tm a ht st hB => k ro n hn C w tm a (fun i v hv => ?_) st hB
  rw [fr_] at hv;cases hL : Ao.at L i with
  | some u => rw [hL] at hv; cases hv; exact ht i _ (h1.at i _ hL)
  | none => rw [hL] at hv; exact ht i v (h2 i v hv)
 | exit _ => exact hq.elim
 | ret => exact hq.elim
def cutP (P : Ao -> Sto -> Prop) : Dr
 | .normal => fun ρ J => ∃ L,Lw L ρ /\ P L J
 | _ => fun _ _ => False
theorem Ai9 {x y : Code} (P : Ao -> Sto -> Prop) (h : T E nt df B x (cutP P) ρ J) (k : ∀ L τ,P L τ -> T E nt df B y Q L τ) : T E nt df B (.seq x y) Q ρ J := by
 refine Ac (h.mono fun e ρ' J' hq => ?_)
 cases e with
 | normal => obtain ⟨L,h1,h2⟩ := hq; exact (k L J' h2).sub h1
 | exit _ => exact hq.elim
 | ret => exact hq.elim
end
end Go.AM
