/- A part of the proof; shortened by program. -/
import Derived.Test.YtcnkdbldfpaebaaGreatDoorP10
set_option maxRecDepth 100000
set_option maxHeartbeats 4000000
set_option linter.unusedSimpArgs false
set_option linter.unusedVariables false
namespace Go.AM
open Go
section
def Xb : List Nat -> Nat -> Option Nat
 | [],_ => none
 | x :: r,a => cond (Nat.beq x a) (some 0) (match Xb r a with | some i => some (i + 1) | none => none)
mutual
def AV.ren (L : List Nat) (b : Nat) : AV -> AV
 | .pr a off => match Xb L a with | some i => Cd (b + i) fun n => .pr n off | none => .any
 | .sr a off sz len cap => match Xb L a with | some i => Cd (b + i) fun n => .sr n off sz len cap | none => .any
 | .mp a => match Xb L a with | some i => Cd (b + i) fun n => .mp n | none => .any
 | .it _ => .any
 | .stp _ => .any
 | .yl _ => .any
 | .flt k n => .flt k n
 | .pv cs => .pv (AV.rens L b cs)
 | .sv cs sz len cap => .sv (AV.rens L b cs) sz len cap
 | .fn f p q => .fn f (AV.rens L b p) (AV.rens L b q)
 | .ifc t x => .ifc t (AV.ren L b x)
 | .agg cs => .agg (AV.rens L b cs)
 | .tup vs => .tup (AV.rens L b vs)
 | .any => .any
 | .bool x => .bool x
 | .int k n => .int k n
 | .str l => .str l
 | .nil v => .nil v
def AV.rens (L : List Nat) (b : Nat) : List AV -> List AV
 | [] => []
 | x :: r => AV.ren L b x :: AV.rens L b r
end
def Af9 (L : List Nat) (b : Nat) : List (Key × AV) -> List (Key × AV)
 | [] => []
 | (k,v) :: r => (k,AV.ren L b v) :: Af9 L b r
def AO.ren (L : List Nat) (b : Nat) : AO -> Option AO
 | .cells vs => some (.cells (AV.rens L b vs))
 | .map kt es ver => some (.map kt (Af9 L b es) ver)
 | _ => none
def Ic (L : List Nat) (b : Nat) (J : Sto) : List Nat -> Option (List AO)
 | [] => some []
 | a :: r => match J.get a with
  | some o => match o.ren L b,Ic L b J r with
   | some o',some l => some (o' :: l)
   | _,_ => none
  | none => none
def Hd : List AO -> Sto -> Sto
 | [],J => J
 | o :: r,J => Hd r (J.new o)
theorem Acg : ∀ {L : List Nat} {a i : Nat},Xb L a = some i -> L[i]? = some a
 | [],a,i,h => by simp [Xb] at h
 | x :: r,a,i,h => by
  simp only [Xb] at h;cases hb : Nat.beq x a with
  | true =>
   have hxa := aa_ hb
   simp [hb] at h; subst h; simp [hxa]
  | false =>
   simp only [hb,cond_false] at h
   split at h
   ·rename_i j hj; cases h; simpa using Acg hj
   ·cases h
theorem Ach : ∀ (l : List AO) (J : Sto),nx (Hd l J) = nx J + l.length
 | [],J => rfl
 | o :: r,J => by simp only [Hd,Ach r,Aj,aq_]; omega
theorem He : ∀ (l : List AO) (J : Sto) (a : Nat),(Hd l J).get a = if a < nx J then J.get a else match l[a - nx J]? with | some o => some o | none => J.get a
 | [],J,a => by simp [Hd]
 | o :: r,J,a => by
  simp only [Hd];rw [He r,Aj,ab_]
  by_cases h : a < nx J
  ·rw [if_pos Om,if_neg Om,if_pos h]
  ·rw [if_neg h]
   by_cases h2 : a = nx J
   ·subst h2; rw [if_pos Om,if_pos rfl]; simp
   ·rw [if_neg Om,if_neg h2]
    have : a - nx J = (a - (nx J + 1)) + 1 := by omega
    rw [this,bh_]
section
variable {C₁ C' : Ctx} {N₁ N' b : Nat} {w : World} {L : List Nat}
structure Aga (L : List Nat) (b : Nat) (C₁ C' : Ctx) (N' : Nat) : Prop where
 at' : ∀ a i,Xb L a = some i -> b + i < N' /\ C'.loc (b + i) = C₁.loc a
 own : ∀ c,C'.own c -> C₁.own c
mutual
theorem R.ren (h : Aga L b C₁ C' N') : ∀ (x : AV) (v : Value),R C₁ N₁ w x v -> R C' N' w (x.ren L b) v
 | .pr a off,v,hr => by
  unfold AV.ren
  split
  ·rename_i i hi
   obtain ⟨k1,k2⟩ := h.at' a i hi;rw [Av];unfold R at *;obtain ⟨ad,h1,h2,h3⟩ := hr
   exact ⟨ad,h1,k1,fun c o hc => h3 c o (by rw [← k2]; exact hc)⟩
  ·unfold R; trivial
 | .sr a off sz len cap,v,hr => by
  unfold AV.ren
  split
  ·rename_i i hi
   obtain ⟨k1,k2⟩ := h.at' a i hi;rw [Av];unfold R at *;obtain ⟨ad,k,h1,h2,h3,h4,h5⟩ := hr
   exact ⟨ad,k,h1,k1,h3,h4,fun c o hc => h5 c o (by rw [← k2]; exact hc)⟩
  ·unfold R; trivial
 | .mp a,v,hr => by
  unfold AV.ren
  split
  ·rename_i i hi
   obtain ⟨k1,k2⟩ := h.at' a i hi;rw [Av];unfold R at *;obtain ⟨c,h1,h2,h3⟩ := hr
   exact ⟨c,h1,k1,fun c' o hc => h3 c' o (by rw [← k2]; exact hc)⟩
  ·unfold R; trivial
 | .it _,v,hr => by unfold AV.ren R; trivial
 | .stp _,v,hr => by unfold AV.ren R; trivial
 | .yl _,v,hr => by unfold AV.ren R; trivial
 | .flt k n,v,hr => by unfold AV.ren; unfold R at *; exact hr
 | .pv cs,v,hr => by
  unfold AV.ren;unfold R at *;obtain ⟨c,o,h1,h2,h3⟩ := hr
  exact ⟨c,o,h1,fun hne ho => h2 (fun he => hne (by rw [he]; rfl)) (h.own c ho),RC.ren h cs c o h3⟩
 | .sv cs sz len cap,v,hr => by
  unfold AV.ren;unfold R at *;obtain ⟨ado,k,h1,h2,h3,h4,h0,hh⟩ := hr
  refine ⟨ado,k,h1,h2,h3,by rw [Xc,h4],h0,fun ad ha => ?_⟩
  obtain ⟨h5,h6,h7⟩ := hh ad ha
  exact ⟨h5,fun hne ho => h6 (fun he => hne (by rw [he]; rfl)) (h.own _ ho),RC.ren h cs ad.block ad.off h7⟩
 | .fn f p q,v,hr => by
  unfold AV.ren;unfold R at *;obtain ⟨a,c,h1,h2,h3⟩ := hr;exact ⟨a,c,h1,RL.ren h p _ h2,RL.ren h q _ h3⟩
 | .ifc t x,v,hr => by
  unfold AV.ren;unfold R at *;obtain ⟨y,h1,h2⟩ := hr;exact ⟨y,h1,R.ren h x y h2⟩
 | .agg cs,v,hr => by
  unfold AV.ren;unfold R at *;obtain ⟨a,h1,h2,h3⟩ := hr;exact ⟨a,h1,RL.ren h cs _ h2,h3⟩
 | .tup vs,v,hr => by
  unfold AV.ren;unfold R at *;obtain ⟨a,h1,h2⟩ := hr;exact ⟨a,h1,RL.ren h vs _ h2⟩
 | .any,v,hr => by unfold AV.ren R; trivial
 | .bool x,v,hr => by unfold AV.ren; unfold R at *; exact hr
 | .int k n,v,hr => by unfold AV.ren; unfold R at *; exact hr
 | .str l,v,hr => by unfold AV.ren; unfold R at *; exact hr
 | .nil y,v,hr => by unfold AV.ren; unfold R at *; exact hr
theorem RC.ren (h : Aga L b C₁ C' N') : ∀ (cs : List AV) (c o : Nat),RC C₁ N₁ w c cs o -> RC C' N' w c (AV.rens L b cs) o
 | [],c,o,_ => by unfold AV.rens RC; trivial
 | x :: r,c,o,hr => by
  unfold AV.rens;unfold RC at *;obtain ⟨⟨v,h1,h2,h3⟩,h4⟩ := hr;exact ⟨⟨v,h1,h2,R.ren h x v h3⟩,RC.ren h r c (o + 1) h4⟩
theorem RL.ren (h : Aga L b C₁ C' N') : ∀ (l : List AV) (vs : List Value),RL C₁ N₁ w l vs -> RL C' N' w (AV.rens L b l) vs
 | [],[],_ => by unfold AV.rens RL; trivial
 | x :: r,v :: s,hr => by
  unfold AV.rens;unfold RL at *;exact ⟨R.ren h x v hr.1,RL.ren h r s hr.2⟩
 | [],_ :: _,hr => by unfold RL at hr; exact hr.elim
 | _ :: _,[],hr => by unfold RL at hr; exact hr.elim
theorem Xc {L : List Nat} {b : Nat} : ∀ (l : List AV),(AV.rens L b l).length = l.length
 | [] => rfl
 | x :: r => by unfold AV.rens; simp [Xc r]
end
theorem ER.ren (h : Aga L b C₁ C' N') : ∀ (l : List (Key × AV)) (E : List MapEntry),ER C₁ N₁ w l E -> ER C' N' w (Af9 L b l) E
 | [],[],_ => by unfold Af9 ER; trivial
 | (k,v) :: r,e :: s,hr => by
  unfold Af9;unfold ER at *;exact ⟨⟨hr.1.1,R.ren h v _ hr.1.2⟩,ER.ren h r s hr.2⟩
 | [],_ :: _,hr => by unfold ER at hr; exact hr.elim
 | _ :: _,[],hr => by unfold ER at hr; exact hr.elim
end
theorem Ng {L : List Nat} {b : Nat} {J : Sto} : ∀ {M : List Nat} {l : List AO},Ic L b J M = some l -> l.length = M.length /\ ∀ (i a : Nat),M[i]? = some a -> ∃ o o',J.get a = some o /\ o.ren L b = some o' /\ l[i]? = some o'
 | [],l,h => by simp [Ic] at h; subst h; simp
 | a :: M,l,h => by
  simp only [Ic] at h
  split at h
  ·rename_i o ho
   split at h
   ·rename_i o' l' h1 h2
    cases h;obtain ⟨k1,k2⟩ := Ng h2
    refine ⟨by simp [k1],fun i x hx => ?_⟩
    cases i with
    | zero => simp at hx; subst hx; exact ⟨o,o',ho,h1,rfl⟩
    | succ i => exact k2 i x (by simpa using hx)
   ·cases h
  ·cases h
def Ctx.iso (C : Ctx) : Ctx := ⟨fun _ => none,C.stm,C.own,C.lr⟩
theorem Ctx.iso_own (C : Ctx) : C.iso.own = C.own := by
 funext c
 simp [Ctx.own,Ctx.iso]
theorem Sim.iso {P : Program} {C : Ctx} {w : World} {J : Sto} (h : Sim P C w J) : Sim P C.iso w ⟨.e,0⟩ where
 obj a O hg := by simp [Sto.get,Tr.get] at hg
 bound a O hg := by simp [Sto.get,Tr.get] at hg
 dom a p hp := by simp [Ctx.iso] at hp
 inj a b c o o' ha := by simp [Ctx.iso] at ha
 lt a c o ha := by simp [Ctx.iso] at ha
 rlt b hb := h.own_lt hb
 rdis a c o ha := by simp [Ctx.iso] at ha
def Ctx.lay (C : Ctx) (b : Nat) (C₁ : Ctx) (L : List Nat) : Ctx :=
 { C with loc := fun a => if a < b then C.loc a else match L[a - b]? with | some x => C₁.loc x | none => none }
theorem Amt {L : List Nat} (h : L.Nodup) {i j a : Nat} (hi : L[i]? = some a) (hj : L[j]? = some a) : i = j := by
 obtain ⟨h1,h2⟩ := ae_.1 hi;obtain ⟨h3,h4⟩ := ae_.1 hj;exact (List.getElem_inj h).1 (h2.trans h4.symm)
theorem Aks {P : Program} {C Cs C₁ : Ctx} {w w' : World} {J J₁ : Sto} {v : AV} {x : Value} {L : List Nat} {objs : List AO}
  (hs : Sim P C w J) (h1 : Sim P C₁ w' J₁) (ep : Cs.res = C.own) (bw : Cs.loc = fun _ => none) (he : Ext Cs 0 w C₁ (nx J₁) w') (hr : R C₁ (nx J₁) w' v x)
  (hn : L.Nodup) (ho : Ic L (nx J) J₁ L = some objs) :
  ∃ C',Sim P C' w' (Hd objs J) /\ Ext C (nx J) w C' (nx (Hd objs J)) w' /\ R C' (nx (Hd objs J)) w' (v.ren L (nx J)) x := by
 obtain ⟨bx,kf⟩ := Ng ho;have hC₁res : C₁.res = C.own := he.res.1.trans ep
 have cz : ∀ c,C.own c -> w'.heap[c]? = w.heap[c]? := fun c hc => he.res.2 c (by rw [ep]; exact hc)
 have ie : ∀ c,Cs.own c ↔ C.own c := fun c => by
  unfold Ctx.own;rw [ep,bw]
  simp [Ctx.own]
 have hnx : nx (Hd objs J) = nx J + L.length := by rw [Ach,bx]
 have c6 : ∀ a,a < nx J -> (C.lay (nx J) C₁ L).loc a = C.loc a := fun a ha => by simp [Ctx.lay,ha]
 have fe : ∀ (i a : Nat),L[i]? = some a -> (C.lay (nx J) C₁ L).loc (nx J + i) = C₁.loc a := fun i a hi => by
  simp only [Ctx.lay]
  rw [if_neg Om,show nx J + i - nx J = i by omega,hi]
 have cq : ∀ a p,(C.lay (nx J) C₁ L).loc a = some p -> (a < nx J /\ C.loc a = some p) ∨ ∃ i x,a = nx J + i /\ L[i]? = some x /\ C₁.loc x = some p := fun a p hp => by
  by_cases ha : a < nx J
  ·rw [c6 a ha] at hp; exact .inl ⟨ha,hp⟩
  ·simp only [Ctx.lay,if_neg ha] at hp
   split at hp
   ·rename_i y hy; exact .inr ⟨a - nx J,y,by omega,hy,hp⟩
   ·cases hp
 have bn : ∀ c,(C.lay (nx J) C₁ L).own c -> C₁.own c := fun c hc => by
  rcases hc with hc | ⟨a,o,hc⟩
  ·exact .inl (by rw [hC₁res]; exact .inl hc)
  ·rcases cq a _ hc with ⟨_,h2⟩ | ⟨i,y,_,_,h4⟩
   ·exact .inl (by rw [hC₁res]; exact .inr ⟨a,o,h2⟩)
   ·exact .inr ⟨y,o,h4⟩
 have hmv : Aga L (nx J) C₁ (C.lay (nx J) C₁ L) (nx (Hd objs J)) := ⟨fun a i hi => by
  have hi' := Acg hi;have := (ae_.1 hi').1
  exact ⟨by rw [hnx]; omega,fe i a hi'⟩,bn⟩
 have e : Ext C (nx J) w (C.lay (nx J) C₁ L) (nx (Hd objs J)) w' := ⟨by omega,he.size,
  fun c hc ho => by
   obtain ⟨k1,k2⟩ := he.keep c hc (fun hh => ho ((ie c).1 hh))
   exact ⟨fun hh => k1 (bn c hh),k2⟩,
  fun a ha p hp => by rwa [c6 a ha] at hp,fun _ _ => rfl,fun _ _ => rfl,
  fun a ha c o hc => by
   rw [c6 a ha] at hc;unfold csize;rw [cz c (.inr ⟨a,o,hc⟩)],
  ⟨rfl,fun c hc => cz c (.inl hc)⟩,he.os⟩
 refine ⟨C.lay (nx J) C₁ L,⟨fun a O hg => ?_,fun a O hg => ?_,fun a p hp => ?_,fun a d c o o' ha hd => ?_,fun a c o ha => ?_,fun c hc => ?_,fun a c o ha hc => ?_⟩,e,R.ren hmv v x hr⟩
 ·rw [He] at hg
  by_cases ha : a < nx J
  ·rw [if_pos ha] at hg;refine (hs.obj a O hg).ext e ha (c6 a ha) (fun c o hc => cz c (.inr ⟨a,o,hc⟩)) fun m hm kt es' v' hg' => ?_
   rw [He,if_pos hm] at hg';exact ⟨kt,es',v',hg',nl,fun _ => ⟨c6 m hm,fun c o hc => cz c (.inr ⟨m,o,hc⟩)⟩⟩
  ·rw [if_neg ha] at hg
   split at hg
   ·rename_i o' ho'
    cases hg
    have hi : a - nx J < L.length := by
     have := (ae_.1 ho').1; omega
    have hLi : L[a - nx J]? = some L[a - nx J] := ao_ hi;obtain ⟨o₁,o₂,g1,g2,g3⟩ := kf _ _ hLi;rw [ho'] at g3; cases g3;have hl := fe _ _ hLi
    rw [show nx J + (a - nx J) = a by omega] at hl
    have hor := h1.obj _ _ g1;cases o₁ with
    | cells vs =>
     simp only [AO.ren,ac_] at g2; subst g2;obtain ⟨c,o,cs,T,q1,q2,q3⟩ := hor;exact ⟨c,o,cs,T,hl.trans q1,q2,RC.ren hmv vs c o q3⟩
    | map kt es ver =>
     simp only [AO.ren,ac_] at g2; subst g2;obtain ⟨c,E,clock,q1,q2,q3⟩ := hor;obtain ⟨P1,p2,p3⟩ := q3.perm;exact ⟨c,E,clock,hl.trans q1,q2,q3.typed,⟨P1,p2,ER.ren hmv es P1 p3⟩,q3.keys,q3.born,q3.apart⟩
    | iter _ _ _ _ => simp [AO.ren] at g2
    | stamp _ _ _ => simp [AO.ren] at g2
    | loop _ => simp [AO.ren] at g2
   ·exact absurd (hs.bound a O hg) ha
 ·rw [hnx];rw [He] at hg
  by_cases ha : a < nx J
  ·omega
  ·rw [if_neg ha] at hg
   split at hg
   ·rename_i o' ho'
    have := (ae_.1 ho').1; omega
   ·have := hs.bound a O hg; omega
 ·rw [He]
  rcases cq a p hp with ⟨ha,hc⟩ | ⟨i,y,rfl,hi,hc⟩
  ·rw [if_pos ha]; exact hs.dom a p hc
  ·obtain ⟨o₁,o₂,g1,g2,g3⟩ := kf i y hi
   rw [if_neg Om,show nx J + i - nx J = i by omega,g3]
   refine ⟨o₂,rfl,?_⟩;cases o₁ with
   | cells vs => simp only [AO.ren,ac_] at g2; subst g2; rfl
   | map kt es ver => simp only [AO.ren,ac_] at g2; subst g2; rfl
   | iter _ _ _ _ => simp [AO.ren] at g2
   | stamp _ _ _ => simp [AO.ren] at g2
   | loop _ => simp [AO.ren] at g2
 ·rcases cq a _ ha with ⟨ha1,hc⟩ | ⟨i,y,rfl,hi,hc⟩ <;> rcases cq d _ hd with ⟨hd1,kc⟩ | ⟨j,z,rfl,hj,kc⟩
  ·exact hs.inj a d c o o' hc kc
  ·exact absurd (show C₁.res c by rw [hC₁res]; exact .inr ⟨a,o,hc⟩) (h1.rdis z c o' kc)
  ·exact absurd (show C₁.res c by rw [hC₁res]; exact .inr ⟨d,o',kc⟩) (h1.rdis y c o hc)
  ·have := h1.inj y z c o o' hc kc;subst this;rw [Amt hn hi hj]
 ·rcases cq a _ ha with ⟨_,hc⟩ | ⟨i,y,_,_,hc⟩
  ·exact an_ (hs.lt a c o hc) he.size
  ·exact h1.lt y c o hc
 ·exact an_ (hs.rlt c hc) he.size
 ·rcases cq a _ ha with ⟨_,hk⟩ | ⟨i,y,_,_,hk⟩
  ·exact hs.rdis a c o hk hc
  ·exact h1.rdis y c o hk (by rw [hC₁res]; exact .inl hc)
mutual
def AV.closed : AV -> Bool
 | .pr _ _ => false
 | .sr _ _ _ _ _ => false
 | .mp _ => false
 | .it _ => false
 | .stp _ => false
 | .yl _ => false
 | .pv cs => AV.closeds cs
 | .sv cs _ _ _ => AV.closeds cs
 | .fn _ p q => AV.closeds p && AV.closeds q
 | .ifc _ x => AV.closed x
 | .agg cs => AV.closeds cs
 | .tup vs => AV.closeds vs
 | _ => true
def AV.closeds : List AV -> Bool
 | [] => true
 | x :: r => AV.closed x && AV.closeds r
end
section
variable {C C' : Ctx} {N N' : Nat} {w : World}
mutual
theorem R.closed (h : ∀ c,C'.own c -> C.own c) : ∀ (x : AV) (v : Value),x.closed = true -> R C N w x v -> R C' N' w x v
 | .pr _ _,_,k,_ => by simp [AV.closed] at k
 | .sr _ _ _ _ _,_,k,_ => by simp [AV.closed] at k
 | .mp _,_,k,_ => by simp [AV.closed] at k
 | .it _,_,k,_ => by simp [AV.closed] at k
 | .stp _,_,k,_ => by simp [AV.closed] at k
 | .yl _,_,k,_ => by simp [AV.closed] at k
 | .flt _ _,v,k,hr => by unfold R at *; exact hr
 | .pv cs,v,k,hr => by
  simp only [AV.closed] at k;unfold R at *;obtain ⟨c,o,h1,h2,h3⟩ := hr;exact ⟨c,o,h1,fun hne ho => h2 hne (h c ho),RC.closed h cs c o k h3⟩
 | .sv cs sz len cap,v,k,hr => by
  simp only [AV.closed] at k;unfold R at *;obtain ⟨ado,q,h1,h2,h3,h4,h0,hh⟩ := hr;refine ⟨ado,q,h1,h2,h3,h4,h0,fun ad ha => ?_⟩
  obtain ⟨h5,h6,h7⟩ := hh ad ha;exact ⟨h5,fun hne ho => h6 hne (h _ ho),RC.closed h cs ad.block ad.off k h7⟩
 | .fn f p q,v,k,hr => by
  simp only [AV.closed,ad_] at k;unfold R at *;obtain ⟨a,c,h1,h2,h3⟩ := hr;exact ⟨a,c,h1,RL.closed h p _ k.1 h2,RL.closed h q _ k.2 h3⟩
 | .ifc t x,v,k,hr => by
  simp only [AV.closed] at k;unfold R at *;obtain ⟨y,h1,h2⟩ := hr;exact ⟨y,h1,R.closed h x y k h2⟩
 | .agg cs,v,k,hr => by
  simp only [AV.closed] at k;unfold R at *;obtain ⟨a,h1,h2,h3⟩ := hr;exact ⟨a,h1,RL.closed h cs _ k h2,h3⟩
 | .tup vs,v,k,hr => by
  simp only [AV.closed] at k;unfold R at *;obtain ⟨a,h1,h2⟩ := hr;exact ⟨a,h1,RL.closed h vs _ k h2⟩
 | .any,v,k,hr => by unfold R; trivial
 | .bool x,v,k,hr => by unfold R at *; exact hr
 | .int k' n,v,k,hr => by unfold R at *; exact hr
 | .str l,v,k,hr => by unfold R at *; exact hr
 | .nil y,v,k,hr => by unfold R at *; exact hr
theorem RC.closed (h : ∀ c,C'.own c -> C.own c) : ∀ (cs : List AV) (c o : Nat),AV.closeds cs = true -> RC C N w c cs o -> RC C' N' w c cs o
 | [],c,o,_,_ => by unfold RC; trivial
 | x :: r,c,o,k,hr => by
  simp only [AV.closeds,ad_] at k;unfold RC at *;obtain ⟨⟨v,h1,h2,h3⟩,h4⟩ := hr;exact ⟨⟨v,h1,h2,R.closed h x v k.1 h3⟩,RC.closed h r c (o + 1) k.2 h4⟩
theorem RL.closed (h : ∀ c,C'.own c -> C.own c) : ∀ (l : List AV) (vs : List Value),AV.closeds l = true -> RL C N w l vs -> RL C' N' w l vs
 | [],[],_,_ => by unfold RL; trivial
 | x :: r,v :: s,k,hr => by
  simp only [AV.closeds,ad_] at k;unfold RL at *;exact ⟨R.closed h x v k.1 hr.1,RL.closed h r s k.2 hr.2⟩
 | [],_ :: _,_,hr => by unfold RL at hr; exact hr.elim
 | _ :: _,[],_,hr => by unfold RL at hr; exact hr.elim
end
end
def Akt (L : List Nat) (b : Nat) : List AO -> Option (List AO)
 | [] => some []
 | o :: r => match o.ren L b,Akt L b r with
  | some o',some l => some (o' :: l)
  | _,_ => none
theorem R9 {L : List Nat} {b : Nat} {J : Sto} : ∀ (M : List Nat) (l : List AO),M.length = l.length -> (∀ (i a : Nat),M[i]? = some a -> J.get a = l[i]?) -> Ic L b J M = Akt L b l
 | [],[],_,_ => rfl
 | a :: M,o :: l,hl,h => by
  have h0 := h 0 a rfl;simp only [Ic,Akt];rw [h0];simp only [List.getElem?_cons_zero]
  rw [R9 M l (by simpa using hl) fun i x hx => by simpa using h (i + 1) x (by simpa using hx)]
 | [],_ :: _,hl,_ => by simp at hl
 | _ :: _,[],hl,_ => by simp at hl
def Xz (L : List Nat) (r : Res) : Option (AV × List AO) :=
 match r with
 | some (v,J) => match Ic L 0 J L with
  | some l => some (v.ren L 0,l)
  | none => none
 | none => none
def Ji (a₀ : List AV) (v₀ : AV) (o₀ : List AO) (args : List AV) (J : Sto) : Res :=
 match AV.beqs args a₀ with
 | true => match Akt (List.range o₀.length) (nx J) o₀ with
  | some l => some (v₀.ren (List.range o₀.length) (nx J),Hd l J)
  | none => none
 | false => none
theorem Xd {L : List Nat} {b : Nat} {J : Sto} {M : List Nat} {l : List AO} (h : Ic L b J M = some l) : l.length = M.length := (Ng h).1
theorem Ai5 {E : Env} {lf n f : Nat} {a₀ : List AV} {L : List Nat} {v₀ : AV} {o₀ : List AO} (db : Bc E (H5 E lf n)) (hgl : ∀ g,E.gl g = none) (hlp : E.loops = []) (hcl : AV.closeds a₀ = true) (hL : L.Nodup)
  (bz : Xz L (H5 E lf n (.fn f) a₀ ⟨.e,0⟩) = some (v₀,o₀)) : Ck E f (Ji a₀ v₀ o₀) := by
 intro C w J args vs v J' hs hg bm h;unfold Ji at h
 split at h
 ·rename_i hb
  have := AV.beqs_eq _ _ hb;subst this
  split at h
  ·rename_i l hl
   cases h;unfold Xz at bz
   split at bz
   ·rename_i v₁ J₁ ca
    split at bz
    ·rename_i l₀ hl₀
     cases bz
     obtain ⟨ii,hc⟩ := db.fn f C.iso w ⟨.e,0⟩ args vs v₁ J₁ hs.iso ⟨fun g cs hh => (by rw [hgl g] at hh; cases hh),fun c P hc => by rw [C.iso_own]; exact hg.2.1 c P hc,fun L hL => by rw [hlp] at hL; cases hL⟩
      (RL.closed (fun c hc => by rwa [C.iso_own] at hc) _ _ hcl bm) ca
     refine ⟨ii,hc.mono fun e w' he => ?_⟩
     cases e with
     | returned x =>
      obtain ⟨C₁,h1,h2,h3⟩ := he;obtain ⟨C₂,k1,k2,k3⟩ := Aks hs.iso h1 (C.iso_own).symm rfl h2 h3 hL hl₀;have bx := Xd hl₀
      have hl2 : Ic (List.range o₀.length) (nx J) (Hd o₀ ⟨.e,0⟩) (List.range o₀.length) = some l := by
       rw [R9 _ o₀ (by simp) fun i a ha => ?_]
       ·exact hl
       ·obtain ⟨g1,g2⟩ := ae_.1 ha
        simp at g1 g2
        subst g2
        rw [He,if_neg (by simp [nx])]
        simp only [nx,el_];rw [ao_ g1]
      exact Aks hs k1 rfl rfl k2 k3 List.nodup_range hl2
     | panicked _ => exact he.elim
     | outgrown => exact he.elim
    ·cases bz
   ·cases bz
  ·cases h
 ·cases h
def Aoy (a₀ : List AV) (v₀ : AV) (args : List AV) (J : Sto) : Res :=
 match AV.beqs args a₀ with
 | true => some (v₀,J)
 | false => none
mutual
theorem Sa {L : List Nat} {b : Nat} : ∀ (x : AV),x.closed = true -> x.ren L b = x
 | .pr _ _,k => by simp [AV.closed] at k
 | .sr _ _ _ _ _,k => by simp [AV.closed] at k
 | .mp _,k => by simp [AV.closed] at k
 | .it _,k => by simp [AV.closed] at k
 | .stp _,k => by simp [AV.closed] at k
 | .yl _,k => by simp [AV.closed] at k
 | .flt _ _,_ => by unfold AV.ren; rfl
 | .pv cs,k => by simp only [AV.closed] at k; unfold AV.ren; rw [Gc cs k]
 | .sv cs _ _ _,k => by simp only [AV.closed] at k; unfold AV.ren; rw [Gc cs k]
 | .fn f p q,k => by simp only [AV.closed,ad_] at k; unfold AV.ren; rw [Gc p k.1,Gc q k.2]
 | .ifc t x,k => by simp only [AV.closed] at k; unfold AV.ren; rw [Sa x k]
 | .agg cs,k => by simp only [AV.closed] at k; unfold AV.ren; rw [Gc cs k]
 | .tup cs,k => by simp only [AV.closed] at k; unfold AV.ren; rw [Gc cs k]
 | .any,_ => by unfold AV.ren; rfl
 | .bool _,_ => by unfold AV.ren; rfl
 | .int _ _,_ => by unfold AV.ren; rfl
 | .str _,_ => by unfold AV.ren; rfl
 | .nil _,_ => by unfold AV.ren; rfl
theorem Gc {L : List Nat} {b : Nat} : ∀ (l : List AV),AV.closeds l = true -> AV.rens L b l = l
 | [],_ => by unfold AV.rens; rfl
 | x :: r,k => by
  simp only [AV.closeds,ad_] at k;unfold AV.rens;rw [Sa x k.1,Gc r k.2]
end
theorem Agb {E : Env} {lf n f : Nat} {a₀ : List AV} {v₀ : AV} (db : Bc E (H5 E lf n)) (hgl : ∀ g,E.gl g = none) (hlp : E.loops = []) (hcl : AV.closeds a₀ = true) (hv : v₀.closed = true)
  (bz : Xz [] (H5 E lf n (.fn f) a₀ ⟨.e,0⟩) = some (v₀,[])) : Ck E f (Aoy a₀ v₀) := by
 intro C w J args vs v J' hs hg bm h;refine Ai5 db hgl hlp hcl fd_ bz C w J args vs v J' hs hg bm ?_;unfold Aoy at h;unfold Ji
 split at h
 ·rename_i hb
  cases h;rw [Sa _ hv]
  rfl
 ·cases h
theorem Ck.env {E E' : Env} (hP : E.P = E'.P) (hg : E.gl = E'.gl) (hh : E.hold = E'.hold) (hl : E.loops = E'.loops) {f : Nat} {g : List AV -> Sto -> Res} (h : Ck E f g) : Ck E' f g := by
 obtain ⟨P,gl,s,d,b,o,lp,rg⟩ := E;obtain ⟨P',gl',s',d',b',o',lp',rg'⟩ := E';simp only at hP hg hh hl;subst hP hg hh hl;exact h
end
structure Base (E : Env) (ops : Array Oper) (nt : Nat) (df : List (Nat × List AV)) (tm₀ : Tr AV) (C₀ : Ctx) (N₀ : Nat) (w₀ : World)
  (U : Nat -> AV) (L : Nat -> Bool) (J : Sto) (C : Ctx) (w : World) (a : Act) : Prop where
 closed : Zv ops L
 sim : Sim E.P C w J
 glob : Fh C (nx J) w E
 slots : ∀ t x,Ch ops U tm₀ L ops.size t = some x -> R C (nx J) w x (a.tmps.getD t undef)
 size : a.tmps.size = nt
 dfs : DR C (nx J) w df a.defers
 ext : Ext C₀ N₀ w₀ C (nx J) w
def Conv (E : Env) (U : Nat -> AV) (J : Sto) (U' : Nat -> AV) (J' : Sto) : Prop :=
 ∀ C w,Sim E.P C w J -> ∃ C',Sim E.P C' w J' /\ Ext C (nx J) w C' (nx J') w /\ ∀ i x,R C (nx J) w (U i) x -> R C' (nx J') w (U' i) x
theorem Conv.refl {E : Env} {U U' : Nat -> AV} {J : Sto} (h : ∀ i,U i = U' i) : Conv E U J U' J := fun C _ hs => ⟨C,hs,bv_ _ _ _,fun i x hx => by rw [← h i]; exact hx⟩
abbrev fz_ := @Conv.refl
section
variable {E : Env} {ops : Array Oper} {Rr : Rec} {nt : Nat} {df : List (Nat × List AV)} {tm₀ : Tr AV} {V U U' : Nat -> AV} {C₀ C : Ctx} {N₀ : Nat} {w₀ w : World} {L : Nat -> Bool} {J J' : Sto} {a : Act}
theorem Mc {t : Nat} : ∀ {k : Nat},(∀ i,i < k -> (ops[i]?).bind (·.dst) = some t -> L i = true -> U i = U' i) -> Ch ops U tm₀ L k t = Ch ops U' tm₀ L k t
 | 0,_ => rfl
 | i + 1,h => by
  simp only [Ch];rw [Mc fun j hj => h j Om]
  by_cases hd : L i = true /\ (ops[i]?).bind (·.dst) = some t
  ·rw [if_pos hd,if_pos hd,h i Om hd.2 hd.1]
  ·rw [if_neg hd,if_neg hd]
theorem Xe {t : Nat} : ∀ (k : Nat),(∃ i,Ch ops U tm₀ L k t = some (U i) /\ Ch ops U' tm₀ L k t = some (U' i)) ∨ (Ch ops U tm₀ L k t = tm₀.get t /\ Ch ops U' tm₀ L k t = tm₀.get t)
 | 0 => .inr ⟨rfl,rfl⟩
 | i + 1 => by
  simp only [Ch]
  by_cases hd : L i = true /\ (ops[i]?).bind (·.dst) = some t
  ·rw [if_pos hd,if_pos hd]; exact .inl ⟨i,rfl,rfl⟩
  ·rw [if_neg hd,if_neg hd]; exact Xe i
theorem Base.conv (h : Base E ops nt df tm₀ C₀ N₀ w₀ U L J C w a) (hc : Conv E U J U' J') : ∃ C',Base E ops nt df tm₀ C₀ N₀ w₀ U' L J' C' w a := by
 obtain ⟨C',h1,h2,h3⟩ := hc C w h.sim;refine ⟨C',h.closed,h1,h.glob.ext h2,fun t x hx => ?_,h.size,h.dfs.ext h2,h.ext.trans h2⟩
 rcases Xe (ops := ops) (U := U) (U' := U') (tm₀ := tm₀) (L := L) (t := t) ops.size with ⟨i,e1,e2⟩ | ⟨e1,e2⟩
 ·rw [e2] at hx; cases hx;exact h3 i _ (h.slots t _ e1)
 ·rw [e2,← e1] at hx;exact R.ext h2 _ _ (h.slots t x hx)
theorem Base.congr (h : Base E ops nt df tm₀ C₀ N₀ w₀ U L J C w a) (hu : ∀ i,L i = true -> U i = U' i) : Base E ops nt df tm₀ C₀ N₀ w₀ U' L J C w a :=
 ⟨h.closed,h.sim,h.glob,fun t x hx => h.slots t x (by rw [Mc fun i _ _ hi => hu i hi]; exact hx),h.size,h.dfs,h.ext⟩
theorem Base.next (hsl : I8 ops (Region.before ops).toList = true) (iv : Base E ops nt df tm₀ C₀ N₀ w₀ U L J C w a) {j : Nat} {o : Oper} (ho : ops[j]? = some o) (hL : L j = false) (hr : ∀ i,((Region.before ops).getD j 0).testBit i = true -> L i = true)
  (hdn : ∀ d,o.dst = some d -> d < nt) {v : AV} {C' : Ctx} {w' : World} {x : Value} (hs : Sim E.P C' w' J') (he : Ext C (nx J) w C' (nx J') w') (hx : R C' (nx J') w' v x) :
  Base E ops nt df tm₀ C₀ N₀ w₀ (fun i => if i = j then v else U i) (fun i => L i || i == j) J' C' w' (a.put o.dst x) := by
 have hj := (ar_.1 ho).1
 have hUL : ∀ i,L i = true -> U i = (if i = j then v else U i) := fun i hi => by
  rw [if_neg]; intro hh; subst hh; rw [hL] at hi; cases hi
 refine ⟨fun i hi k hk => ?_,hs,iv.glob.ext he,fun t y hy => ?_,?_,?_,iv.ext.trans he⟩
 ·rw [bc_] at hi ⊢
  rcases hi with hi | hi
  ·exact .inl (iv.closed i hi k hk)
  ·have : i = j := by simpa using hi
   subst this; exact .inl (hr k hk)
 ·by_cases hd : (ops[j]?).bind (·.dst) = some t
  ·have hd' : o.dst = some t := by rw [ho] at hd; exact hd
   rw [Aca hj iv.closed hL (Nf hsl ho (.inr hd')) hd] at hy;simp only [if_true] at hy;cases hy;have := hdn t hd';rw [hd']
   have : t < a.tmps.size := by rw [iv.size]; exact this
   simp [Act.put,this]; exact hx
  ·rw [Zw hd,← Mc (U := U) fun i _ _ hi => hUL i hi] at hy
   have h1 := R.ext he _ _ (iv.slots t y hy);cases hod : o.dst with
   | none => exact h1
   | some d =>
    have hne : d ≠ t := fun hh => hd (by rw [ho]; simp [hod,hh])
    simpa [Act.put,ce_ hne] using h1
 ·cases hod : o.dst <;> simp [Act.put,iv.size]
 ·have : (a.put o.dst x).defers = a.defers := by cases o.dst <;> rfl
  rw [this]; exact iv.dfs.ext he
theorem Base.step (hR : Bc E Rr) (hsl : I8 ops (Region.before ops).toList = true) (iv : Base E ops nt df tm₀ C₀ N₀ w₀ U L J C w a) {j : Nat} {o : Oper} (ho : ops[j]? = some o) (hL : L j = false) (hr : ∀ i,((Region.before ops).getD j 0).testBit i = true -> L i = true)
  (hdn : ∀ d,o.dst = some d -> d < nt) {Tj : Tr AV} (hT : ∀ t,Tj.get t = Ch ops V tm₀ (fun _ => true) j t) (hU : ∀ i,((Region.before ops).getD j 0).testBit i = true -> U i = V i) {v : AV} (h1 : Af5 E ops.toList Rr o Tj J v J')
  {K : Act -> World -> Prop} {Q : Exit -> Act -> World -> Prop} (hK : ∀ C' w' a',Base E ops nt df tm₀ C₀ N₀ w₀ (fun i => if i = j then v else U i) (fun i => L i || i == j) J' C' w' a' -> K a' w') {ro : Option Nat} {n : Nat} : wpOpIn (C1 ro) n E.P ops Q j K a w := by
 have hj := (ar_.1 ho).1
 have ek : ∀ t ∈ o.looksAt ops,Ch ops U tm₀ L ops.size t = Tj.get t := fun t ht => by
  have kg := Nf hsl ho (.inl ht);rw [hT,Af6 Om iv.closed hL hr kg];exact Mc fun i hi hd _ => hU i ((kg i Om hd).1 hi)
 have st : SSt E C w ⟨only Tj (o.looksAt ops),nt,df,J⟩ a := ⟨iv.sim,iv.glob,fun t y hy => by
  obtain ⟨k1,k2⟩ := P7 hy
  exact iv.slots t y (by rw [ek t k1]; exact k2),iv.size,iv.dfs⟩
 have hgc : Cn ops.toList o (only Tj (o.looksAt ops)) = Cn ops.toList o Tj := T5 fun t ht => Q4 ht
 have hoc : ∀ τ,opA E o.op Rr (only Tj (o.looksAt ops)) τ = opA E o.op Rr Tj τ := fun τ => Ab4 (Acc fun t ht => Q4 ht)
 unfold wpOpIn;simp only [ho]
 rcases h1 with ⟨hg,hv⟩ | ⟨hg,hv,hJ⟩
 ·rw [← hgc] at hg;have hw := El (b := true) st.tmps hg;rw [if_pos hw]
  exact Q1 hR st (by rw [hoc]; exact hv) fun C' w' x k1 k2 k3 => hK _ _ _ (iv.next hsl ho hL hr hdn k1 k2 k3)
 ·rw [← hgc] at hg;have hw := El (b := false) st.tmps hg
  rw [if_neg (by rw [hw]; simp)]
  refine ⟨fun _ _ => trivial,?_⟩
  subst hJ
  exact hK _ _ _ (iv.next hsl ho hL hr hdn iv.sim (bv_ _ _ _) (by rw [hv]; exact P0))
theorem Ary {es D : List Nat} {k : Nat} (hc : Zv ops L) (hes : ∀ e ∈ es,L e = true ↔ e ∈ D) (hL : L k = false) (hr : ∀ i,((Region.before ops).getD k 0).testBit i = true -> L i = true) : Aff (Region.before ops).toList es D k = true := by
 unfold Aff;rw [bu_];intro e he;rw [Gq,Gq];cases hd : D.contains e with
 | true =>
  simp only;rw [bt_];rw [bs_];intro hh
  have := hc e ((hes e he).2 (by simpa using hd)) k hh
  rw [hL] at this; cases this
 | false =>
  simp only;rw [bt_];rw [bs_];intro hh;have := (hes e he).1 (hr e hh);rw [← List.contains_iff_mem,hd] at this; cases this
structure Plan (E : Env) (ops : Array Oper) (Rr : Rec) (nt : Nat) (tm₀ : Tr AV) (es : List Nat) (V : Nat -> AV) (T : Nat -> Tr AV) (nds : List Nd) : Prop where
 slots : I8 ops (Region.before ops).toList = true
 edges : Ld ops = true
 effs : ∀ (k : Nat) (o : Oper),ops[k]? = some o -> (Cg (By E o.op) = true ↔ k ∈ es)
 get : ∀ k,k <= ops.size -> ∀ t,(T k).get t = Ch ops V tm₀ (fun _ => true) k t
 dst : ∀ (k : Nat) (o : Oper),ops[k]? = some o -> ∀ d,o.dst = some d -> d < nt
 sub : ∀ c ∈ nds,∀ k ∈ c.D,k ∈ es
 ov : ∀ c ∈ nds,∀ k,k ∉ c.D -> ovr c.U V k = V k
 seen : ∀ c ∈ nds,∀ k,k < ops.size -> k ∉ c.D -> Aff (Region.before ops).toList es c.D k = true -> ∀ i,((Region.before ops).getD k 0).testBit i = true -> ovr c.U V i = V i
 calm : ∀ c ∈ nds,∀ (k : Nat) (o : Oper),ops[k]? = some o -> k ∉ es -> Aff (Region.before ops).toList es c.D k = true -> Af5 E ops.toList Rr o (T k) c.J (V k) c.J
 eff : ∀ c ∈ nds,∀ (k : Nat) (o : Oper),ops[k]? = some o -> k ∈ es -> k ∉ c.D -> Aff (Region.before ops).toList es c.D k = true ->
  ∃ v J' c',Af5 E ops.toList Rr o (T k) c.J v J' /\ c' ∈ nds /\ (∀ e ∈ es,e ∈ c'.D ↔ e ∈ c.D ∨ e = k) /\ Conv E (fun i => if i = k then v else ovr c.U V i) J' (ovr c'.U V) c'.J
theorem Zy {es : List Nat} {T : Nat -> Tr AV} {nds : List Nd} (hR : Bc E Rr) (pl : Plan E ops Rr nt tm₀ es V T nds) {Q : Exit -> Act -> World -> Prop}
  (hQ : ∀ c ∈ nds,∀ (L : Nat -> Bool) C w a,(∀ e ∈ es,L e = true ↔ e ∈ c.D) -> (∀ i,i < ops.size -> L i = true) -> Base E ops nt df tm₀ C₀ N₀ w₀ (ovr c.U V) L c.J C w a -> Q .normal a w) {ro : Option Nat} {n : Nat} :
  ∀ (fuel : Nat) (listed : Array Bool) (c : Nd) (C : Ctx) (w : World) (a : Act),c ∈ nds -> listed.size = ops.size -> P8 (fun i => listed.getD i false) ops.size = fuel -> (∀ e ∈ es,listed.getD e false = true ↔ e ∈ c.D) ->
   Base E ops nt df tm₀ C₀ N₀ w₀ (ovr c.U V) (fun i => listed.getD i false) c.J C w a -> wpAnyIn (C1 ro) n E.P .any ops Q fuel listed a w
 | 0,listed,c,C,w,a,hc,hs,ht,hes,iv => by
  have bt := Vu ht;refine ⟨?_,hQ c hc _ C w a hes bt iv⟩;rw [List.eq_nil_iff_forall_not_mem];intro j hj;obtain ⟨h1,o,ho,_⟩ := mem_ready.1 hj;have hlt := (ar_.1 ho).1;have h2 := bt j hlt;simp only [ay_] at h1 h2
  rw [bw_ (by omega : j < listed.size)] at h1 h2
  simp only [ee_] at h1 h2;rw [h1] at h2; cases h2
 | fuel + 1,listed,c,C,w,a,hc,hs,ht,hes,iv => by
  refine ⟨fun h0 => hQ c hc _ C w a hes (Acb pl.edges hs h0) iv,fun j hj => ?_⟩
  obtain ⟨h1,o,ho,bt⟩ := mem_ready.1 hj;have hlt := (ar_.1 ho).1
  have hL : listed.getD j false = false := by
   simp only [ay_] at h1 ⊢
   rw [bw_ (by omega : j < listed.size)] at h1 ⊢
   exact h1
  have hr : ∀ i,((Region.before ops).getD j 0).testBit i = true -> listed.getD i false = true := fun i hi => by
   obtain ⟨e,he,hb,h⟩ := W7 ho hi;have hon := bt e he hb
   rcases h with rfl | h
   ·exact hon
   ·exact iv.closed _ hon i h
  have hok := Ary (es := es) (D := c.D) iv.closed hes hL hr
  have hjD : j ∉ c.D := fun hh => by
   have := (hes j (pl.sub c hc j hh)).2 hh;rw [hL] at this; cases this
  have em : (fun i => (listed.setIfInBounds j true).getD i false) = fun i => listed.getD i false || i == j := funext fun i => T4 hs hlt i
  have ik : P8 (fun i => listed.getD i false || i == j) ops.size = fuel := by
   have := Zx (L := fun i => listed.getD i false) hL hlt
   omega
  by_cases hje : j ∈ es
  ·obtain ⟨v,J',c',k1,k2,k3,k4⟩ := pl.eff c hc j o ho hje hjD hok;refine iv.step hR pl.slots ho hL hr (pl.dst j o ho) (pl.get j Om) (pl.seen c hc j hlt hjD hok) k1 fun C' w' a' iv' => ?_
   obtain ⟨C'',iv''⟩ := iv'.conv k4
   refine Zy hR pl hQ fuel _ c' C'' w' a' k2 (by simp [hs]) (by rw [em]; exact ik) (fun e he => ?_) (by rw [em]; exact iv'')
   rw [T4 hs hlt,bc_,hes e he,k3 e he,beq_iff_eq]
  ·refine iv.step hR pl.slots ho hL hr (pl.dst j o ho) (pl.get j Om) (pl.seen c hc j hlt hjD hok) (pl.calm c hc j o ho hje hok) fun C' w' a' iv' => ?_
   refine Zy hR pl hQ fuel _ c C' w' a' hc (by simp [hs]) (by rw [em]; exact ik) (fun e he => ?_) (by
    rw [em];refine iv'.congr fun i _ => ?_
    by_cases hij : i = j
    ·rw [if_pos hij,hij,pl.ov c hc j hjD]
    ·rw [if_neg hij])
   rw [T4 hs hlt,bc_,hes e he,beq_iff_eq]
   constructor
   ·rintro (h | h)
    ·exact h
    ·subst h; exact absurd he hje
   ·exact .inl
theorem Agc {es : List Nat} {T : Nat -> Tr AV} {nds : List Nd} {s s' : St} {id : Nat} (hm : E.P.follows .mixedOrders = true) (hR : Bc E Rr) (st : SSt E C w s a) (pl : Plan E ops Rr s.nt s.tm es V T nds)
  (h0 : (⟨[],s.sto,[]⟩ : Nd) ∈ nds) (hf : ∀ c ∈ nds,(∀ e ∈ es,e ∈ c.D) -> (∀ k,ovr c.U V k = V k) /\ c.J = s'.sto) (ht : s'.tm = T ops.size) (hn : s'.nt = s.nt) (hdf : s'.df = s.df) (gn : ∀ e ∈ es,e < ops.size) {ro : Option Nat} {n : Nat} :
  (Code.region id ops true).wpIn (C1 ro) n E.P (Jt E C (nx s.sto) w [(.normal,s')]) a w := by
 refine wpIn_region_any hm ?_;obtain ⟨t1,t2⟩ := st.sim.same (w' := { w with drawn := w.drawn + 1 }) nl (fun _ _ => rfl) ⟨rfl,rfl⟩
 have dg : ∀ i,(Array.replicate ops.size false).getD i false = false := fun i => by
  rw [ay_,Array.getElem?_replicate]; split <;> rfl
 refine Zy (C₀ := C) (N₀ := nx s.sto) (w₀ := w) (df := s.df) hR pl (fun c hc L C' w' a' hes bt iv => ?_) ops.size _ ⟨[],s.sto,[]⟩ C _ a h0 (by simp) (Vv dg) (fun e _ => ?_) ?_
 ·obtain ⟨q1,q2⟩ := hf c hc fun e he => (hes e he).1 (bt e (gn e he))
  refine ⟨(.normal,s'),bj_ _,C',rfl,?_,by rw [← q2]; exact iv.ext⟩
  refine ⟨by rw [← q2]; exact iv.sim,by rw [← q2]; exact iv.glob,fun t x hx => ?_,by rw [hn]; exact iv.size,by rw [hdf,← q2]; exact iv.dfs⟩
  rw [← q2];refine iv.slots t x ?_;rw [← hx,ht,pl.get ops.size nl,Mc (U' := V) fun i _ _ _ => q1 i]
  exact G6 fun i hi _ => bt i hi
 ·rw [dg]; simp
 ·refine ⟨fun j hj => ?_,t1,st.glob.ext t2,fun t x hx => ?_,st.size,st.dfs.ext t2,t2⟩
  ·rw [dg] at hj; cases hj
  ·refine R.ext t2 _ _ (st.tmps t x ?_);rw [← hx,Ia (k := 0) (ch_ _) fun i _ _ _ => dg i]; rfl
end
section
variable {E : Env} {Rr : Rec} {J τ : Sto} {tm : Tr AV}
theorem Qa {t : Nat} {x y : Operand} {v : AV} {J' : Sto} (h : opA E (.makeSlice t x y) Rr tm J = some (v,J')) :
  ∃ sz l c A,v = .sr (nx J) 0 sz l c /\ J' = J.new (.cells A) /\ ∀ τ,opA E (.makeSlice t x y) Rr tm τ = some (.sr (nx τ) 0 sz l c,τ.new (.cells A)) := by
 simp only [opA,Bd] at h ⊢
 repeat' split at h
 all_goals try (cases h; done)
 all_goals
  unfold Mr at h ⊢
  split at h
  ·rename_i l c hl hc
   cases hb : (Nat.ble l c && Nat.ble (c * (_ + 1)) sizeLim) with
   | false => rw [hb] at h; cases h
   | true => rw [hb] at h; cases h; exact ⟨_,_,_,_,rfl,rfl,fun τ => by simp only [hb,cond_true]⟩
  ·cases h
def Id (C : Ctx) (n a b : Nat) : Ctx := { C with loc := fun x => if x = n + 2 then C.loc a else if x = n + 3 then C.loc b else if x = n ∨ x = n + 1 then none else C.loc x }
theorem Conv.rename {A B : List AV} {a b : Nat} {U V : Nat -> AV} {ρ : Sto} (hab : (a = nx J /\ b = nx J + 1) ∨ (a = nx J + 1 /\ b = nx J)) (hn : nx τ = nx J + 2) (hr : nx ρ = nx J + 4)
  (ha : τ.get a = some (.cells A)) (hb : τ.get b = some (.cells B))
  (hg : ∀ x,ρ.get x = if x = nx J + 3 then some (.cells B) else if x = nx J + 2 then some (.cells A) else if x = nx J ∨ x = nx J + 1 then none else τ.get x)
  (hU : ∀ x,U x = V x ∨ (∃ sz l c,U x = .sr a 0 sz l c /\ V x = .sr (nx J + 2) 0 sz l c) ∨ (∃ sz l c,U x = .sr b 0 sz l c /\ V x = .sr (nx J + 3) 0 sz l c)) : Conv E U τ V ρ := by
 intro C w h
 have l2 : (Id C (nx J) a b).loc (nx J + 2) = C.loc a := by simp [Id]
 have l3 : (Id C (nx J) a b).loc (nx J + 3) = C.loc b := by simp [Id]
 have l0 : ∀ x,x = nx J ∨ x = nx J + 1 -> (Id C (nx J) a b).loc x = none := fun x hx => by
  simp only [Id]; rw [if_neg Om,if_neg Om,if_pos hx]
 have lo : ∀ x,x ≠ nx J + 2 -> x ≠ nx J + 3 -> ¬ (x = nx J ∨ x = nx J + 1) -> (Id C (nx J) a b).loc x = C.loc x := fun x h1 h2 h3 => by
  simp only [Id]; rw [if_neg h1,if_neg h2,if_neg h3]
 have back : ∀ x p,(Id C (nx J) a b).loc x = some p -> ∃ y,C.loc y = some p := fun x p hx => by
  by_cases h1 : x = nx J + 2
  ·subst h1; rw [l2] at hx; exact ⟨a,hx⟩
  ·by_cases h2 : x = nx J + 3
   ·subst h2; rw [l3] at hx; exact ⟨b,hx⟩
   ·by_cases h3 : x = nx J ∨ x = nx J + 1
    ·rw [l0 x h3] at hx; cases hx
    ·rw [lo x h1 h2 h3] at hx; exact ⟨x,hx⟩
 have nb : ∀ x p,nx τ <= x -> C.loc x = some p -> False := fun x p hx hl => by
  obtain ⟨O,h1,_⟩ := h.dom x p hl;have := h.bound x O h1; omega
 have e : Ext C (nx τ) w (Id C (nx J) a b) (nx ρ) w := ⟨by omega,nl,
  fun q _ ho => ⟨fun hh => hh.elim (fun hr => ho (.inl hr)) fun ⟨x,o,hx⟩ => by
   obtain ⟨y,hy⟩ := back x _ hx;exact ho (.inr ⟨y,o,hy⟩),rfl⟩,
  fun x hx p hp => by
   by_cases h3 : x = nx J ∨ x = nx J + 1
   ·rw [l0 x h3] at hp; cases hp
   ·rw [lo x Om Om h3] at hp; exact hp,
  fun _ _ => rfl,fun _ _ => rfl,fun _ _ _ _ _ => rfl,⟨rfl,fun _ _ => rfl⟩,rfl,rfl⟩
 have cells : ∀ y D,τ.get y = some (.cells D) -> ∀ x,(Id C (nx J) a b).loc x = C.loc y -> OR E.P (Id C (nx J) a b) w ρ x (.cells D) := fun y D hy x hx => by
  obtain ⟨c,o,cs,T,h1,h2,h3⟩ := h.obj y _ hy
  exact ⟨c,o,cs,T,by rw [hx]; exact h1,h2,fw_ e c rfl D o h3⟩
 refine ⟨Id C (nx J) a b,⟨fun x X hx => ?_,fun x X hx => ?_,fun x p hp => ?_,fun x y c o o' hx hy => ?_,fun x c o hx => ?_,h.rlt,fun x c o hx hr' => ?_⟩,e,fun i x hx => ?_⟩
 ·rw [hg] at hx
  by_cases h1 : x = nx J + 3
  ·rw [if_pos h1] at hx; cases hx; subst h1; exact cells b B hb _ l3
  ·rw [if_neg h1] at hx
   by_cases h2 : x = nx J + 2
   ·rw [if_pos h2] at hx; cases hx; subst h2; exact cells a A ha _ l2
   ·rw [if_neg h2] at hx
    by_cases h3 : x = nx J ∨ x = nx J + 1
    ·rw [if_pos h3] at hx; cases hx
    ·rw [if_neg h3] at hx;refine (h.obj x X hx).ext e (h.bound x X hx) (lo x h2 h1 h3) (fun _ _ _ => rfl) fun m hm kt es' v' hg' => ?_
     rw [hg,if_neg Om,if_neg Om] at hg'
     by_cases h4 : m = nx J ∨ m = nx J + 1
     ·rw [if_pos h4] at hg'; cases hg'
     ·rw [if_neg h4] at hg';exact ⟨kt,es',v',hg',nl,fun _ => ⟨lo m Om Om h4,fun _ _ _ => rfl⟩⟩
 ·rw [hg] at hx
  by_cases h1 : x = nx J + 3
  ·omega
  ·rw [if_neg h1] at hx
   by_cases h2 : x = nx J + 2
   ·omega
   ·rw [if_neg h2] at hx
    by_cases h3 : x = nx J ∨ x = nx J + 1
    ·rw [if_pos h3] at hx; cases hx
    ·rw [if_neg h3] at hx; have := h.bound x X hx; omega
 ·by_cases h1 : x = nx J + 3
  ·exact ⟨.cells B,by rw [hg,if_pos h1],rfl⟩
  ·by_cases h2 : x = nx J + 2
   ·exact ⟨.cells A,by rw [hg,if_neg h1,if_pos h2],rfl⟩
   ·by_cases h3 : x = nx J ∨ x = nx J + 1
    ·rw [l0 x h3] at hp; cases hp
    ·rw [lo x h2 h1 h3] at hp;obtain ⟨O,k1,k2⟩ := h.dom x p hp
     exact ⟨O,by rw [hg,if_neg h1,if_neg h2,if_neg h3]; exact k1,k2⟩
 ·have key : ∀ x p,(Id C (nx J) a b).loc x = some p -> (x = nx J + 2 /\ C.loc a = some p) ∨ (x = nx J + 3 /\ C.loc b = some p) ∨ (C.loc x = some p /\ x < nx J) := fun x p hx => by
   by_cases h1 : x = nx J + 2
   ·subst h1; rw [l2] at hx; exact .inl ⟨rfl,hx⟩
   ·by_cases h2 : x = nx J + 3
    ·subst h2; rw [l3] at hx; exact .inr (.inl ⟨rfl,hx⟩)
    ·by_cases h3 : x = nx J ∨ x = nx J + 1
     ·rw [l0 x h3] at hx; cases hx
     ·rw [lo x h1 h2 h3] at hx;refine .inr (.inr ⟨hx,?_⟩)
      rcases Nat.lt_or_ge x (nx τ) with hlt | hge
      ·omega
      ·exact (nb x p hge hx).elim
  rcases key x _ hx with ⟨e1,k1⟩ | ⟨e1,k1⟩ | ⟨k1,e1⟩ <;> rcases key y _ hy with ⟨e2,k2⟩ | ⟨e2,k2⟩ | ⟨k2,e2⟩ <;> have := h.inj _ _ _ _ _ k1 k2 <;> omega
 ·obtain ⟨y,hy⟩ := back x _ hx; exact h.lt y c o hy
 ·obtain ⟨y,hy⟩ := back x _ hx; exact h.rdis y c o hy hr'
 ·rcases hU i with h1 | ⟨sz,l,c,h1,h2⟩ | ⟨sz,l,c,h1,h2⟩
  ·rw [← h1]; exact R.ext e _ _ hx
  ·rw [h1] at hx; rw [h2];unfold R at hx ⊢;obtain ⟨ad,k,q1,q2,q3,q4,q5⟩ := hx
   exact ⟨ad,k,q1,by omega,q3,q4,fun c o hc => q5 c o (by rw [← l2]; exact hc)⟩
  ·rw [h1] at hx; rw [h2];unfold R at hx ⊢;obtain ⟨ad,k,q1,q2,q3,q4,q5⟩ := hx
   exact ⟨ad,k,q1,by omega,q3,q4,fun c o hc => q5 c o (by rw [← l3]; exact hc)⟩
theorem Tr.put_mkL {α : Type} {f k : Nat} {x : Option α} {v : Option α} {l r : Tr α} : Tr.mkL v l r = .n v l r := by cases l <;> rfl
theorem Tr.put_mkR {α : Type} {v : Option α} {l r : Tr α} : Tr.mkR v l r = .n v l r := by cases r <;> rfl
theorem Tr.put_comm {α : Type} : ∀ (f g : Nat) (t : Tr α) (a b : Nat) (x y : Option α),a ≠ b -> a < f -> b < g -> (t.put f a x).put g b y = (t.put g b y).put f a x
 | 0,_,_,_,_,_,_,_,h,_ => by omega
 | _ + 1,0,_,_,_,_,_,_,_,h => by omega
 | f + 1,g + 1,t,a,b,x,y,hne,ha,hb => by
  have kj : ∀ {c d : Nat},c + 1 < d + 1 -> c / 2 < d := fun h => by omega
  cases a with
  | zero =>
   cases b with
   | zero => exact absurd rfl hne
   | succ b =>
    cases hb2 : Nat.beq (b % 2) 0 <;> cases t <;> simp only [Tr.put,hb2,cond_true,cond_false,Tr.put_mkL (f := 0) (k := 0) (x := none),Tr.put_mkR]
  | succ a =>
   cases b with
   | zero =>
    cases ha2 : Nat.beq (a % 2) 0 <;> cases t <;> simp only [Tr.put,ha2,cond_true,cond_false,Tr.put_mkL (f := 0) (k := 0) (x := none),Tr.put_mkR]
   | succ b =>
    have hd : Nat.beq (a % 2) 0 = Nat.beq (b % 2) 0 -> a / 2 ≠ b / 2 := fun h he => by
     have h1 : a % 2 = 0 ↔ b % 2 = 0 := ⟨fun q => aa_ (by rw [← h,q]; rfl),fun q => aa_ (by rw [h,q]; rfl)⟩
     omega
    cases ha2 : Nat.beq (a % 2) 0 <;> cases hb2 : Nat.beq (b % 2) 0 <;> cases t <;> simp only [Tr.put,ha2,hb2,cond_true,cond_false,Tr.put_mkL (f := 0) (k := 0) (x := none),Tr.put_mkR]
    all_goals try rfl
    all_goals rw [Tr.put_comm f g _ _ _ x y (hd (by rw [ha2,hb2])) (kj ha) (kj hb)]
theorem Sto.set_comm {a b : Nat} {x y : AO} (h : a ≠ b) : (J.set a x).set b y = (J.set b y).set a x := by
 cases J;simp only [Sto.set,Dw];rw [Tr.put_comm _ _ _ _ _ _ _ h (bk_ _) (bk_ _)]
theorem Zz {t : Nat} {x y : Operand} {v : AV} {J' : Sto} {a off : Nat} (hx : opd E tm x = .pr a off) (h : opA E (.store t x y) Rr tm J = some (v,J')) :
  v = A5 /\ ∃ vs D,J.get a = some (.cells vs) /\ J' = J.set a (.cells D) /\ ∀ τ,τ.get a = some (.cells vs) -> opA E (.store t x y) Rr tm τ = some (A5,τ.set a (.cells D)) := by
 simp only [opA,Bd] at h ⊢
 split at h
 ·rename_i ti hti
  rw [hx] at h;unfold Vd at h
  split at h
  ·rename_i a' off' l hp hl
   cases hp
   split at h
   ·rename_i vs hvs
    split at h
    ·rename_i D hD
     cases h
     have hg : J.get a = some (.cells vs) := by
      unfold Sto.cells at hvs
      split at hvs
      ·rename_i us hus; cases hvs; exact hus
      ·cases hvs
     refine ⟨rfl,vs,D,hg,rfl,fun τ hτ => ?_⟩
     rw [hx];unfold Vd;simp only [hl,Sto.cells,hτ,hD]
    ·cases h
   ·cases h
  ·cases h
 ·cases h
end
section
variable {E : Env} {ops : List Oper} {Rr : Rec} {T : Nat -> Tr AV} {V : Nat -> AV}
theorem T8 {o : Oper} {tm : Tr AV} {J J' : Sto} {v : AV} (h : Amf E ops Rr o tm J = some (v,J')) : Cn ops o tm = some true /\ opA E o.op Rr tm J = some (v,J') := by
 unfold Amf at h
 split at h
 ·rename_i hg; exact ⟨hg,h⟩
 ·cases h
def Sc (E : Env) (ops : List Oper) (Rr : Rec) (T : Nat -> Tr AV) (V : Nat -> AV) (P : Nd -> Prop) (c : Nd) (next : List Nat) : Prop := ∀ e ∈ next,∃ o v J' c',ops[e]? = some o /\ Af5 E ops Rr o (T e) c.J v J' /\ P c' /\
 (∀ x,x ∈ c'.D ↔ x ∈ c.D ∨ x = e) /\ Conv E (fun i => if i = e then v else ovr c.U V i) J' (ovr c'.U V) c'.J
theorem Sc.mono {P P' : Nd -> Prop} {c : Nd} {next : List Nat} (h : Sc E ops Rr T V P c next) (hp : ∀ c,P c -> P' c) : Sc E ops Rr T V P' c next := fun e he => by
 obtain ⟨o,v,J',c',h1,h2,h3,h4⟩ := h e he;exact ⟨o,v,J',c',h1,h2,hp _ h3,h4⟩
theorem Agd {e : Nat} {J J' : Sto} {D : List Nat} (h : Adt E ops Rr T V e J = some J') {P : Nd -> Prop} (hp : P ⟨e :: D,J',[]⟩) : Sc E ops Rr T V P ⟨D,J,[]⟩ [e] := by
 unfold Adt at h
 split at h
 ·rename_i o ho
  split at h
  ·rename_i v τ hv
   cases hb : AV.beq (V e) v with
   | false => rw [hb] at h; cases h
   | true =>
    rw [hb] at h; cases h;have := AV.beq_eq _ _ hb;obtain ⟨g1,g2⟩ := T8 hv;intro x hx;rw [al_] at hx; subst hx
    refine ⟨o,v,J',_,ho,.inl ⟨g1,g2⟩,hp,fun y => by simp [or_comm],fz_ fun i => ?_⟩
    by_cases hi : i = x
    ·rw [if_pos hi,← this,hi]; rfl
    ·rw [if_neg hi]
  ·cases h
 ·cases h
theorem Arz {i j : Nat} {J J' : Sto} {D : List Nat} {l : NL} (h : Ads E ops Rr T V i j D J = some (l,J')) {P : Nd -> Prop} (hp : P ⟨j :: i :: D,J',[]⟩) (hq : ∀ x ∈ l,P x.1) :
  (⟨D,J,[]⟩ : Nd) ∈ l.map (·.1) /\ (∀ x ∈ l,Sc E ops Rr T V P x.1 x.2) /\ ∀ x ∈ l,(∀ k ∈ x.1.D,k ∈ D ∨ k = i ∨ k = j) /\ (x.1.U = [] ∨ ∃ p v,x.1.U = [(p,v)] /\ p ∈ x.1.D) := by
 unfold Ads at h
 split at h
 ·rename_i oi oj hoi hoj
  split at h
  ·rename_i v1 Ji v3 Jj h1 h3
   obtain ⟨gi,h1⟩ := T8 h1;obtain ⟨gj,h3⟩ := T8 h3
   split at h
   ·rename_i ti xi yi tj xj yj ei ej
    rw [ei] at h1; rw [ej] at h3;obtain ⟨s1,l1,c1,A,rfl,rfl,k1⟩ := Qa h1;obtain ⟨s2,l2,c2,B,rfl,rfl,k2⟩ := Qa h3;simp only at h;rw [ab_,if_pos rfl,ab_,if_pos rfl] at h;simp only at h;cases hb : (!Nat.beq i j && AV.beq (V i) (.sr (nx J + 2) 0 s1 l1 c1) && AV.beq (V j) (.sr (nx J + 3) 0 s2 l2 c2)) with
    | false => rw [hb] at h; cases h
    | true =>
     rw [hb] at h; cases h;simp only [ad_,bt_] at hb;obtain ⟨⟨b0,b1⟩,b2⟩ := hb
     have hij : i ≠ j := fun hh => by rw [hh,bg_] at b0; cases b0
     have b1 := AV.beq_eq _ _ b1;have b2 := AV.beq_eq _ _ b2
     have g1 : ∀ (A B : List AV) x,((J.new (.cells A)).new (.cells B)).get x = if x = nx J + 1 then some (.cells B) else if x = nx J then some (.cells A) else J.get x := fun A B x => by rw [ab_,ab_,Aj]
     have hge : ∀ x,((((((J.new (.cells A)).new (.cells B)).kill (nx J)).kill (nx J + 1)).new (.cells A)).new (.cells B)).get x = if x = nx J + 3 then some (.cells B) else if x = nx J + 2 then some (.cells A) else if x = nx J ∨ x = nx J + 1 then none else J.get x := fun x => by
      rw [ab_,ab_,d_,d_,g1];simp only [Aj,Cl]
      by_cases q1 : x = nx J + 3
      ·rw [if_pos Om,if_pos q1]
      ·rw [if_neg Om,if_neg q1]
       by_cases q2 : x = nx J + 2
       ·rw [if_pos Om,if_pos q2]
       ·rw [if_neg Om,if_neg q2]
        by_cases q3 : x = nx J + 1
        ·rw [if_pos q3,if_pos (.inr q3)]
        ·rw [if_neg q3,if_neg q3]
         by_cases q4 : x = nx J
         ·rw [if_pos q4,if_pos (.inl q4)]
         ·rw [if_neg q4,if_neg q4,if_neg (by omega : ¬ (x = nx J ∨ x = nx J + 1))]
     have hnr : nx ((((((J.new (.cells A)).new (.cells B)).kill (nx J)).kill (nx J + 1)).new (.cells A)).new (.cells B)) = nx J + 4 := by simp only [Aj,Cl]
     refine ⟨by simp,fun x hx => ?_,fun x hx => ?_⟩
     ·simp only [aj_,ct_,or_false] at hx
      rcases hx with rfl | rfl | rfl
      ·intro e he;simp only [aj_,ct_,or_false] at he
       rcases he with rfl | rfl
       ·exact ⟨oi,_,_,⟨e :: D,J.new (.cells A),[(e,.sr (nx J) 0 s1 l1 c1)]⟩,hoi,.inl ⟨gi,by rw [ei]; exact h1⟩,hq (⟨e :: D,J.new (.cells A),[(e,.sr (nx J) 0 s1 l1 c1)]⟩,[j]) (by simp),fun y => by simp [or_comm],fz_ fun _ => rfl⟩
       ·exact ⟨oj,_,_,⟨e :: D,J.new (.cells B),[(e,.sr (nx J) 0 s2 l2 c2)]⟩,hoj,.inl ⟨gj,by rw [ej]; exact h3⟩,hq (⟨e :: D,J.new (.cells B),[(e,.sr (nx J) 0 s2 l2 c2)]⟩,[i]) (by simp),fun y => by simp [or_comm],fz_ fun _ => rfl⟩
      ·intro e he;rw [al_] at he; subst he
       refine ⟨oj,_,_,_,hoj,.inl ⟨gj,by rw [ej]; exact k2 _⟩,hp,fun y => by simp [or_comm],Conv.rename (J := J) (A := A) (B := B) (a := nx J) (b := nx J + 1) (.inl ⟨rfl,rfl⟩) (by simp only [Aj]) hnr (by rw [g1,if_neg Om,if_pos rfl]) (by rw [g1,if_pos rfl]) (fun x => ?_) fun x => ?_⟩
       ·rw [hge]
        by_cases q : x = nx J ∨ x = nx J + 1
        ·rw [if_pos q,if_pos q]
        ·rw [if_neg q,if_neg q,show ((J.new (.cells A)).new (.cells B)).get x = J.get x from by rw [g1,if_neg Om,if_neg Om]]
       ·show (if x = e then _ else ovr [(i,_)] V x) = V x ∨ _
        by_cases q1 : x = e
        ·rw [if_pos q1]; refine .inr (.inr ⟨s2,l2,c2,by rw [Aj],?_⟩); rw [q1]; exact b2
        ·rw [if_neg q1]
         by_cases q2 : x = i
         ·refine .inr (.inl ⟨s1,l1,c1,?_,?_⟩)
          ·show (if x = i then _ else _) = _; rw [if_pos q2]
          ·rw [q2]; exact b1
         ·left; show (if x = i then _ else _) = _; rw [if_neg q2]
      ·intro e he;rw [al_] at he; subst he
       refine ⟨oi,_,_,_,hoi,.inl ⟨gi,by rw [ei]; exact k1 _⟩,hp,fun y => by simp [or_left_comm,or_comm],Conv.rename (J := J) (A := A) (B := B) (a := nx J + 1) (b := nx J) (.inr ⟨rfl,rfl⟩) (by simp only [Aj]) hnr (by rw [g1,if_pos rfl]) (by rw [g1,if_neg Om,if_pos rfl]) (fun x => ?_) fun x => ?_⟩
       ·rw [hge]
        by_cases q : x = nx J ∨ x = nx J + 1
        ·rw [if_pos q,if_pos q]
        ·rw [if_neg q,if_neg q,show ((J.new (.cells B)).new (.cells A)).get x = J.get x from by rw [g1,if_neg Om,if_neg Om]]
       ·show (if x = e then _ else ovr [(j,_)] V x) = V x ∨ _
        by_cases q1 : x = e
        ·rw [if_pos q1]; refine .inr (.inl ⟨s1,l1,c1,by rw [Aj],?_⟩); rw [q1]; exact b1
        ·rw [if_neg q1]
         by_cases q2 : x = j
         ·refine .inr (.inr ⟨s2,l2,c2,?_,?_⟩)
          ·show (if x = j then _ else _) = _; rw [if_pos q2]
          ·rw [q2]; exact b2
         ·left; show (if x = j then _ else _) = _; rw [if_neg q2]
     ·simp only [aj_,ct_,or_false] at hx
      rcases hx with rfl | rfl | rfl
      ·exact ⟨fun k hk => .inl hk,.inl rfl⟩
      ·exact ⟨fun k hk => by rcases aj_.1 hk with h | h; exact .inr (.inl h); exact .inl h,.inr ⟨i,_,rfl,by simp⟩⟩
      ·exact ⟨fun k hk => by rcases aj_.1 hk with h | h; exact .inr (.inr h); exact .inl h,.inr ⟨j,_,rfl,by simp⟩⟩
   ·rename_i ti xi yi tj xj yj ei ej
    rw [ei] at h1; rw [ej] at h3
    split at h
    ·rename_i a oa b ob ha hb'
     cases hb : (!Nat.beq i j && !Nat.beq a b && AV.beq (V i) A5 && AV.beq (V j) A5) with
     | false => rw [hb] at h; cases h
     | true =>
      rw [hb] at h;simp only [cond_true] at h;simp only [ad_,bt_] at hb;obtain ⟨⟨⟨b0,b3⟩,b1⟩,b2⟩ := hb
      have hab : a ≠ b := fun hh => by rw [hh,bg_] at b3; cases b3
      have b1 := AV.beq_eq _ _ b1;have b2 := AV.beq_eq _ _ b2
      split at h
      ·rename_i v2 Jij h2
       cases h;obtain ⟨_,h2⟩ := T8 h2;rw [ej] at h2;obtain ⟨rfl,vs,X,p1,rfl,p2⟩ := Zz ha h1;obtain ⟨rfl,us,Y,r1,rfl,r2⟩ := Zz hb' h3
       have h2' := r2 (J.set a (.cells X)) (by rw [a_,if_neg (gj_ hab)]; exact r1)
       rw [h2'] at h2;cases h2
       have hcv : ∀ (k : Nat) (hk : V k = A5),Conv E (fun x => if x = k then A5 else ovr [] V x) ((J.set a (.cells X)).set b (.cells Y)) (ovr [] V) ((J.set a (.cells X)).set b (.cells Y)) := fun k hk => fz_ fun x => by
        by_cases q : x = k
        ·rw [if_pos q,q]; exact hk.symm
        ·rw [if_neg q]
       have gu : ∀ (k : Nat) (hk : V k = A5) (τ : Sto),Conv E (fun x => if x = k then A5 else ovr [] V x) τ (ovr [] V) τ := fun k hk τ => fz_ fun x => by
        by_cases q : x = k
        ·rw [if_pos q,q]; exact hk.symm
        ·rw [if_neg q]
       refine ⟨by simp,fun x hx => ?_,fun x hx => ?_⟩
       ·simp only [aj_,ct_,or_false] at hx
        rcases hx with rfl | rfl | rfl
        ·intro e he;simp only [aj_,ct_,or_false] at he
         rcases he with rfl | rfl
         ·exact ⟨oi,_,_,⟨e :: D,J.set a (.cells X),[]⟩,hoi,.inl ⟨gi,by rw [ei]; exact h1⟩,hq (⟨e :: D,J.set a (.cells X),[]⟩,[j]) (by simp),fun y => by simp [or_comm],gu _ b1 _⟩
         ·exact ⟨oj,_,_,⟨e :: D,J.set b (.cells Y),[]⟩,hoj,.inl ⟨gj,by rw [ej]; exact h3⟩,hq (⟨e :: D,J.set b (.cells Y),[]⟩,[i]) (by simp),fun y => by simp [or_comm],gu _ b2 _⟩
        ·intro e he;rw [al_] at he; subst he
         exact ⟨oj,_,_,_,hoj,.inl ⟨gj,by rw [ej]; exact h2'⟩,hp,fun y => by simp [or_comm],gu _ b2 _⟩
        ·intro e he;rw [al_] at he; subst he
         refine ⟨oi,A5,_,_,hoi,.inl ⟨gi,by rw [ei]; exact p2 (J.set b (.cells Y)) (by rw [a_,if_neg hab]; exact p1)⟩,hp,fun y => by simp [or_left_comm,or_comm],?_⟩
         rw [← Sto.set_comm hab];exact gu _ b1 _
       ·simp only [aj_,ct_,or_false] at hx
        rcases hx with rfl | rfl | rfl
        ·exact ⟨fun k hk => .inl hk,.inl rfl⟩
        ·exact ⟨fun k hk => by rcases aj_.1 hk with h | h; exact .inr (.inl h); exact .inl h,.inl rfl⟩
        ·exact ⟨fun k hk => by rcases aj_.1 hk with h | h; exact .inr (.inr h); exact .inl h,.inl rfl⟩
      ·cases h
    ·cases h
   ·cases h
  ·cases h
 ·cases h
end
end Go.AM
