/- A part of the proof; shortened by program. -/
import Derived.RangeFuncRecord
import Derived.Test.YtolkkkghemedjaaGreatDoorP02
set_option maxRecDepth 100000
set_option maxHeartbeats 4000000
set_option linter.unusedSimpArgs false
set_option linter.unusedVariables false
namespace Go.AM
open Go
section
def Vg : List Nat -> Nat -> Option Nat
 | [],_ => none
 | x :: r,a => cond (Nat.beq x a) (some 0) (match Vg r a with | some i => some (i + 1) | none => none)
mutual
def AV.ren (L : List Nat) (b : Nat) : AV -> AV
 | .pr a off => match Vg L a with | some i => B9 (b + i) fun n => .pr n off | none => .any
 | .sr a off sz len cap => match Vg L a with | some i => B9 (b + i) fun n => .sr n off sz len cap | none => .any
 | .mp a => match Vg L a with | some i => B9 (b + i) fun n => .mp n | none => .any
 | .it _ => .any
 | .stp _ => .any
 | .yl _ => .any
 | .flt k n => .flt k n
 | .pv cs => .pv (AV.rens L b cs)
 | .sv cs sz len cap => .sv (AV.rens L b cs) sz len cap
 | .fn f p q => .fn f (AV.rens L b p) (AV.rens L b q)
 | .ifc t x => .ifc t (AV.ren L b x)
 | .agg cs => .agg (AV.rens L b cs)
 | .tup vs => .tup (AV.rens L b vs)
 | .any => .any
 | .bool x => .bool x
 | .int k n => .int k n
 | .str l => .str l
 | .nil v => .nil v
def AV.rens (L : List Nat) (b : Nat) : List AV -> List AV
 | [] => []
 | x :: r => AV.ren L b x :: AV.rens L b r
end
def Af0 (L : List Nat) (b : Nat) : List (Key × AV) -> List (Key × AV)
 | [] => []
 | (k,v) :: r => (k,AV.ren L b v) :: Af0 L b r
def AO.ren (L : List Nat) (b : Nat) : AO -> Option AO
 | .cells vs => some (.cells (AV.rens L b vs))
 | .map kt es ver => some (.map kt (Af0 L b es) ver)
 | _ => none
def H6 (L : List Nat) (b : Nat) (U : Sto) : List Nat -> Option (List AO)
 | [] => some []
 | a :: r => match U.get a with
  | some o => match o.ren L b,H6 L b U r with
   | some o',some l => some (o' :: l)
   | _,_ => none
  | none => none
def Hi : List AO -> Sto -> Sto
 | [],U => U
 | o :: r,U => Hi r (U.new o)
theorem Ack : ∀ {L : List Nat} {a i : Nat},Vg L a = some i -> L[i]? = some a
 | [],a,i,h => by simp [Vg] at h
 | x :: r,a,i,h => by
  simp only [Vg] at h;cases hb : Nat.beq x a with
  | true =>
   have hxa := ac_ hb
   simp [hb] at h; subst h; simp [hxa]
  | false =>
   simp only [hb,cond_false] at h
   split at h
   ·rename_i j hj; cases h; simpa using Ack hj
   ·cases h
theorem Acl : ∀ (l : List AO) (U : Sto),nx (Hi l U) = nx U + l.length
 | [],U => rfl
 | o :: r,U => by simp only [Hi,Acl r,Af,at_]; omega
theorem Hj : ∀ (l : List AO) (U : Sto) (a : Nat),(Hi l U).get a = if a < nx U then U.get a else match l[a - nx U]? with | some o => some o | none => U.get a
 | [],U,a => by simp [Hi]
 | o :: r,U,a => by
  simp only [Hi];rw [Hj r,Af,ab_]
  by_cases h : a < nx U
  ·rw [if_pos Om,if_neg Om,if_pos h]
  ·rw [if_neg h]
   by_cases h2 : a = nx U
   ·subst h2; rw [if_pos Om,if_pos rfl]; simp
   ·rw [if_neg Om,if_neg h2]
    have : a - nx U = (a - (nx U + 1)) + 1 := by omega
    rw [this,be_]
section
variable {C₁ C' : Ctx} {N₁ N' b : Nat} {w : World} {L : List Nat}
structure Af1 (L : List Nat) (b : Nat) (C₁ C' : Ctx) (N' : Nat) : Prop where
 at' : ∀ a i,Vg L a = some i -> b + i < N' /\ C'.loc (b + i) = C₁.loc a
 own : ∀ c,C'.own c -> C₁.own c
mutual
theorem R.ren (h : Af1 L b C₁ C' N') : ∀ (x : AV) (v : Value),R C₁ N₁ w x v -> R C' N' w (x.ren L b) v
 | .pr a off,v,hr => by
  unfold AV.ren
  split
  ·rename_i i hi
   obtain ⟨k1,k2⟩ := h.at' a i hi;rw [Ai];unfold R at *;obtain ⟨ad,h1,h2,h3⟩ := hr
   exact ⟨ad,h1,k1,fun c o hc => h3 c o (by rw [← k2]; exact hc)⟩
  ·unfold R; trivial
 | .sr a off sz len cap,v,hr => by
  unfold AV.ren
  split
  ·rename_i i hi
   obtain ⟨k1,k2⟩ := h.at' a i hi;rw [Ai];unfold R at *;obtain ⟨ad,k,h1,h2,h3,h4,h5⟩ := hr
   exact ⟨ad,k,h1,k1,h3,h4,fun c o hc => h5 c o (by rw [← k2]; exact hc)⟩
  ·unfold R; trivial
 | .mp a,v,hr => by
  unfold AV.ren
  split
  ·rename_i i hi
   obtain ⟨k1,k2⟩ := h.at' a i hi;rw [Ai];unfold R at *;obtain ⟨c,h1,h2,h3⟩ := hr
   exact ⟨c,h1,k1,fun c' o hc => h3 c' o (by rw [← k2]; exact hc)⟩
  ·unfold R; trivial
 | .it _,v,hr => by unfold AV.ren R; trivial
 | .stp _,v,hr => by unfold AV.ren R; trivial
 | .yl _,v,hr => by unfold AV.ren R; trivial
 | .flt k n,v,hr => by unfold AV.ren; unfold R at *; exact hr
 | .pv cs,v,hr => by
  unfold AV.ren;unfold R at *;obtain ⟨c,o,h1,h2,h3⟩ := hr
  exact ⟨c,o,h1,fun hne ho => h2 (fun he => hne (by rw [he]; rfl)) (h.own c ho),RC.ren h cs c o h3⟩
 | .sv cs sz len cap,v,hr => by
  unfold AV.ren;unfold R at *;obtain ⟨ado,k,h1,h2,h3,h4,h0,hh⟩ := hr
  refine ⟨ado,k,h1,h2,h3,by rw [Vh,h4],h0,fun ad ha => ?_⟩
  obtain ⟨h5,h6,h7⟩ := hh ad ha
  exact ⟨h5,fun hne ho => h6 (fun he => hne (by rw [he]; rfl)) (h.own _ ho),RC.ren h cs ad.block ad.off h7⟩
 | .fn f p q,v,hr => by
  unfold AV.ren;unfold R at *;obtain ⟨a,c,h1,h2,h3⟩ := hr;exact ⟨a,c,h1,RL.ren h p _ h2,RL.ren h q _ h3⟩
 | .ifc t x,v,hr => by
  unfold AV.ren;unfold R at *;obtain ⟨y,h1,h2⟩ := hr;exact ⟨y,h1,R.ren h x y h2⟩
 | .agg cs,v,hr => by
  unfold AV.ren;unfold R at *;obtain ⟨a,h1,h2,h3⟩ := hr;exact ⟨a,h1,RL.ren h cs _ h2,h3⟩
 | .tup vs,v,hr => by
  unfold AV.ren;unfold R at *;obtain ⟨a,h1,h2⟩ := hr;exact ⟨a,h1,RL.ren h vs _ h2⟩
 | .any,v,hr => by unfold AV.ren R; trivial
 | .bool x,v,hr => by unfold AV.ren; unfold R at *; exact hr
 | .int k n,v,hr => by unfold AV.ren; unfold R at *; exact hr
 | .str l,v,hr => by unfold AV.ren; unfold R at *; exact hr
 | .nil y,v,hr => by unfold AV.ren; unfold R at *; exact hr
theorem RC.ren (h : Af1 L b C₁ C' N') : ∀ (cs : List AV) (c o : Nat),RC C₁ N₁ w c cs o -> RC C' N' w c (AV.rens L b cs) o
 | [],c,o,_ => by unfold AV.rens RC; trivial
 | x :: r,c,o,hr => by
  unfold AV.rens;unfold RC at *;obtain ⟨⟨v,h1,h2,h3⟩,h4⟩ := hr;exact ⟨⟨v,h1,h2,R.ren h x v h3⟩,RC.ren h r c (o + 1) h4⟩
theorem RL.ren (h : Af1 L b C₁ C' N') : ∀ (l : List AV) (vs : List Value),RL C₁ N₁ w l vs -> RL C' N' w (AV.rens L b l) vs
 | [],[],_ => by unfold AV.rens RL; trivial
 | x :: r,v :: s,hr => by
  unfold AV.rens;unfold RL at *;exact ⟨R.ren h x v hr.1,RL.ren h r s hr.2⟩
 | [],_ :: _,hr => by unfold RL at hr; exact hr.elim
 | _ :: _,[],hr => by unfold RL at hr; exact hr.elim
theorem Vh {L : List Nat} {b : Nat} : ∀ (l : List AV),(AV.rens L b l).length = l.length
 | [] => rfl
 | x :: r => by unfold AV.rens; simp [Vh r]
end
theorem ER.ren (h : Af1 L b C₁ C' N') : ∀ (l : List (Key × AV)) (E : List MapEntry),ER C₁ N₁ w l E -> ER C' N' w (Af0 L b l) E
 | [],[],_ => by unfold Af0 ER; trivial
 | (k,v) :: r,e :: s,hr => by
  unfold Af0;unfold ER at *;exact ⟨⟨hr.1.1,R.ren h v _ hr.1.2⟩,ER.ren h r s hr.2⟩
 | [],_ :: _,hr => by unfold ER at hr; exact hr.elim
 | _ :: _,[],hr => by unfold ER at hr; exact hr.elim
end
theorem M2 {L : List Nat} {b : Nat} {U : Sto} : ∀ {M : List Nat} {l : List AO},H6 L b U M = some l -> l.length = M.length /\ ∀ (i a : Nat),M[i]? = some a -> ∃ o o',U.get a = some o /\ o.ren L b = some o' /\ l[i]? = some o'
 | [],l,h => by simp [H6] at h; subst h; simp
 | a :: M,l,h => by
  simp only [H6] at h
  split at h
  ·rename_i o ho
   split at h
   ·rename_i o' l' h1 h2
    cases h;obtain ⟨k1,k2⟩ := M2 h2
    refine ⟨by simp [k1],fun i x hx => ?_⟩
    cases i with
    | zero => simp at hx; subst hx; exact ⟨o,o',ho,h1,rfl⟩
    | succ i => exact k2 i x (by simpa using hx)
   ·cases h
  ·cases h
def Ctx.iso (C : Ctx) : Ctx := ⟨fun _ => none,C.stm,C.own,C.lr⟩
theorem Ctx.iso_own (C : Ctx) : C.iso.own = C.own := by
 funext c
 simp [Ctx.own,Ctx.iso]
theorem Sim.iso {P : Program} {C : Ctx} {w : World} {U : Sto} (h : Sim P C w U) : Sim P C.iso w ⟨.e,0⟩ where
 obj a O hg := by simp [Sto.get,Tr.get] at hg
 bound a O hg := by simp [Sto.get,Tr.get] at hg
 dom a p hp := by simp [Ctx.iso] at hp
 inj a b c o o' ha := by simp [Ctx.iso] at ha
 lt a c o ha := by simp [Ctx.iso] at ha
 rlt b hb := h.own_lt hb
 rdis a c o ha := by simp [Ctx.iso] at ha
def Ctx.lay (C : Ctx) (b : Nat) (C₁ : Ctx) (L : List Nat) : Ctx :=
 { C with loc := fun a => if a < b then C.loc a else match L[a - b]? with | some x => C₁.loc x | none => none }
theorem Amf {L : List Nat} (h : L.Nodup) {i j a : Nat} (hi : L[i]? = some a) (hj : L[j]? = some a) : i = j := by
 obtain ⟨h1,h2⟩ := aa_.1 hi;obtain ⟨h3,h4⟩ := aa_.1 hj;exact (List.getElem_inj h).1 (h2.trans h4.symm)
theorem Akd {P : Program} {C Cs C₁ : Ctx} {w w' : World} {U U₁ : Sto} {v : AV} {x : Value} {L : List Nat} {objs : List AO}
  (hs : Sim P C w U) (h1 : Sim P C₁ w' U₁) (dm : Cs.res = C.own) (bq : Cs.loc = fun _ => none) (he : Ext Cs 0 w C₁ (nx U₁) w') (hr : R C₁ (nx U₁) w' v x)
  (hn : L.Nodup) (ho : H6 L (nx U) U₁ L = some objs) :
  ∃ C',Sim P C' w' (Hi objs U) /\ Ext C (nx U) w C' (nx (Hi objs U)) w' /\ R C' (nx (Hi objs U)) w' (v.ren L (nx U)) x := by
 obtain ⟨bv,mj⟩ := M2 ho;have hC₁res : C₁.res = C.own := he.res.1.trans dm
 have cl : ∀ c,C.own c -> w'.heap[c]? = w.heap[c]? := fun c hc => he.res.2 c (by rw [dm]; exact hc)
 have jb : ∀ c,Cs.own c ↔ C.own c := fun c => by
  unfold Ctx.own;rw [dm,bq]
  simp [Ctx.own]
 have hnx : nx (Hi objs U) = nx U + L.length := by rw [Acl,bv]
 have c6 : ∀ a,a < nx U -> (C.lay (nx U) C₁ L).loc a = C.loc a := fun a ha => by simp [Ctx.lay,ha]
 have fe : ∀ (i a : Nat),L[i]? = some a -> (C.lay (nx U) C₁ L).loc (nx U + i) = C₁.loc a := fun i a hi => by
  simp only [Ctx.lay]
  rw [if_neg Om,show nx U + i - nx U = i by omega,hi]
 have cq : ∀ a p,(C.lay (nx U) C₁ L).loc a = some p -> (a < nx U /\ C.loc a = some p) ∨ ∃ i x,a = nx U + i /\ L[i]? = some x /\ C₁.loc x = some p := fun a p hp => by
  by_cases ha : a < nx U
  ·rw [c6 a ha] at hp; exact .inl ⟨ha,hp⟩
  ·simp only [Ctx.lay,if_neg ha] at hp
   split at hp
   ·rename_i y hy; exact .inr ⟨a - nx U,y,by omega,hy,hp⟩
   ·cases hp
 have bp : ∀ c,(C.lay (nx U) C₁ L).own c -> C₁.own c := fun c hc => by
  rcases hc with hc | ⟨a,o,hc⟩
  ·exact .inl (by rw [hC₁res]; exact .inl hc)
  ·rcases cq a _ hc with ⟨_,h2⟩ | ⟨i,y,_,_,h4⟩
   ·exact .inl (by rw [hC₁res]; exact .inr ⟨a,o,h2⟩)
   ·exact .inr ⟨y,o,h4⟩
 have hmv : Af1 L (nx U) C₁ (C.lay (nx U) C₁ L) (nx (Hi objs U)) := ⟨fun a i hi => by
  have hi' := Ack hi;have := (aa_.1 hi').1
  exact ⟨by rw [hnx]; omega,fe i a hi'⟩,bp⟩
 have e : Ext C (nx U) w (C.lay (nx U) C₁ L) (nx (Hi objs U)) w' := ⟨by omega,he.size,
  fun c hc ho => by
   obtain ⟨k1,k2⟩ := he.keep c hc (fun hh => ho ((jb c).1 hh))
   exact ⟨fun hh => k1 (bp c hh),k2⟩,
  fun a ha p hp => by rwa [c6 a ha] at hp,fun _ _ => rfl,fun _ _ => rfl,
  fun a ha c o hc => by
   rw [c6 a ha] at hc;unfold csize;rw [cl c (.inr ⟨a,o,hc⟩)],
  ⟨rfl,fun c hc => cl c (.inl hc)⟩,he.os⟩
 refine ⟨C.lay (nx U) C₁ L,⟨fun a O hg => ?_,fun a O hg => ?_,fun a p hp => ?_,fun a d c o o' ha hd => ?_,fun a c o ha => ?_,fun c hc => ?_,fun a c o ha hc => ?_⟩,e,R.ren hmv v x hr⟩
 ·rw [Hj] at hg
  by_cases ha : a < nx U
  ·rw [if_pos ha] at hg;refine (hs.obj a O hg).ext e ha (c6 a ha) (fun c o hc => cl c (.inr ⟨a,o,hc⟩)) fun m hm kt es' v' hg' => ?_
   rw [Hj,if_pos hm] at hg';exact ⟨kt,es',v',hg',nl,fun _ => ⟨c6 m hm,fun c o hc => cl c (.inr ⟨m,o,hc⟩)⟩⟩
  ·rw [if_neg ha] at hg
   split at hg
   ·rename_i o' ho'
    cases hg
    have hi : a - nx U < L.length := by
     have := (aa_.1 ho').1; omega
    have hLi : L[a - nx U]? = some L[a - nx U] := an_ hi;obtain ⟨o₁,o₂,g1,g2,g3⟩ := mj _ _ hLi;rw [ho'] at g3; cases g3;have hl := fe _ _ hLi
    rw [show nx U + (a - nx U) = a by omega] at hl
    have hor := h1.obj _ _ g1;cases o₁ with
    | cells vs =>
     simp only [AO.ren,ad_] at g2; subst g2;obtain ⟨c,o,cs,T,q1,q2,q3⟩ := hor;exact ⟨c,o,cs,T,hl.trans q1,q2,RC.ren hmv vs c o q3⟩
    | map kt es ver =>
     simp only [AO.ren,ad_] at g2; subst g2;obtain ⟨c,E,clock,q1,q2,q3⟩ := hor;obtain ⟨P1,p2,p3⟩ := q3.perm;exact ⟨c,E,clock,hl.trans q1,q2,q3.typed,⟨P1,p2,ER.ren hmv es P1 p3⟩,q3.keys,q3.born,q3.apart⟩
    | iter _ _ _ _ => simp [AO.ren] at g2
    | stamp _ _ _ => simp [AO.ren] at g2
    | loop _ => simp [AO.ren] at g2
   ·exact absurd (hs.bound a O hg) ha
 ·rw [hnx];rw [Hj] at hg
  by_cases ha : a < nx U
  ·omega
  ·rw [if_neg ha] at hg
   split at hg
   ·rename_i o' ho'
    have := (aa_.1 ho').1; omega
   ·have := hs.bound a O hg; omega
 ·rw [Hj]
  rcases cq a p hp with ⟨ha,hc⟩ | ⟨i,y,rfl,hi,hc⟩
  ·rw [if_pos ha]; exact hs.dom a p hc
  ·obtain ⟨o₁,o₂,g1,g2,g3⟩ := mj i y hi
   rw [if_neg Om,show nx U + i - nx U = i by omega,g3]
   refine ⟨o₂,rfl,?_⟩;cases o₁ with
   | cells vs => simp only [AO.ren,ad_] at g2; subst g2; rfl
   | map kt es ver => simp only [AO.ren,ad_] at g2; subst g2; rfl
   | iter _ _ _ _ => simp [AO.ren] at g2
   | stamp _ _ _ => simp [AO.ren] at g2
   | loop _ => simp [AO.ren] at g2
 ·rcases cq a _ ha with ⟨ha1,hc⟩ | ⟨i,y,rfl,hi,hc⟩ <;> rcases cq d _ hd with ⟨hd1,kc⟩ | ⟨j,z,rfl,hj,kc⟩
  ·exact hs.inj a d c o o' hc kc
  ·exact absurd (show C₁.res c by rw [hC₁res]; exact .inr ⟨a,o,hc⟩) (h1.rdis z c o' kc)
  ·exact absurd (show C₁.res c by rw [hC₁res]; exact .inr ⟨d,o',kc⟩) (h1.rdis y c o hc)
  ·have := h1.inj y z c o o' hc kc;subst this;rw [Amf hn hi hj]
 ·rcases cq a _ ha with ⟨_,hc⟩ | ⟨i,y,_,_,hc⟩
  ·exact al_ (hs.lt a c o hc) he.size
  ·exact h1.lt y c o hc
 ·exact al_ (hs.rlt c hc) he.size
 ·rcases cq a _ ha with ⟨_,hk⟩ | ⟨i,y,_,_,hk⟩
  ·exact hs.rdis a c o hk hc
  ·exact h1.rdis y c o hk (by rw [hC₁res]; exact .inl hc)
mutual
def AV.closed : AV -> Bool
 | .pr _ _ => false
 | .sr _ _ _ _ _ => false
 | .mp _ => false
 | .it _ => false
 | .stp _ => false
 | .yl _ => false
 | .pv cs => AV.closeds cs
 | .sv cs _ _ _ => AV.closeds cs
 | .fn _ p q => AV.closeds p && AV.closeds q
 | .ifc _ x => AV.closed x
 | .agg cs => AV.closeds cs
 | .tup vs => AV.closeds vs
 | _ => true
def AV.closeds : List AV -> Bool
 | [] => true
 | x :: r => AV.closed x && AV.closeds r
end
section
variable {C C' : Ctx} {N N' : Nat} {w : World}
mutual
theorem R.closed (h : ∀ c,C'.own c -> C.own c) : ∀ (x : AV) (v : Value),x.closed = true -> R C N w x v -> R C' N' w x v
 | .pr _ _,_,k,_ => by simp [AV.closed] at k
 | .sr _ _ _ _ _,_,k,_ => by simp [AV.closed] at k
 | .mp _,_,k,_ => by simp [AV.closed] at k
 | .it _,_,k,_ => by simp [AV.closed] at k
 | .stp _,_,k,_ => by simp [AV.closed] at k
 | .yl _,_,k,_ => by simp [AV.closed] at k
 | .flt _ _,v,k,hr => by unfold R at *; exact hr
 | .pv cs,v,k,hr => by
  simp only [AV.closed] at k;unfold R at *;obtain ⟨c,o,h1,h2,h3⟩ := hr;exact ⟨c,o,h1,fun hne ho => h2 hne (h c ho),RC.closed h cs c o k h3⟩
 | .sv cs sz len cap,v,k,hr => by
  simp only [AV.closed] at k;unfold R at *;obtain ⟨ado,q,h1,h2,h3,h4,h0,hh⟩ := hr;refine ⟨ado,q,h1,h2,h3,h4,h0,fun ad ha => ?_⟩
  obtain ⟨h5,h6,h7⟩ := hh ad ha;exact ⟨h5,fun hne ho => h6 hne (h _ ho),RC.closed h cs ad.block ad.off k h7⟩
 | .fn f p q,v,k,hr => by
  simp only [AV.closed,af_] at k;unfold R at *;obtain ⟨a,c,h1,h2,h3⟩ := hr;exact ⟨a,c,h1,RL.closed h p _ k.1 h2,RL.closed h q _ k.2 h3⟩
 | .ifc t x,v,k,hr => by
  simp only [AV.closed] at k;unfold R at *;obtain ⟨y,h1,h2⟩ := hr;exact ⟨y,h1,R.closed h x y k h2⟩
 | .agg cs,v,k,hr => by
  simp only [AV.closed] at k;unfold R at *;obtain ⟨a,h1,h2,h3⟩ := hr;exact ⟨a,h1,RL.closed h cs _ k h2,h3⟩
 | .tup vs,v,k,hr => by
  simp only [AV.closed] at k;unfold R at *;obtain ⟨a,h1,h2⟩ := hr;exact ⟨a,h1,RL.closed h vs _ k h2⟩
 | .any,v,k,hr => by unfold R; trivial
 | .bool x,v,k,hr => by unfold R at *; exact hr
 | .int k' n,v,k,hr => by unfold R at *; exact hr
 | .str l,v,k,hr => by unfold R at *; exact hr
 | .nil y,v,k,hr => by unfold R at *; exact hr
theorem RC.closed (h : ∀ c,C'.own c -> C.own c) : ∀ (cs : List AV) (c o : Nat),AV.closeds cs = true -> RC C N w c cs o -> RC C' N' w c cs o
 | [],c,o,_,_ => by unfold RC; trivial
 | x :: r,c,o,k,hr => by
  simp only [AV.closeds,af_] at k;unfold RC at *;obtain ⟨⟨v,h1,h2,h3⟩,h4⟩ := hr;exact ⟨⟨v,h1,h2,R.closed h x v k.1 h3⟩,RC.closed h r c (o + 1) k.2 h4⟩
theorem RL.closed (h : ∀ c,C'.own c -> C.own c) : ∀ (l : List AV) (vs : List Value),AV.closeds l = true -> RL C N w l vs -> RL C' N' w l vs
 | [],[],_,_ => by unfold RL; trivial
 | x :: r,v :: s,k,hr => by
  simp only [AV.closeds,af_] at k;unfold RL at *;exact ⟨R.closed h x v k.1 hr.1,RL.closed h r s k.2 hr.2⟩
 | [],_ :: _,_,hr => by unfold RL at hr; exact hr.elim
 | _ :: _,[],_,hr => by unfold RL at hr; exact hr.elim
end
end
def Ake (L : List Nat) (b : Nat) : List AO -> Option (List AO)
 | [] => some []
 | o :: r => match o.ren L b,Ake L b r with
  | some o',some l => some (o' :: l)
  | _,_ => none
theorem Q7 {L : List Nat} {b : Nat} {U : Sto} : ∀ (M : List Nat) (l : List AO),M.length = l.length -> (∀ (i a : Nat),M[i]? = some a -> U.get a = l[i]?) -> H6 L b U M = Ake L b l
 | [],[],_,_ => rfl
 | a :: M,o :: l,hl,h => by
  have h0 := h 0 a rfl;simp only [H6,Ake];rw [h0];simp only [List.getElem?_cons_zero]
  rw [Q7 M l (by simpa using hl) fun i x hx => by simpa using h (i + 1) x (by simpa using hx)]
 | [],_ :: _,hl,_ => by simp at hl
 | _ :: _,[],hl,_ => by simp at hl
def Af2 (L : List Nat) (r : Res) : Option (AV × List AO) :=
 match r with
 | some (v,U) => match H6 L 0 U L with
  | some l => some (v.ren L 0,l)
  | none => none
 | none => none
def S9 (a₀ : List AV) (v₀ : AV) (o₀ : List AO) (args : List AV) (U : Sto) : Res :=
 match AV.beqs args a₀ with
 | true => match Ake (List.range o₀.length) (nx U) o₀ with
  | some l => some (v₀.ren (List.range o₀.length) (nx U),Hi l U)
  | none => none
 | false => none
theorem Vi {L : List Nat} {b : Nat} {U : Sto} {M : List Nat} {l : List AO} (h : H6 L b U M = some l) : l.length = M.length := (M2 h).1
theorem Ail {E : Env} {lf n f : Nat} {a₀ : List AV} {L : List Nat} {v₀ : AV} {o₀ : List AO} (ep : Be E (Jq E lf n)) (hgl : ∀ g,E.gl g = none) (hcl : AV.closeds a₀ = true) (hL : L.Nodup)
  (bx : Af2 L (Jq E lf n f a₀ ⟨.e,0⟩) = some (v₀,o₀)) : Ev E f (S9 a₀ v₀ o₀) := by
 intro C w U args vs v U' hs hg bj h;unfold S9 at h
 split at h
 ·rename_i hb
  have := AV.beqs_eq _ _ hb;subst this
  split at h
  ·rename_i l hl
   cases h;unfold Af2 at bx
   split at bx
   ·rename_i v₁ U₁ dh
    split at bx
    ·rename_i l₀ hl₀
     cases bx
     obtain ⟨jc,hc⟩ := ep f C.iso w ⟨.e,0⟩ args vs v₁ U₁ hs.iso ⟨fun g cs hh => (by rw [hgl g] at hh; cases hh),fun c P hc => by rw [C.iso_own]; exact hg.2 c P hc⟩
      (RL.closed (fun c hc => by rwa [C.iso_own] at hc) _ _ hcl bj) dh
     refine ⟨jc,hc.mono fun e w' he => ?_⟩
     cases e with
     | returned x =>
      obtain ⟨C₁,h1,h2,h3⟩ := he;obtain ⟨C₂,k1,k2,k3⟩ := Akd hs.iso h1 (C.iso_own).symm rfl h2 h3 hL hl₀;have bv := Vi hl₀
      have hl2 : H6 (List.range o₀.length) (nx U) (Hi o₀ ⟨.e,0⟩) (List.range o₀.length) = some l := by
       rw [Q7 _ o₀ (by simp) fun i a ha => ?_]
       ·exact hl
       ·obtain ⟨g1,g2⟩ := aa_.1 ha
        simp at g1 g2
        subst g2
        rw [Hj,if_neg (by simp [nx])]
        simp only [nx,ed_];rw [an_ g1]
      exact Akd hs k1 rfl rfl k2 k3 List.nodup_range hl2
     | panicked _ => exact he.elim
     | outgrown => exact he.elim
    ·cases bx
   ·cases bx
  ·cases h
 ·cases h
def Akf (a₀ : List AV) (v₀ : AV) (args : List AV) (U : Sto) : Res :=
 match AV.beqs args a₀ with
 | true => some (v₀,U)
 | false => none
mutual
theorem Q8 {L : List Nat} {b : Nat} : ∀ (x : AV),x.closed = true -> x.ren L b = x
 | .pr _ _,k => by simp [AV.closed] at k
 | .sr _ _ _ _ _,k => by simp [AV.closed] at k
 | .mp _,k => by simp [AV.closed] at k
 | .it _,k => by simp [AV.closed] at k
 | .stp _,k => by simp [AV.closed] at k
 | .yl _,k => by simp [AV.closed] at k
 | .flt _ _,_ => by unfold AV.ren; rfl
 | .pv cs,k => by simp only [AV.closed] at k; unfold AV.ren; rw [F5 cs k]
 | .sv cs _ _ _,k => by simp only [AV.closed] at k; unfold AV.ren; rw [F5 cs k]
 | .fn f p q,k => by simp only [AV.closed,af_] at k; unfold AV.ren; rw [F5 p k.1,F5 q k.2]
 | .ifc t x,k => by simp only [AV.closed] at k; unfold AV.ren; rw [Q8 x k]
 | .agg cs,k => by simp only [AV.closed] at k; unfold AV.ren; rw [F5 cs k]
 | .tup cs,k => by simp only [AV.closed] at k; unfold AV.ren; rw [F5 cs k]
 | .any,_ => by unfold AV.ren; rfl
 | .bool _,_ => by unfold AV.ren; rfl
 | .int _ _,_ => by unfold AV.ren; rfl
 | .str _,_ => by unfold AV.ren; rfl
 | .nil _,_ => by unfold AV.ren; rfl
theorem F5 {L : List Nat} {b : Nat} : ∀ (l : List AV),AV.closeds l = true -> AV.rens L b l = l
 | [],_ => by unfold AV.rens; rfl
 | x :: r,k => by
  simp only [AV.closeds,af_] at k;unfold AV.rens;rw [Q8 x k.1,F5 r k.2]
end
theorem Af3 {E : Env} {lf n f : Nat} {a₀ : List AV} {v₀ : AV} (ep : Be E (Jq E lf n)) (hgl : ∀ g,E.gl g = none) (hcl : AV.closeds a₀ = true) (hv : v₀.closed = true)
  (bx : Af2 [] (Jq E lf n f a₀ ⟨.e,0⟩) = some (v₀,[])) : Ev E f (Akf a₀ v₀) := by
 intro C w U args vs v U' hs hg bj h;refine Ail ep hgl hcl gc_ bx C w U args vs v U' hs hg bj ?_;unfold Akf at h;unfold S9
 split at h
 ·rename_i hb
  cases h;rw [Q8 _ hv]
  rfl
 ·cases h
theorem Ev.env {E E' : Env} (hP : E.P = E'.P) (hg : E.gl = E'.gl) (hh : E.hold = E'.hold) {f : Nat} {g : List AV -> Sto -> Res} (h : Ev E f g) : Ev E' f g := by
 obtain ⟨P,gl,s,d,b,o⟩ := E;obtain ⟨P',gl',s',d',b',o'⟩ := E';simp only at hP hg hh;subst hP hg hh;exact h
end
def M3 : Obj -> Bool
 | .cells .. => false
 | _ => true
structure Hs (w w' : World) (l : Nat) : Prop where
 size : w'.heap.size = w.heap.size
 other : ∀ b,b ≠ l -> w'.heap[b]? = w.heap[b]?
 was : ∃ o,w.heap[l]? = some o /\ M3 o = true
 is : ∃ o,w'.heap[l]? = some o /\ M3 o = true
 os : w'.os = w.os /\ w'.output = w.output
theorem Hs.put {w : World} {l : Nat} {o o' : Obj} (h : w.heap[l]? = some o) (h1 : M3 o = true) (h2 : M3 o' = true) : Hs w (w.putObj l o') l :=
 ⟨World.putObj_size,fun b hb => World.putObj_heap_other hb,⟨o,h,h1⟩,⟨o',World.putObj_heap_same (ba_.1 h).1,h2⟩,rfl,rfl⟩
section
variable {C : Ctx} {N : Nat} {w w' : World} {l : Nat}
theorem Hs.cell (t : Hs w w' l) {a : Addr} {v : Value} (h : w.cell? a = some v) : w'.cell? a = some v := by
 by_cases hb : a.block = l
 ·obtain ⟨o,h1,h2⟩ := t.was;unfold World.cell? at h;rw [hb,h1] at h;cases o <;> simp [M3] at h2 <;> simp at h
 ·unfold World.cell? at *;rw [t.other _ hb]; exact h
theorem Hs.csize (t : Hs w w' l) (c : Nat) : csize w' c = csize w c := by
 unfold AM.csize
 by_cases hb : c = l
 ·subst hb;obtain ⟨o,h1,h2⟩ := t.was;obtain ⟨o',k1,k2⟩ := t.is;rw [h1,k1];cases o <;> simp [M3] at h2 <;> cases o' <;> simp [M3] at k2 <;> rfl
 ·rw [t.other _ hb]
mutual
theorem R.turn (t : Hs w w' l) : ∀ (x : AV) (v : Value),R C N w x v -> R C N w' x v
 | .pr _ _,v,hr => by unfold R at *; exact hr
 | .sr a off sz len cap,v,hr => by
  unfold R at *;obtain ⟨ad,k,h1,h2,h3,h4,h5⟩ := hr
  exact ⟨ad,k,h1,h2,h3,h4,fun c o hc => by rw [t.csize]; exact h5 c o hc⟩
 | .mp _,v,hr => by unfold R at *; exact hr
 | .it _,v,hr => by unfold R at *; exact hr
 | .stp _,v,hr => by unfold R at *; exact hr
 | .yl _,v,hr => by unfold R at *; exact hr
 | .flt _ _,v,hr => by unfold R at *; exact hr
 | .pv cs,v,hr => by
  unfold R at *;obtain ⟨c,o,h1,h2,h3⟩ := hr;exact ⟨c,o,h1,h2,RC.turn t cs c o h3⟩
 | .sv cs sz len cap,v,hr => by
  unfold R at *;obtain ⟨ado,q,h1,h2,h3,h4,h0,hh⟩ := hr;refine ⟨ado,q,h1,h2,h3,h4,h0,fun ad ha => ?_⟩
  obtain ⟨h5,h6,h7⟩ := hh ad ha;exact ⟨h5,h6,RC.turn t cs ad.block ad.off h7⟩
 | .fn f p q,v,hr => by
  unfold R at *;obtain ⟨a,c,h1,h2,h3⟩ := hr;exact ⟨a,c,h1,RL.turn t p _ h2,RL.turn t q _ h3⟩
 | .ifc ty x,v,hr => by
  unfold R at *;obtain ⟨y,h1,h2⟩ := hr;exact ⟨y,h1,R.turn t x y h2⟩
 | .agg cs,v,hr => by
  unfold R at *;obtain ⟨a,h1,h2,h3⟩ := hr;exact ⟨a,h1,RL.turn t cs _ h2,h3⟩
 | .tup vs,v,hr => by
  unfold R at *;obtain ⟨a,h1,h2⟩ := hr;exact ⟨a,h1,RL.turn t vs _ h2⟩
 | .any,v,hr => by unfold R; trivial
 | .bool x,v,hr => by unfold R at *; exact hr
 | .int k' n,v,hr => by unfold R at *; exact hr
 | .str l,v,hr => by unfold R at *; exact hr
 | .nil y,v,hr => by unfold R at *; exact hr
theorem RC.turn (t : Hs w w' l) : ∀ (cs : List AV) (c o : Nat),RC C N w c cs o -> RC C N w' c cs o
 | [],c,o,_ => by unfold RC; trivial
 | x :: r,c,o,hr => by
  unfold RC at *;obtain ⟨⟨v,h1,h2,h3⟩,h4⟩ := hr;exact ⟨⟨v,t.cell h1,h2,R.turn t x v h3⟩,RC.turn t r c (o + 1) h4⟩
theorem RL.turn (t : Hs w w' l) : ∀ (l : List AV) (vs : List Value),RL C N w l vs -> RL C N w' l vs
 | [],[],_ => by unfold RL; trivial
 | x :: r,v :: s,hr => by
  unfold RL at *;exact ⟨R.turn t x v hr.1,RL.turn t r s hr.2⟩
 | [],_ :: _,hr => by unfold RL at hr; exact hr.elim
 | _ :: _,[],hr => by unfold RL at hr; exact hr.elim
end
theorem ER.turn (t : Hs w w' l) : ∀ {l : List (Key × AV)} {L : List MapEntry},ER C N w l L -> ER C N w' l L
 | [],[],_ => by unfold ER; trivial
 | x :: r,f :: s,h => by unfold ER at *; exact ⟨⟨h.1.1,R.turn t _ _ h.1.2⟩,ER.turn t h.2⟩
 | [],_ :: _,h => by unfold ER at h; exact h.elim
 | _ :: _,[],h => by unfold ER at h; exact h.elim
theorem OR.turn {P : Program} {U : Sto} {a : Nat} {O : AO} (h : OR P C w U a O) (t : Hs w w' l) (hl : ¬ C.own l) : OR P C w' U a O := by
 have hh : ∀ {a c o},C.loc a = some (c,o) -> w'.heap[c]? = w.heap[c]? := fun {a c o} hc => t.other c (fun e => hl (.inr ⟨a,o,e ▸ hc⟩))
 cases O with
 | cells vs =>
  obtain ⟨c,o,cs,T,h1,h2,h3⟩ := h;exact ⟨c,o,cs,T,h1,(hh h1).trans h2,RC.turn t _ _ _ h3⟩
 | map kt es ver =>
  obtain ⟨c,E,clock,h1,h2,h3⟩ := h;obtain ⟨L,k1,k2⟩ := h3.perm;exact ⟨c,E,clock,h1,(hh h1).trans h2,h3.typed,⟨L,k1,ER.turn t k2⟩,h3.keys,h3.born,h3.apart⟩
 | iter m ver left cur =>
  cases m with
  | none =>
   obtain ⟨c,since,seen,last,h1,h2,h3⟩ := h;exact ⟨c,since,seen,last,h1,(hh h1).trans h2,h3⟩
  | some m =>
   obtain ⟨h0,c,cm,since,seen,last,h1,h2,h3⟩ := h;refine ⟨h0,c,cm,since,seen,last,h1,(hh h1).trans h2,fun kt es' v' hg => ?_⟩
   obtain ⟨k1,k2⟩ := h3 kt es' v' hg;refine ⟨k1,fun hv => ?_⟩
   obtain ⟨E,q1,q2,q3,⟨L,q4,q5⟩,q6⟩ := k2 hv;exact ⟨E,q1,(hh q1).trans q2,q3,⟨L,q4,ER.turn t q5⟩,fun k x hk => let ⟨f,f1,f2,f3,f4⟩ := q6 k x hk; ⟨f,f1,f2,f3,R.turn t _ _ f4⟩⟩
 | stamp m ver k =>
  obtain ⟨h0,h3⟩ := h;refine ⟨h0,fun kt es' v' hg => ?_⟩
  obtain ⟨k1,k2⟩ := h3 kt es' v' hg;refine ⟨k1,fun hv => ?_⟩
  obtain ⟨cm,E,clock,q1,q2,f⟩ := k2 hv;exact ⟨cm,E,clock,q1,(hh q1).trans q2,f⟩
 | loop st =>
  obtain ⟨c,r,h1,h2,h3⟩ := h;exact ⟨c,r,h1,h2,(hh h1).trans h3⟩
theorem Sim.turn {P : Program} {U : Sto} (h : Sim P C w U) (t : Hs w w' l) (hl : ¬ C.own l) : Sim P C w' U :=
 ⟨fun a O hg => (h.obj a O hg).turn t hl,h.bound,h.dom,h.inj,fun a c o hc => by rw [t.size]; exact h.lt a c o hc,fun b hb => by rw [t.size]; exact h.rlt b hb,h.rdis⟩
def Sto.bump (U : Sto) : Sto := match U with | ⟨t,n⟩ => B9 (n + 1) fun n => ⟨t,n⟩
theorem A8 (U : Sto) : nx U.bump = nx U + 1 := by cases U; simp only [Sto.bump,Ai,nx]
theorem Cy (U : Sto) (a : Nat) : U.bump.get a = U.get a := by cases U; simp only [Sto.bump,Ai,Sto.get]
theorem Sim.bump {P : Program} {U : Sto} (h : Sim P C w U) (n : Int) :
  Sim P (C.addStm (nx U) n) w U.bump /\ Ext C (nx U) w (C.addStm (nx U) n) (nx U + 1) w := by
 have hne : ∀ {a},a < nx U -> ¬ a = nx U := fun h => by omega
 have e : Ext C (nx U) w (C.addStm (nx U) n) (nx U + 1) w := ⟨by omega,nl,fun b _ ho => ⟨ho,rfl⟩,fun _ _ _ h => h,
  fun a ha => by simp [Ctx.addStm,hne ha],fun _ _ => rfl,fun _ _ _ _ _ => rfl,⟨rfl,fun _ _ => rfl⟩,rfl,rfl⟩
 refine ⟨⟨fun a X hg => ?_,fun a X hg => ?_,fun a q hq => ?_,h.inj,h.lt,h.rlt,h.rdis⟩,e⟩
 ·rw [Cy] at hg
  refine (h.obj a X hg).ext (by rw [A8]; exact e) (h.bound a X hg) rfl (fun _ _ _ => rfl) fun x hx kt es' v' hg' => ?_
  rw [Cy] at hg';exact ⟨kt,es',v',hg',nl,fun _ => ⟨rfl,fun _ _ _ => rfl⟩⟩
 ·rw [A8]; rw [Cy] at hg; have := h.bound a X hg; omega
 ·rw [Cy]; exact h.dom a q hq
theorem Gc.turn {E : Env} (t : Hs w w' l) (h : Gc C N w E) : Gc C N w' E := by
 refine ⟨fun g cs hg => R.turn t _ _ (h.1 g cs hg),fun c P hc => ?_⟩
 obtain ⟨h1,cs,T,fz,h2,h3⟩ := h.2 c P hc;refine ⟨h1,cs,T,fz,(t.other c fun e => ?_).trans h2,h3⟩
 obtain ⟨o,k1,k2⟩ := t.was;rw [← e,h2] at k1;cases k1;cases k2
end
structure Ar2 where
 reg : Nat -> Option (Array Oper -> St -> Out)
 rng : Operand -> Array Tmp -> Code -> Code -> St -> Out
def Vj (E : Env) (lf : Nat) (R : Rec) (H : Ar2) : Code -> St -> Out
 | .region id ops draw,s => match H.reg id with
  | some g => match draw with | false => g ops s | true => none
  | none => Fp E lf R (.region id ops draw) s
 | .rangeFunc f ps a b,s => H.rng f ps a b s
 | .seq a b,s => match Vj E lf R H a s with
  | some l => Qe (Vj E lf R H b) l
  | none => none
 | .cond c a b,s => match opd E s.tm c with
  | .bool true => Vj E lf R H a s
  | .bool false => Vj E lf R H b s
  | _ => none
 | .block id a,s => match Vj E lf R H a s with | some l => some (H2 id l) | none => none
 | .loop a,s => match Aby (Vj E lf R H a) lf s with
  | some l => Pg l
  | none => none
 | .skip,s => some [(.normal,s)]
 | .exit id,s => some [(.exit id,s)]
 | .ret,s => some [(.ret,s)]
 | _,_ => none
section
variable {E : Env} {Rr : Rec} {Inv : Ctx -> Nat -> World -> Prop} {H : Ar2}
def endsH (E : Env) (fn : Func) (l : List (XE × St)) : Res :=
 match Qw (l.map (finA E fn.results.toList)) with
 | some rs => Yj rs
 | none => none
theorem Oj {C : Ctx} {w : World} {U : Sto} {args : List AV} {vs : Array Value} {fn : Func} (hs : Sim E.P C w U) (hg : Gc C (nx U) w E) (bj : RL C (nx U) w args vs.toList) (hle : args.length <= fn.ntmps) :
  SSt E C w ⟨Fq args 0 .e,fn.ntmps,[],U⟩ { tmps := vs ++ Array.replicate (fn.ntmps - vs.size) undef,defers := [] } := by
 have bv := bj.length;simp only [bx_] at bv
 refine ⟨hs,hg,fun i y hy => ?_,by simp; omega,by unfold DR; trivial⟩
 simp only at hy;rw [E6] at hy
 split at hy
 ·rename_i hi
  rw [ed_] at hy;obtain ⟨x,k1,k2⟩ := bj.get i y hy
  have : (vs ++ Array.replicate (fn.ntmps - vs.size) undef).getD i undef = x := by
   rw [bd_,cw_ Om,← bb_,k1]; rfl
  rw [this]; exact k2
 ·simp [Tr.get] at hy
end
section
mutual
def AV.und (N : Nat) : AV -> Bool
 | .pr a _ => Nat.blt a N
 | .sr a _ _ _ _ => Nat.blt a N
 | .mp a => Nat.blt a N
 | .it a => Nat.blt a N
 | .stp a => Nat.blt a N
 | .yl a => Nat.blt a N
 | .pv cs => AV.unds N cs
 | .sv cs _ _ _ => AV.unds N cs
 | .fn _ p q => AV.unds N p && AV.unds N q
 | .ifc _ x => AV.und N x
 | .agg cs => AV.unds N cs
 | .tup vs => AV.unds N vs
 | _ => true
def AV.unds (N : Nat) : List AV -> Bool
 | [] => true
 | x :: r => AV.und N x && AV.unds N r
end
structure Aim (C' C : Ctx) : Prop where
 loc : ∀ a p,C'.loc a = some p -> C.loc a = some p
 stm : C'.stm = C.stm
 lr : C'.lr = C.lr
 res : C'.res = C.res
section
variable {C : Ctx} {N M : Nat} {w : World}
theorem Ce {a N : Nat} (h : a < N) : Nat.blt a N = true := by simpa using h
theorem F6 {a N : Nat} (h : Nat.blt a N = true) : a < N := by simpa using h
mutual
theorem R.und : ∀ (x : AV) (v : Value),R C N w x v -> AV.und N x = true
 | .any,_,_ => rfl
 | .bool _,_,_ => rfl
 | .int _ _,_,_ => rfl
 | .str _,_,_ => rfl
 | .nil _,_,_ => rfl
 | .flt _ _,_,_ => rfl
 | .pr a _,v,h => by unfold R at h; obtain ⟨_,_,h,_⟩ := h; exact Ce h
 | .sr a _ _ _ _,v,h => by unfold R at h; obtain ⟨_,_,_,h,_⟩ := h; exact Ce h
 | .mp a,v,h => by unfold R at h; obtain ⟨_,_,h,_⟩ := h; exact Ce h
 | .it a,v,h => by unfold R at h; obtain ⟨_,_,h,_⟩ := h; exact Ce h
 | .stp a,v,h => by unfold R at h; exact Ce h.2
 | .yl a,v,h => by unfold R at h; exact Ce h.2
 | .pv cs,v,h => by unfold R at h; obtain ⟨c,o,_,_,h⟩ := h; exact RC.unds cs c o h
 | .sv cs sz len cap,v,h => by
  unfold R at h;obtain ⟨ado,k,_,h1,_,h2,h3,h4⟩ := h;cases ado with
  | none =>
   have hk := h3 rfl
   have hl : len = 0 := by omega
   rw [hl,ew_] at h2;have := bl_ h2;subst this; rfl
  | some ad => exact RC.unds cs _ _ (h4 ad rfl).2.2
 | .fn _ p q,v,h => by
  unfold R at h; obtain ⟨a,b,_,h1,h2⟩ := h;simp only [AV.und,af_]; exact ⟨RL.unds p _ h1,RL.unds q _ h2⟩
 | .ifc _ x,v,h => by unfold R at h; obtain ⟨y,_,h⟩ := h; exact R.und x y h
 | .agg cs,v,h => by unfold R at h; obtain ⟨a,_,h,_⟩ := h; exact RL.unds cs _ h
 | .tup vs,v,h => by unfold R at h; obtain ⟨a,_,h⟩ := h; exact RL.unds vs _ h
theorem RC.unds : ∀ (cs : List AV) (c o : Nat),RC C N w c cs o -> AV.unds N cs = true
 | [],_,_,_ => rfl
 | x :: r,c,o,h => by
  unfold RC at h;obtain ⟨⟨v,_,_,h1⟩,h2⟩ := h;simp only [AV.unds,af_]; exact ⟨R.und x v h1,RC.unds r c (o + 1) h2⟩
theorem RL.unds : ∀ (l : List AV) (vs : List Value),RL C N w l vs -> AV.unds N l = true
 | [],[],_ => rfl
 | x :: r,v :: s,h => by
  unfold RL at h;simp only [AV.unds,af_]; exact ⟨R.und x v h.1,RL.unds r s h.2⟩
 | [],_ :: _,h => by unfold RL at h; exact h.elim
 | _ :: _,[],h => by unfold RL at h; exact h.elim
end
theorem Aim.own {C' : Ctx} (k : Aim C' C) {c : Nat} (h : C'.own c) : C.own c := by
 rcases h with h | ⟨a,o,h⟩
 ·exact .inl (by rw [← k.res]; exact h)
 ·exact .inr ⟨a,o,k.loc a _ h⟩
variable {C' : Ctx}
mutual
theorem R.cut (k : Aim C' C) : ∀ (x : AV) (v : Value),AV.und M x = true -> R C N w x v -> R C' M w x v
 | .any,_,_,_ => by unfold R; trivial
 | .bool _,_,_,h => by unfold R at *; exact h
 | .int _ _,_,_,h => by unfold R at *; exact h
 | .str _,_,_,h => by unfold R at *; exact h
 | .nil _,_,_,h => by unfold R at *; exact h
 | .flt _ _,_,_,h => by unfold R at *; exact h
 | .pr a _,v,b,h => by
  unfold R at *; obtain ⟨ad,h1,h2,h3⟩ := h;exact ⟨ad,h1,F6 b,fun c o hc => h3 c o (k.loc _ _ hc)⟩
 | .sr a _ _ _ _,v,b,h => by
  unfold R at *; obtain ⟨ad,kk,h1,h2,h3,h4,h5⟩ := h;exact ⟨ad,kk,h1,F6 b,h3,h4,fun c o hc => h5 c o (k.loc _ _ hc)⟩
 | .mp a,v,b,h => by
  unfold R at *; obtain ⟨c,h1,h2,h3⟩ := h;exact ⟨c,h1,F6 b,fun c' o hc => h3 c' o (k.loc _ _ hc)⟩
 | .it a,v,b,h => by
  unfold R at *; obtain ⟨c,h1,h2,h3⟩ := h;exact ⟨c,h1,F6 b,fun c' o hc => h3 c' o (k.loc _ _ hc)⟩
 | .stp a,v,b,h => by unfold R at *; rw [k.stm]; exact ⟨h.1,F6 b⟩
 | .yl a,v,b,h => by unfold R at *; rw [k.stm]; exact ⟨h.1,F6 b⟩
 | .pv cs,v,b,h => by
  unfold R at *; obtain ⟨c,o,h1,h2,h3⟩ := h;exact ⟨c,o,h1,fun hne ho => h2 hne (k.own ho),RC.cut k cs c o b h3⟩
 | .sv cs sz len cap,v,b,h => by
  unfold R at *;obtain ⟨ado,kk,h1,h2,h3,h4,h0,hh⟩ := h;refine ⟨ado,kk,h1,h2,h3,h4,h0,fun ad ha => ?_⟩
  obtain ⟨h5,h6,h7⟩ := hh ad ha;exact ⟨h5,fun hne ho => h6 hne (k.own ho),RC.cut k cs _ _ b h7⟩
 | .fn _ p q,v,b,h => by
  simp only [AV.und,af_] at b;unfold R at *; obtain ⟨a,c,h1,h2,h3⟩ := h;exact ⟨a,c,h1,RL.cut k p _ b.1 h2,RL.cut k q _ b.2 h3⟩
 | .ifc _ x,v,b,h => by unfold R at *; obtain ⟨y,h1,h2⟩ := h; exact ⟨y,h1,R.cut k x y b h2⟩
 | .agg cs,v,b,h => by unfold R at *; obtain ⟨a,h1,h2,h3⟩ := h; exact ⟨a,h1,RL.cut k cs _ b h2,h3⟩
 | .tup vs,v,b,h => by unfold R at *; obtain ⟨a,h1,h2⟩ := h; exact ⟨a,h1,RL.cut k vs _ b h2⟩
theorem RC.cut (k : Aim C' C) : ∀ (cs : List AV) (c o : Nat),AV.unds M cs = true -> RC C N w c cs o -> RC C' M w c cs o
 | [],_,_,_,_ => by unfold RC; trivial
 | x :: r,c,o,b,h => by
  simp only [AV.unds,af_] at b;unfold RC at *;obtain ⟨⟨v,h1,h2,h3⟩,h4⟩ := h;exact ⟨⟨v,h1,h2,R.cut k x v b.1 h3⟩,RC.cut k r c (o + 1) b.2 h4⟩
theorem RL.cut (k : Aim C' C) : ∀ (l : List AV) (vs : List Value),AV.unds M l = true -> RL C N w l vs -> RL C' M w l vs
 | [],[],_,_ => by unfold RL; trivial
 | x :: r,v :: s,b,h => by
  simp only [AV.unds,af_] at b;unfold RL at *;exact ⟨R.cut k x v b.1 h.1,RL.cut k r s b.2 h.2⟩
 | [],_ :: _,_,h => by unfold RL at h; exact h.elim
 | _ :: _,[],_,h => by unfold RL at h; exact h.elim
end
def Ih (N : Nat) (es : List (Key × AV)) : Bool := es.all fun x => AV.und N x.2
theorem ER.und : ∀ {es : List (Key × AV)} {L : List MapEntry},ER C N w es L -> Ih N es = true
 | [],[],_ => rfl
 | x :: r,f :: s,h => by
  unfold ER at h;simp only [Ih,dy_,af_];exact ⟨R.und _ _ h.1.2,ER.und h.2⟩
 | [],_ :: _,h => by unfold ER at h; exact h.elim
 | _ :: _,[],h => by unfold ER at h; exact h.elim
theorem ER.cut (k : Aim C' C) : ∀ {es : List (Key × AV)} {L : List MapEntry},Ih M es = true -> ER C N w es L -> ER C' M w es L
 | [],[],_,_ => by unfold ER; trivial
 | x :: r,f :: s,b,h => by
  simp only [Ih,dy_,af_] at b;unfold ER at *;exact ⟨⟨h.1.1,R.cut k _ _ b.1 h.1.2⟩,ER.cut k b.2 h.2⟩
 | [],_ :: _,_,h => by unfold ER at h; exact h.elim
 | _ :: _,[],_,h => by unfold ER at h; exact h.elim
end
mutual
inductive Fz (U τ : Sto) : AV -> AV -> Prop
 | same {v : AV} : AV.und (nx τ) v = true -> Fz U τ v v
 | any {v : AV} : Fz U τ v .any
 | pr {a off : Nat} {vs l : List AV} : U.get a = some (.cells vs) -> τ.get a = none -> FzL U τ (vs.drop off) l -> Fz U τ (.pr a off) (.pv l)
 | sr {a off sz len : Nat} {cap : Option Nat} {vs cs l : List AV} : U.get a = some (.cells vs) -> τ.get a = none -> C7 (len * sz) (vs.drop off) = some cs -> FzL U τ cs l -> Fz U τ (.sr a off sz len cap) (.sv l sz len none)
 | nils {sz : Nat} {cap : Option Nat} : (∀ q,cap = some q -> q = 0) -> Fz U τ (.nil (.slice none 0 0)) (.sv [] sz 0 cap)
 | agg {a b : List AV} : FzL U τ a b -> Fz U τ (.agg a) (.agg b)
 | tup {a b : List AV} : FzL U τ a b -> Fz U τ (.tup a) (.tup b)
 | sv {a b : List AV} {sz len : Nat} {cap cap' : Option Nat} : (∀ q,cap' = some q -> cap = some q) -> FzL U τ a b -> Fz U τ (.sv a sz len cap) (.sv b sz len cap')
inductive FzL (U τ : Sto) : List AV -> List AV -> Prop
 | nil : FzL U τ [] []
 | cons {x y : AV} {r s : List AV} : Fz U τ x y -> FzL U τ r s -> FzL U τ (x :: r) (y :: s)
end
theorem FzL.length {U τ : Sto} : ∀ {a b : List AV},FzL U τ a b -> a.length = b.length
 | _,_,.nil => rfl
 | _,_,.cons _ h => by simp [FzL.length h]
theorem FzL.same {U τ : Sto} : ∀ {a : List AV},AV.unds (nx τ) a = true -> FzL U τ a a
 | [],_ => .nil
 | x :: r,h => by simp only [AV.unds,af_] at h; exact .cons (.same h.1) (FzL.same h.2)
abbrev fb_ := @FzL.same
section
variable {P : Program} {C : Ctx} {w : World} {U τ : Sto}
theorem Ctx.keep_sub (C : Ctx) (τ : Sto) : Aim (C.keep τ) C := by
 refine ⟨fun a p h => ?_,rfl,rfl,rfl⟩
 simp only [Ctx.keep] at h
 split at h
 ·exact h
 ·cases h
theorem Sim.freed (h : Sim P C w U) {a c o : Nat} (hl : C.loc a = some (c,o)) (ht : τ.get a = none) : ¬ (C.keep τ).own c := by
 rintro (hr | ⟨b,o',hb⟩)
 ·exact h.rdis a c o hl hr
 ·simp only [Ctx.keep] at hb
  split at hb
  ·rename_i hs
   have := h.inj a b c o o' hl hb;subst this;rw [ht] at hs; cases hs
  ·cases hb
mutual
theorem Fz.R (h : Sim P C w U) : ∀ {v v' : AV} {x : Value},Fz U τ v v' -> R C (nx U) w v x -> R (C.keep τ) (nx τ) w v' x
 | v,_,x,.same hu,hr => R.cut (C.keep_sub τ) v x hu hr
 | v,_,x,.any,hr => by unfold AM.R; trivial
 | .pr a off,_,x,.pr (vs := vs) (l := l) hg ht hl,hr => by
  obtain ⟨c,o,cs,T,k1,k2,k3⟩ := h.obj a _ hg;unfold AM.R at hr ⊢;obtain ⟨ad,rfl,_,h3⟩ := hr;have := h3 c o k1;subst this;exact ⟨c,o + off,rfl,fun _ => h.freed k1 ht,FzL.RC h hl (k3.drop off)⟩
 | .sr a off sz len cap,_,x,.sr (vs := vs) (cs := cs) (l := l) hg ht hk hl,hr => by
  obtain ⟨c,o,cs₀,T,k1,k2,k3⟩ := h.obj a _ hg;unfold AM.R at hr ⊢;obtain ⟨ad,k,rfl,_,h4,h5,h6⟩ := hr;obtain ⟨q1,q2⟩ := h6 c o k1;obtain ⟨t1,t2⟩ := Gw hk
  have bv : l.length = len * sz := by rw [← hl.length]; exact t2
  refine ⟨some ad,k,rfl,h4,fun q hq => (by cases hq),bv,fun hh => (by cases hh),fun ad' ha => ?_⟩
  cases ha
  have cv : l ≠ [] -> 0 < k := fun hne => by
   rcases cy_ len with h0 | h0
   ·rw [h0,ew_] at bv; exact absurd (bl_ bv) hne
   ·omega
  refine ⟨fun hk => by rw [q1 hk],fun hne => by rw [q1 (cv hne)]; exact h.freed k1 ht,?_⟩
  by_cases hne : l = []
  ·subst hne; unfold AM.RC; trivial
  ·rw [q1 (cv hne)];exact FzL.RC h hl ((k3.drop off).take _ hk)
 | _,_,x,.nils (sz := sz) hc,hr => by
  unfold AM.R at hr ⊢;obtain ⟨rfl,_⟩ := hr
  exact ⟨none,0,rfl,nl,fun q hq => (hc q hq).symm,by simp,fun _ => rfl,fun ad ha => by cases ha⟩
 | _,_,x,.agg hl,hr => by
  unfold AM.R at hr ⊢;obtain ⟨a,h1,h2,h3⟩ := hr;exact ⟨a,h1,FzL.RL h hl h2,h3⟩
 | _,_,x,.tup hl,hr => by
  unfold AM.R at hr ⊢;obtain ⟨a,h1,h2⟩ := hr;exact ⟨a,h1,FzL.RL h hl h2⟩
 | _,_,x,.sv (a := a) (b := b) hc hl,hr => by
  unfold AM.R at hr ⊢;obtain ⟨ado,k,h1,h2,h3,h4,h5,h6⟩ := hr
  refine ⟨ado,k,h1,h2,fun q hq => h3 q (hc q hq),by rw [← hl.length]; exact h4,h5,fun ad ha => ?_⟩
  obtain ⟨q1,q2,q3⟩ := h6 ad ha;refine ⟨q1,fun hne ho => q2 (fun h0 => ?_) ((C.keep_sub τ).own ho),FzL.RC h hl q3⟩
  have := hl.length;rw [h0] at this;exact hne (bl_ this.symm)
theorem FzL.RL (h : Sim P C w U) : ∀ {l l' : List AV} {xs : List Value},FzL U τ l l' -> RL C (nx U) w l xs -> RL (C.keep τ) (nx τ) w l' xs
 | _,_,[],.nil,hr => by unfold AM.RL; trivial
 | _,_,_ :: _,.nil,hr => by unfold AM.RL at hr; exact hr.elim
 | _,_,[],.cons _ _,hr => by unfold AM.RL at hr; exact hr.elim
 | _,_,x :: xs,.cons h1 h2,hr => by unfold AM.RL at hr ⊢; exact ⟨Fz.R h h1 hr.1,FzL.RL h h2 hr.2⟩
theorem FzL.RC (h : Sim P C w U) : ∀ {l l' : List AV} {c o : Nat},FzL U τ l l' -> RC C (nx U) w c l o -> RC (C.keep τ) (nx τ) w c l' o
 | _,_,_,_,.nil,hr => by unfold AM.RC; trivial
 | _,_,c,o,.cons h1 h2,hr => by
  unfold AM.RC at hr ⊢;obtain ⟨⟨v,k1,k2,k3⟩,k4⟩ := hr;exact ⟨⟨v,k1,k2,Fz.R h h1 k3⟩,FzL.RC h h2 k4⟩
end
def Amg (U τ : Sto) : List (Key × AV) -> List (Key × AV) -> Prop
 | [],[] => True
 | x :: r,y :: s => x.1 = y.1 /\ Fz U τ x.2 y.2 /\ Amg U τ r s
 | _,_ => False
theorem Amg.ER (h : Sim P C w U) : ∀ {l l' : List (Key × AV)} {L : List MapEntry},Amg U τ l l' -> ER C (nx U) w l L -> ER (C.keep τ) (nx τ) w l' L
 | [],[],[],_,_ => by unfold AM.ER; trivial
 | [],[],_ :: _,_,hr => by unfold AM.ER at hr; exact hr.elim
 | _ :: _,_ :: _,[],_,hr => by unfold AM.ER at hr; exact hr.elim
 | x :: r,y :: s,f :: L,hf,hr => by
  obtain ⟨h1,h2,h3⟩ := hf;unfold AM.ER at hr ⊢
  exact ⟨⟨by rw [← h1]; exact hr.1.1,h2.R h hr.1.2⟩,Amg.ER h h3 hr.2⟩
 | [],_ :: _,_,hf,_ => hf.elim
 | _ :: _,[],_,hf,_ => hf.elim
def AO.und (N : Nat) : AO -> Bool
 | .cells vs => AV.unds N vs
 | .map _ es _ => Ih N es
 | .iter m _ _ _ => match m with | none => true | some r => Nat.blt r N
 | .stamp m _ _ => Nat.blt m N
 | .loop _ => true
def Ain (N : Nat) : Option (Key × AV) -> Bool
 | none => true
 | some x => AV.und N x.2
def Zg (τ : Sto) : AO -> Prop
 | .iter (some r) ver left cur => ∀ kt es,τ.get r = some (.map kt es ver) -> Ih (nx τ) left = true /\ Ain (nx τ) cur = true
 | _ => True
inductive FzO (U τ : Sto) : AO -> AO -> Prop
 | iter {m : Option Nat} {ver : Nat} {left : List (Key × AV)} {cur : Option (Key × AV)} : AO.und (nx τ) (.iter m ver left cur) = true -> Zg τ (.iter m ver left cur) -> FzO U τ (.iter m ver left cur) (.iter m ver left cur)
 | stamp {m ver : Nat} {k : Key} : AO.und (nx τ) (.stamp m ver k) = true -> FzO U τ (.stamp m ver k) (.stamp m ver k)
 | cells {a b : List AV} : FzL U τ a b -> FzO U τ (.cells a) (.cells b)
 | map {kt ver : Nat} {a b : List (Key × AV)} : Amg U τ a b -> FzO U τ (.map kt a ver) (.map kt b ver)
 | loop {st : LS} : FzO U τ (.loop st) (.loop st)
def D5 (U τ : Sto) : Prop := nx τ <= nx U /\ ∀ a O,τ.get a = some O -> a < nx τ /\ ∃ O₀,U.get a = some O₀ /\ FzO U τ O₀ O
theorem Sim.frz (h : Sim P C w U) (hf : D5 U τ) : Sim P (C.keep τ) w τ := by
 have k := C.keep_sub τ;refine ⟨fun a O ha => ?_,fun a O ha => (hf.2 a O ha).1,fun a p hp => ?_,fun a b c o o' ha hb => h.inj a b c o o' (k.loc _ _ ha) (k.loc _ _ hb),
  fun a c o ha => h.lt a c o (k.loc _ _ ha),h.rlt,fun a c o ha => h.rdis a c o (k.loc _ _ ha)⟩
 ·obtain ⟨h1,O₀,h2,h3⟩ := hf.2 a O ha;have ho := h.obj a O₀ h2
  have hk : (C.keep τ).loc a = C.loc a := by simp [Ctx.keep,ha]
  cases h3 with
  | cells hl =>
   obtain ⟨c,o,cs,T,k1,k2,k3⟩ := ho;exact ⟨c,o,cs,T,hk.trans k1,k2,hl.RC h k3⟩
  | map hl =>
   obtain ⟨c,E,clock,k1,k2,k3⟩ := ho;exact ⟨c,E,clock,hk.trans k1,k2,k3.typed,let ⟨L,q1,q2⟩ := k3.perm; ⟨L,q1,hl.ER h q2⟩,k3.keys,k3.born,k3.apart⟩
  | loop =>
   obtain ⟨c,r,k1,k2,k3⟩ := ho;exact ⟨c,r,hk.trans k1,k2,k3⟩
  | stamp hu =>
   obtain ⟨k0,k1⟩ := ho
   rename_i m ver ky
   refine ⟨F6 hu,fun kt es ver' hg => ?_⟩
   obtain ⟨_,O₁,g1,g2⟩ := hf.2 m _ hg;cases g2 with
   | map hl =>
    obtain ⟨q1,q2⟩ := k1 _ _ _ g1;refine ⟨q1,fun hv => ?_⟩
    obtain ⟨cm,E,clock,p1,p2,p3⟩ := q2 hv
    exact ⟨cm,E,clock,by simp [Ctx.keep,hg,p1],p2,p3⟩
  | iter u1 hu =>
   rename_i m ver left cur
   cases m with
   | none =>
    obtain ⟨c,since,seen,last,k1,k2,k3⟩ := ho;exact ⟨c,since,seen,last,hk.trans k1,k2,k3⟩
   | some m =>
    obtain ⟨k0,c,cm,since,seen,last,k1,k2,k3⟩ := ho;refine ⟨F6 u1,c,cm,since,seen,last,hk.trans k1,k2,fun kt es ver' hg => ?_⟩
    obtain ⟨_,O₁,g1,g2⟩ := hf.2 m _ hg;cases g2 with
    | map hl =>
     obtain ⟨q1,q2⟩ := k3 _ _ _ g1;refine ⟨q1,fun hv => ?_⟩
     subst hv;obtain ⟨u2,u3⟩ := hu _ _ hg;obtain ⟨E,p1,p2,p3,⟨L,p4,p5⟩,p6⟩ := q2 rfl
     refine ⟨E,by simp [Ctx.keep,hg,p1],p2,p3,⟨L,p4,ER.cut k u2 p5⟩,fun ky x hx => ?_⟩
     obtain ⟨f,f1,f2,f3,f4⟩ := p6 ky x hx;subst hx;exact ⟨f,f1,f2,f3,R.cut k _ _ u3 f4⟩
 ·have hs : (τ.get a).isSome = true := by
   simp only [Ctx.keep] at hp
   split at hp
   ·assumption
   ·cases hp
  obtain ⟨O,hO⟩ := br_.1 hs;obtain ⟨_,O₀,h2,h3⟩ := hf.2 a O hO;obtain ⟨O₁,h4,h5⟩ := h.dom a p (k.loc a p hp);rw [h2] at h4; cases h4;refine ⟨O,hO,?_⟩
  cases h3 <;> first | rfl | exact h5
def WFS (U : Sto) : Prop := ∀ a O,U.get a = some O -> a < nx U /\ AO.und (nx U) O = true /\ Zg U O
theorem Sim.wfs (h : Sim P C w U) : WFS U := by
 intro a O hg;refine ⟨h.bound a O hg,?_⟩;have ho := h.obj a O hg;cases O with
 | cells vs => obtain ⟨c,o,cs,T,_,_,k⟩ := ho; exact ⟨RC.unds _ _ _ k,trivial⟩
 | map kt es ver => obtain ⟨c,E,clock,_,_,k⟩ := ho; obtain ⟨L,_,q⟩ := k.perm; exact ⟨ER.und q,trivial⟩
 | stamp m ver k => exact ⟨Ce ho.1,trivial⟩
 | loop st => exact ⟨rfl,trivial⟩
 | iter m ver left cur =>
  cases m with
  | none => exact ⟨rfl,trivial⟩
  | some r =>
   obtain ⟨k0,c,cm,since,seen,last,k1,k2,k3⟩ := ho;refine ⟨Ce k0,fun kt es hr => ?_⟩
   obtain ⟨_,q2⟩ := k3 _ _ _ hr;obtain ⟨E,p1,p2,p3,⟨L,p4,p5⟩,p6⟩ := q2 rfl;refine ⟨ER.und p5,?_⟩;cases cur with
   | none => rfl
   | some x => obtain ⟨f,f1,f2,f3,f4⟩ := p6 x.1 x.2 rfl; exact R.und _ _ f4
theorem M4 (h : ∀ {v : AV},AV.und (nx τ) v = true -> Fz U τ v v) : ∀ {es : List (Key × AV)},Ih (nx τ) es = true -> Amg U τ es es
 | [],_ => trivial
 | x :: r,k => by
  simp only [Ih,dy_,af_] at k;exact ⟨rfl,h k.1,M4 h k.2⟩
theorem D5.of_same (h : WFS τ) (hn : nx τ <= nx U) (hg : ∀ a,a < nx τ -> U.get a = τ.get a) : D5 U τ := by
 refine ⟨hn,fun a O ha => ?_⟩
 obtain ⟨h1,h2,h3⟩ := h a O ha;refine ⟨h1,O,(hg a h1).trans ha,?_⟩;cases O with
 | cells vs => exact .cells (fb_ h2)
 | map kt es ver => exact .map (M4 .same h2)
 | iter m ver left cur => exact .iter h2 h3
 | stamp m ver k => exact .stamp h2
 | loop st => exact .loop
abbrev ag_ := @D5.of_same
theorem Ext.base {C' : Ctx} {N N' B : Nat} {w' : World} (h : Ext C N w C' N' w') (hB : B <= N) : Ext C B w C' B w' :=
 ⟨nl,h.size,h.keep,fun a ha => h.loc a Om,fun a ha => h.stm a Om,fun a ha => h.lr a Om,fun a ha => h.bsz a Om,h.res,h.os⟩
theorem Ext.top {C' : Ctx} {B N' : Nat} {w' : World} (h : Ext C B w C' B w') (hB : B <= N') : Ext C B w C' N' w' :=
 ⟨hB,h.size,h.keep,h.loc,h.stm,h.lr,h.bsz,h.res,h.os⟩
theorem Ext.keepB (C : Ctx) (τ : Sto) (B : Nat) (w : World) : Ext C B w (C.keep τ) B w :=
 ⟨nl,nl,fun b _ ho => ⟨fun hh => ho ((C.keep_sub τ).own hh),rfl⟩,fun a _ p hp => (C.keep_sub τ).loc a p hp,fun _ _ => rfl,fun _ _ => rfl,fun _ _ _ _ _ => rfl,⟨rfl,fun _ _ => rfl⟩,rfl,rfl⟩
abbrev fc_ := @Ext.keepB
end
end
def Ta (l : Ae) : Tr AV := l.foldr (fun p t => t.put (p.1 + 1) p.1 (some p.2)) .e
def Lw : Ae -> Ae -> Prop
 | [],_ => True
 | (i,v) :: r,J => Ae.at J i = some v /\ Lw r J
theorem Lw.at : ∀ {J' J : Ae},Lw J' J -> ∀ i v,Ae.at J' i = some v -> Ae.at J i = some v
 | [],J,_,i,v,h => by simp [Ae.at] at h
 | (j,u) :: r,J,h,i,v,hv => by
  obtain ⟨h1,h2⟩ := h;simp only [Ae.at] at hv;cases hb : Nat.beq j i with
  | true => rw [hb] at hv; cases hv; have := ac_ hb; subst this; exact h1
  | false => rw [hb] at hv; exact Lw.at h2 i v hv
theorem Has.subL {tm : Tr AV} {J J' : Ae} (h : Has tm J) (k : Lw J' J) : Has tm J' := fun i v hv => h i v (k.at i v hv)
def Ao (E : Env) (f : Nat) (args : List AV) (U : Sto) (Post : AV -> Sto -> Prop) : Prop :=
 ∀ (C : Ctx) (w : World) (vs : Array Value),Sim E.P C w U -> Gc C (nx U) w E -> RL C (nx U) w args vs.toList ->
  Q3 E.P f /\ Calls E.P f vs w fun
   | .returned x,w' => ∃ v U' C',Post v U' /\ Sim E.P C' w' U' /\ Ext C (nx U) w C' (nx U') w' /\ R C' (nx U') w' v x
   | _,_ => False
theorem Ao.mono {E : Env} {f : Nat} {args : List AV} {U : Sto} {Post Post' : AV -> Sto -> Prop} (h : Ao E f args U Post) (k : ∀ v U',Post v U' -> Post' v U') : Ao E f args U Post' := by
 intro C w vs hs hg ha;obtain ⟨h1,h2⟩ := h C w vs hs hg ha;refine ⟨h1,h2.mono fun e w' he => ?_⟩
 cases e with
 | returned x => obtain ⟨v,U',C',k1,k2⟩ := he; exact ⟨v,U',C',k _ _ k1,k2⟩
 | panicked _ => exact he.elim
 | outgrown => exact he.elim
theorem Ev.callTo {E : Env} {f : Nat} {g : List AV -> Sto -> Res} (h : Ev E f g) {args : List AV} {U U' : Sto} {v : AV} (hg : g args U = some (v,U')) : Ao E f args U (fun u τ => u = v /\ τ = U') := by
 intro C w vs hs hgl ha;obtain ⟨h1,h2⟩ := h C w U args vs v U' hs hgl ha hg;refine ⟨h1,h2.mono fun e w' he => ?_⟩
 cases e with
 | returned x => obtain ⟨C',k1,k2,k3⟩ := he; exact ⟨v,U',C',⟨rfl,rfl⟩,k1,k2,k3⟩
 | panicked _ => exact he.elim
 | outgrown => exact he.elim
open Classical in
noncomputable def Dl : List (Nat × List AV × Sto × AV × Sto) -> Rec
 | [],_,_,_ => none
 | (f,a,s,v,s') :: r,f',a',U => if f' = f /\ a' = a /\ U = s then some (v,s') else Dl r f' a' U
def Af4 (E : Env) : List (Nat × List AV × Sto × AV × Sto) -> Prop
 | [] => True
 | (f,a,s,v,s') :: r => Ao E f a s (fun u τ => u = v /\ τ = s') /\ Af4 E r
theorem Da {E : Env} : ∀ {l : List (Nat × List AV × Sto × AV × Sto)},Af4 E l -> Be E (Dl l)
 | [],_ => fun f C w U args vs v U' hs hg ha h => by cases h
 | (f,a,s,v,s') :: r,hk => fun f' C w U args vs u U' hs hg ha h => by
  simp only [Dl] at h
  split at h
  ·rename_i he
   obtain ⟨rfl,rfl,rfl⟩ := he;cases h;obtain ⟨h1,h2⟩ := hk.1 C w vs hs hg ha;refine ⟨h1,h2.mono fun e w' he => ?_⟩
   cases e with
   | returned x => obtain ⟨v,U',C',⟨rfl,rfl⟩,k1,k2,k3⟩ := he; exact ⟨C',k1,k2,k3⟩
   | panicked _ => exact he.elim
   | outgrown => exact he.elim
  ·exact Da hk.2 f' C w U args vs u U' hs hg ha h
abbrev Cu := XE -> Ae -> Sto -> Prop
def Ol (E : Env) (nt : Nat) (df : List (Nat × List AV)) (B : Nat) (Q : Cu) (C : Ctx) (w : World) : Exit -> Act -> World -> Prop := fun e a' w' =>
 ∃ x tm' J' U' C',Jl x = e /\ Has tm' J' /\ Q x J' U' /\ SSt E C' w' ⟨tm',nt,df,U'⟩ a' /\ B <= nx U' /\ Ext C B w C' B w'
def T (E : Env) (nt : Nat) (df : List (Nat × List AV)) (B : Nat) (c : Code) (Q : Cu) (J : Ae) (U : Sto) : Prop :=
 ∀ (C : Ctx) (w : World) (tm : Tr AV) (a : Act),Has tm J -> SSt E C w ⟨tm,nt,df,U⟩ a -> B <= nx U -> c.wp E.P (Ol E nt df B Q C w) a w
def TO (E : Env) (nt : Nat) (df : List (Nat × List AV)) (B : Nat) (ops r : List Oper) (K : Ae -> Sto -> Prop) (J : Ae) (U : Sto) : Prop :=
 ∀ (C : Ctx) (w : World) (tm : Tr AV) (a : Act),Has tm J -> SSt E C w ⟨tm,nt,df,U⟩ a -> B <= nx U -> ∀ (arr : Array Oper) (i : Nat) (QQ : Exit -> Act -> World -> Prop) (rest : List Nat),arr.toList = ops -> (∀ j,j < r.length -> r[j]? = arr[i + j]?) ->
  (∀ C' w' a' tm' J' U',Has tm' J' -> K J' U' -> SSt E C' w' ⟨tm',nt,df,U'⟩ a' -> B <= nx U' -> Ext C B w C' B w' -> wpOps E.P arr QQ rest a' w') -> wpOps E.P arr QQ (List.range' i r.length ++ rest) a w
section
variable {E : Env} {nt B : Nat} {df : List (Nat × List AV)} {Q Q' : Cu} {J J' : Ae} {U U' : Sto} {K : Ae -> Sto -> Prop}
theorem Ol.mono {C : Ctx} {w : World} {e : Exit} {a : Act} {w' : World} (h : Ol E nt df B Q C w e a w') (hQ : ∀ x J U,Q x J U -> Q' x J U) : Ol E nt df B Q' C w e a w' := by
 obtain ⟨x,tm',J',U',C',h1,h2,h3,h4⟩ := h;exact ⟨x,tm',J',U',C',h1,h2,hQ _ _ _ h3,h4⟩
theorem Ol.from {C C₀ : Ctx} {w w₀ : World} {e : Exit} {a : Act} {w' : World} (h : Ol E nt df B Q C w e a w') (hx : Ext C₀ B w₀ C B w) : Ol E nt df B Q C₀ w₀ e a w' := by
 obtain ⟨x,tm',J',U',C',h1,h2,h3,h4,hB,h5⟩ := h;exact ⟨x,tm',J',U',C',h1,h2,h3,h4,hB,hx.trans h5⟩
theorem T.mono {c : Code} (h : T E nt df B c Q J U) (hQ : ∀ x J U,Q x J U -> Q' x J U) : T E nt df B c Q' J U :=
 fun C w tm a ht st hB => wp_mono (h C w tm a ht st hB) fun e a' w' he => he.mono hQ
theorem T.sub {c : Code} (h : T E nt df B c Q J' U) (hs : Lw J' J) : T E nt df B c Q J U :=
 fun C w tm a ht st => h C w tm a (ht.subL hs) st
theorem Aio (h : Q .normal J U) : T E nt df B .skip Q J U := fun C w tm a ht st hB => wp_skip ⟨.normal,tm,J,U,C,rfl,ht,h,st,hB,by_ _ _ _⟩
theorem Akg {n : Nat} (h : Q .normal J U) : T E nt df B (.label n) Q J U := fun C w tm a ht st hB => wp_label ⟨.normal,tm,J,U,C,rfl,ht,h,st,hB,by_ _ _ _⟩
theorem Aip {n : Nat} (h : Q (.exit n) J U) : T E nt df B (.exit n) Q J U := fun C w tm a ht st hB => wp_exit ⟨.exit n,tm,J,U,C,rfl,ht,h,st,hB,by_ _ _ _⟩
theorem An5 (h : Q .ret J U) : T E nt df B .ret Q J U := fun C w tm a ht st hB => wp_ret ⟨.ret,tm,J,U,C,rfl,ht,h,st,hB,by_ _ _ _⟩
def Nl (k : Ae -> Sto -> Prop) (Q : Cu) : Cu
 | .normal => k
 | x => Q x
theorem Acm {x y : Code} (h : T E nt df B x (Nl (T E nt df B y Q) Q) J U) : T E nt df B (.seq x y) Q J U := by
 intro C w tm a ht st hB;refine wp_seq (wp_mono (h C w tm a ht st hB) fun e a' w' he => ?_)
 obtain ⟨x',tm',J',U',C',h1,h2,h3,h4,hB',h5⟩ := he;subst h1;cases x' with
 | normal => exact wp_mono (h3 C' w' tm' a' h2 h4 hB') fun e a'' w'' he => he.from h5
 | exit id => exact ⟨.exit id,tm',J',U',C',rfl,h2,h3,h4,hB',h5⟩
 | ret => exact ⟨.ret,tm',J',U',C',rfl,h2,h3,h4,hB',h5⟩
theorem Ab {c : Operand} {x y : Code} {b : Bool} (hc : Ak E J c = some (.bool b)) (h1 : b = true -> T E nt df B x Q J U) (h2 : b = false -> T E nt df B y Q J U) : T E nt df B (.cond c x y) Q J U := by
 intro C w tm a ht st hB;have hv := Br st.glob st.tmps c;rw [ht.opd hc] at hv;unfold R at hv;cases b with
 | true => exact wp_cond_true hv (h1 rfl C w tm a ht st hB)
 | false => exact wp_cond_false hv (h2 rfl C w tm a ht st hB)
def Ua (id : Nat) (Q : Cu) : Cu
 | .exit j => cond (Nat.beq j id) (Q .normal) (Q (.exit j))
 | x => Q x
theorem Akh {id : Nat} {c : Code} (h : T E nt df B c (Ua id Q) J U) : T E nt df B (.block id c) Q J U := by
 intro C w tm a ht st hB;refine wp_block (wp_mono (h C w tm a ht st hB) fun e a' w' he => ?_)
 obtain ⟨x',tm',J',U',C',h1,h2,h3,h4,hB',h5⟩ := he;subst h1;cases x' with
 | normal => exact ⟨.normal,tm',J',U',C',rfl,h2,h3,h4,hB',h5⟩
 | ret => exact ⟨.ret,tm',J',U',C',rfl,h2,h3,h4,hB',h5⟩
 | exit j =>
  simp only [Ua] at h3
  by_cases hj : j = id
  ·subst hj;rw [bf_] at h3;simp only [Jl,Exit.inBlock,if_true];exact ⟨.normal,tm',J',U',C',rfl,h2,h3,h4,hB',h5⟩
  ·have hb : Nat.beq j id = false := by cases hb : Nat.beq j id with | true => exact absurd (ac_ hb) hj | false => rfl
   rw [hb] at h3;simp only [Jl,Exit.inBlock,if_neg hj];exact ⟨.exit j,tm',J',U',C',rfl,h2,h3,h4,hB',h5⟩
theorem Aki {c : Code} (h : T E nt df B c Q J U) : T E nt df B (.scope c) Q J U := by
 intro C w tm a ht st hB;refine wp_scope_straight (wp_mono (h C w tm a ht st hB) fun e a' w' he => ?_)
 obtain ⟨x',tm',J',U',C',h1,h2,h3,h4,hB',h5⟩ := he;subst h1;cases x' <;> exact ⟨_,tm',J',U',C',rfl,h2,h3,h4,hB',h5⟩
theorem Asv {c : Code} (I : Nat -> Ae -> Sto -> Prop) (n : Nat) (h0 : ∃ J',Lw J' J /\ I n J' U)
  (hs : ∀ n J U,I n J U -> T E nt df B c (Nl (fun J' U' => ∃ m J'',m < n /\ Lw J'' J' /\ I m J'' U') Q) J U) : T E nt df B (.loop c) Q J U := by
 have key : ∀ (n : Nat) (J : Ae) (U : Sto),I n J U -> ∀ (C : Ctx) (w : World) (tm : Tr AV) (a : Act),Has tm J -> SSt E C w ⟨tm,nt,df,U⟩ a -> B <= nx U -> ∀ (b : Frame) (k : List Item) (cs : List Frame),
   ∃ e a' w',Ol E nt df B Q C w e a' w' /\ Arrives E.P (lone (b.at a (.code c :: .inLoop c :: k)) cs w) b k cs e a' w' := by
  intro n
  induction n using Nat.strongRecOn with
  | _ n ih =>
   intro J U hI C w tm a ht st hB b k cs;obtain ⟨e,a₁,w₁,hq,br⟩ := hs n J U hI C w tm a ht st hB b (.inLoop c :: k) cs;obtain ⟨x',tm',J',U',C',h1,h2,h3,h4,hB',h5⟩ := hq;subst h1;cases x' with
   | normal =>
    obtain ⟨m,J'',hm,b8,hI'⟩ := h3;obtain ⟨e₂,a₂,w₂,hq₂,harr₂⟩ := ih m hm J'' U' hI' C' w₁ tm' a₁ (h2.subL b8) h4 hB' b k cs;exact ⟨e₂,a₂,w₂,hq₂.from h5,.of_steps (Steps.trans br (.one step_inLoop)) harr₂⟩
   | exit id => exact ⟨.exit id,a₁,w₁,⟨_,tm',J',U',C',rfl,h2,h3,h4,hB',h5⟩,.pass (x := .inLoop c) rfl (fun _ _ => .inl (by simp)) br⟩
   | ret => exact ⟨.ret,a₁,w₁,⟨_,tm',J',U',C',rfl,h2,h3,h4,hB',h5⟩,.pass (x := .inLoop c) rfl (fun _ _ => .inl (by simp)) br⟩
 intro C w tm a ht st hB b k cs;obtain ⟨J',b8,hI⟩ := h0;obtain ⟨e,a',w',hq,br⟩ := key n J' U hI C w tm a (ht.subL b8) st hB b k cs;exact ⟨e,a',w',hq,.of_steps (.one step_loop) br⟩
theorem B3 {α : Type} {c : Code} (JI : α -> Ae) (P : α -> Sto -> Prop) (μ : α -> Nat) (a₀ : α) (h0 : Lw (JI a₀) J) (h1 : P a₀ U)
  (hs : ∀ a U,P a U -> T E nt df B c (Nl (fun J' U' => ∃ a',μ a' < μ a /\ Lw (JI a') J' /\ P a' U') Q) (JI a) U) : T E nt df B (.loop c) Q J U := by
 refine Asv (fun n J U => ∃ a,n = μ a /\ J = JI a /\ P a U) (μ a₀) ⟨JI a₀,h0,a₀,rfl,rfl,h1⟩ ?_
 rintro n J U ⟨a,rfl,rfl,hp⟩;refine (hs a U hp).mono fun x J' U' hq => ?_
 cases x with
 | normal => obtain ⟨a',g1,g2,g3⟩ := hq; exact ⟨μ a',JI a',g1,g2,a',rfl,rfl,g3⟩
 | exit id => exact hq
 | ret => exact hq
theorem Bq {c : Code} (len : Nat) (JI : Nat -> Ae) (P : Nat -> Sto -> Prop) (h0 : Lw (JI 0) J) (h1 : P 0 U)
  (hs : ∀ i U,i <= len -> P i U -> T E nt df B c (Nl (fun J' U' => i < len /\ Lw (JI (i + 1)) J' /\ P (i + 1) U') Q) (JI i) U) : T E nt df B (.loop c) Q J U := by
 refine B3 JI (fun i U => i <= len /\ P i U) (fun i => len - i) 0 h0 ⟨bh_ _,h1⟩ ?_
 rintro i U ⟨hi,hp⟩;refine (hs i U hi hp).mono fun x J' U' hq => ?_
 cases x with
 | normal => obtain ⟨g1,g2,g3⟩ := hq; exact ⟨i + 1,by omega,g2,by omega,g3⟩
 | exit id => exact hq
 | ret => exact hq
theorem Cm {id : Nat} {ops : Array Oper} (h : TO E nt df B ops.toList ops.toList (fun J U => Q .normal J U) J U) : T E nt df B (.region id ops false) Q J U := by
 intro C w tm a ht st hB;refine wp_region ?_;rw [dl_,← bx_]
 have := h C w tm a ht st hB ops 0 (Ol E nt df B Q C w) [] rfl (fun j _ => by simp) fun C' w' a' tm' J' U' h1 h2 h3 h4 h5 => ⟨.normal,tm',J',U',C',rfl,h1,h2,h3,h4,h5⟩
 rwa [bi_] at this
theorem Ub {ops : List Oper} (h : K J U) : TO E nt df B ops [] K J U := by
 intro C w tm a ht st hB arr i QQ rest _ _ hQ;simp only [cs_,go_,bg_];exact hQ C w a tm J U ht h st hB (by_ _ _ _)
theorem Amh {ops g r : List Oper} (h : TO E nt df B ops g (fun J' U' => TO E nt df B ops r K J' U') J U) : TO E nt df B ops (g ++ r) K J U := by
 intro C w tm a ht st hB arr i QQ rest br hr hQ;rw [ao_,← List.range'_append_1,cc_];refine h C w tm a ht st hB arr i QQ _ br (fun j hj => ?_) fun C' w' a' tm' J' U' h1 h2 h3 h4 h5 => ?_
 ·rw [← hr j (by simp; omega),bk_ hj]
 ·refine h2 C' w' tm' a' h1 h3 h4 arr (i + g.length) QQ rest br (fun j hj => ?_) fun C2 w2 a2 tm2 J2 U2 q1 q2 q3 qB q4 => hQ C2 w2 a2 tm2 J2 U2 q1 q2 q3 qB (h5.trans q4)
  have := hr (g.length + j) (by simp; omega)
  rw [ch_ Om] at this
  rw [show g.length + j - g.length = j by omega] at this
  rw [this]; congr 1; omega
theorem An6 (n : Nat) {ops r : List Oper} (h : TO E nt df B ops (r.take n) (fun J' U' => TO E nt df B ops (r.drop n) K J' U') J U) : TO E nt df B ops r K J U := by
 have := Amh h
 rwa [c_] at this
theorem TO.mono {ops r : List Oper} {K' : Ae -> Sto -> Prop} (h : TO E nt df B ops r K J U) (k : ∀ J U,K J U -> K' J U) : TO E nt df B ops r K' J U :=
 fun C w tm a ht st hB arr i QQ rest h1 h2 hQ => h C w tm a ht st hB arr i QQ rest h1 h2 fun C' w' a' tm' J' U' q1 q2 => hQ C' w' a' tm' J' U' q1 (k _ _ q2)
def F7 : Op -> Bool
 | .defer _ => false
 | _ => true
theorem Q9 {ops r : List Oper} {o : Oper} {Rr : Rec} (hR : Be E Rr) {J₁ : Ae} {U₁ : Sto}
  (h : ∀ tm,Has tm J -> ∃ tm',Nq E ops o Rr ⟨tm,nt,df,U⟩ = some ⟨tm',nt,df,U₁⟩ /\ Has tm' J₁) (k : TO E nt df B ops r K J₁ U₁) : TO E nt df B ops (o :: r) K J U := by
 intro C w tm a ht st hB arr i QQ rest br hr hQ;obtain ⟨tm',h1,h2⟩ := h tm ht
 have ho : arr[i]? = some o := by have := hr 0 (by simp); simpa using this.symm
 simp only [at_,d_,az_,wpOps,ho]
 have h1' : Nq E arr.toList o Rr ⟨tm,nt,df,U⟩ = some ⟨tm',nt,df,U₁⟩ := by rw [br]; exact h1
 have := Q4 (K := wpOps E.P arr QQ (List.range' (i + 1) r.length ++ rest)) (Q := QQ) hR st h1' fun C' w' a' st' e' =>
  k C' w' tm' a' h2 st' (ax_ hB e'.next) arr (i + 1) QQ rest br (fun j hj => by have := hr (j + 1) (by simpa using hj); simp only [be_] at this; rw [this]; congr 1; omega)
   fun C2 w2 a2 tm2 J2 U2 q1 q2 q3 qB q4 => hQ C2 w2 a2 tm2 J2 U2 q1 q2 q3 qB ((e'.base hB).trans q4)
 rcases this with ⟨h2,h3⟩ | ⟨h2,h3⟩
 ·rw [if_pos h2]; exact .inl h3
 ·rw [if_neg (by rw [h2]; simp)]; exact h3
def Dz : Option Nat -> AV -> Ae -> Ae
 | none,_,J => J
 | some d,v,J => (d,v) :: J
def Ca (nt : Nat) : Option Nat -> Bool
 | none => true
 | some d => Nat.blt d nt
theorem Dc {tm : Tr AV} {dst : Option Nat} (hd : Ca nt dst = true) (ht : Has tm J) (v : AV) : ∃ tm',Jx dst tm nt v = some tm' /\ Has tm' (Dz dst v J) := by
 cases dst with
 | none => exact ⟨tm,rfl,ht⟩
 | some d =>
  refine ⟨tm.put (d + 1) d (some v),?_,ht.put d v⟩;have hd : Nat.blt d nt = true := hd;simp only [Jx,hd,cond_true,Ei]
theorem Pp {ops : List Oper} {o : Oper} {Rr : Rec} {s : St} (hg : Co ops o s.tm = some true) (hn : F7 o.op = true) :
  Nq E ops o Rr s = match opA E o.op Rr s.tm s.sto with
   | some (v,U) => match Jx o.dst s.tm s.nt v with
    | some tm => some ⟨tm,s.nt,s.df,U⟩
    | none => none
   | none => none := by
 unfold Nq;rw [hg];simp only
 split
 ·rename_i c hc; rw [hc] at hn; simp [F7] at hn
 ·rfl
theorem Zh {ops r : List Oper} {op : Op} {dst : Option Nat} {ty : Nat} {pos : String} {after : Array Edge} {Rr : Rec} {v : AV} {U₁ : Sto} (hR : Be E Rr) (hn : F7 op = true) (hd : Ca nt dst = true) (h : A0 E Rr op J U v U₁)
  (k : TO E nt df B ops r K (Dz dst v J) U₁) : TO E nt df B ops ({ dst := dst,op := op,type := ty,pos := pos,after := after,guard := none } :: r) K J U := by
 refine Q9 hR (fun tm ht => ?_) k
 obtain ⟨tm',h1,h2⟩ := Dc (dst := dst) hd ht v;refine ⟨tm',?_,h2⟩;rw [Pp (s := ⟨tm,nt,df,U⟩) rfl hn];simp only [h tm ht,h1]
theorem Bw {ops r : List Oper} {f : Operand} {args : Array Operand} {tys : Array Nat} {dst : Option Nat} {ty : Nat} {pos : String} {after : Array Edge} {k : Nat} {first cap vs full : List AV} {Post : AV -> Sto -> Prop} (hd : Ca nt dst = true)
  (hf : Ak E J f = some (.fn (.func k) first cap)) (ha : Ky E J args.toList = some vs) (hl : first ++ vs ++ cap = full) (hc : Ao E k full U Post)
  (kk : ∀ v U',Post v U' -> TO E nt df B ops r K (Dz dst v J) U') : TO E nt df B ops ({ dst := dst,op := .call ⟨.value f,args,tys⟩,type := ty,pos := pos,after := after,guard := none } :: r) K J U := by
 intro C w tm a ht st hB arr i QQ rest br hr hQ
 have ho : arr[i]? = some { dst := dst,op := .call ⟨.value f,args,tys⟩,type := ty,pos := pos,after := after,guard := none } := by have := hr 0 (by simp); simpa using this.symm
 simp only [at_,d_,az_,wpOps,ho];have hw : Region.wanted { dst := dst,op := .call ⟨.value f,args,tys⟩,type := ty,pos := pos,after := after,guard := none } (yielded arr a.tmps) = true := rfl;rw [if_pos hw];refine .inl ?_;have hV := Br st.glob st.tmps f;rw [ht.opd hf] at hV;unfold R at hV;obtain ⟨p,q,hV,hp,hq⟩ := hV;have bj := Dw st.glob st.tmps args.toList;rw [ht.opds ha] at bj
 have bi : RL C (nx U) w full (p ++ args.map a.eval ++ q).toList := by
  subst hl;simp only [db_,cb_];exact (hp.append bj).append hq
 obtain ⟨⟨fn,g1,g2,g3⟩,bo⟩ := hc C w _ st.sim st.glob bi
 have bx : (execOp a.eval { dst := dst,op := .call ⟨.value f,args,tys⟩,type := ty,pos := pos,after := after,guard := none }).run E.P w = .ok (.enter k (p ++ args.map a.eval ++ q)) w := by
  have g2' : fn.name ≠ "runtime.NumGoroutine" := by simpa using g2
  have g3' : fn.body ≠ none := fun hh => by rw [hh] at g3; cases g3
  simp [execOp,resolve,hV,Deferred.ofValue,invoke,callFunc,g1,g2',g3']
 unfold Oper.wp;rw [bx,Oper.upon_enter];refine bo.mono fun e w' he => ?_
 cases e with
 | returned x =>
  obtain ⟨v,U',C',k0,k1,k2,k3⟩ := he;obtain ⟨tm',h1,h2⟩ := Dc (dst := dst) hd ht v
  exact kk v U' k0 C' w' tm' _ h2 (st.put k1 k2 k3 h1) (ax_ hB k2.next) arr (i + 1) QQ rest br (fun j hj => by have := hr (j + 1) (by simpa using hj); simp only [be_] at this; rw [this]; congr 1; omega)
   fun C2 w2 a2 tm2 J2 U2 q1 q2 q3 qB q4 => hQ C2 w2 a2 tm2 J2 U2 q1 q2 q3 qB ((k2.base hB).trans q4)
 | panicked _ => exact he.elim
 | outgrown => exact he.elim
theorem Gf {ops : List Oper} {o oj : Oper} {j d : Nat} {b want : Bool} {tm : Tr AV} (ht : Has tm J) (hg : o.guard = some (j,want)) (hj : ops[j]? = some oj) (hd : oj.dst = some d) (hb : Ae.at J d = some (.bool b)) : Co ops o tm = some (cond b want (!want)) := by
 simp only [Co,hg,hj,hd,ht d _ hb]
theorem Zj {ops r : List Oper} {o oj : Oper} {Rr : Rec} {v : AV} {U₁ : Sto} {j d : Nat} {b want : Bool} (hg : o.guard = some (j,want)) (hj : ops[j]? = some oj) (hdj : oj.dst = some d) (hb : Ae.at J d = some (.bool b)) (hw : cond b want (!want) = true)
  (hR : Be E Rr) (hn : F7 o.op = true) (hd : Ca nt o.dst = true) (h : A0 E Rr o.op J U v U₁) (k : TO E nt df B ops r K (Dz o.dst v J) U₁) : TO E nt df B ops (o :: r) K J U := by
 refine Q9 hR (fun tm ht => ?_) k
 obtain ⟨tm',h1,h2⟩ := Dc (dst := o.dst) hd ht v;refine ⟨tm',?_,h2⟩
 rw [Pp (s := ⟨tm,nt,df,U⟩) (by rw [Gf ht hg hj hdj hb,hw]) hn]
 simp only [h tm ht,h1]
theorem Ra {ops r : List Oper} {o oj : Oper} {j d : Nat} {b want : Bool} (hg : o.guard = some (j,want)) (hj : ops[j]? = some oj) (hdj : oj.dst = some d) (hb : Ae.at J d = some (.bool b)) (hw : cond b want (!want) = false)
  (hd : Ca nt o.dst = true) (k : TO E nt df B ops r K (Dz o.dst Au J) U) : TO E nt df B ops (o :: r) K J U := by
 refine Q9 dr_ (fun tm ht => ?_) k
 obtain ⟨tm',h1,h2⟩ := Dc (dst := o.dst) hd ht Au;refine ⟨tm',?_,h2⟩;unfold Nq;rw [Gf ht hg hj hdj hb,hw];simp only [h1]
end
def E9 : List AV -> Nat -> Ae
 | [],_ => []
 | v :: r,i => (i,v) :: E9 r (i + 1)
theorem Iv : ∀ (l : List AV) (i j : Nat),Ae.at (E9 l i) j = if i <= j /\ j < i + l.length then l[j - i]? else none
 | [],i,j => by simp only [E9,Ae.at]; rw [if_neg (by simp)]
 | x :: r,i,j => by
  simp only [E9,Ae.at,at_]
  by_cases hj : i = j
  ·subst hj; simp [bf_]
  ·have hb : Nat.beq i j = false := by cases hb : Nat.beq i j with | true => exact absurd (ac_ hb) hj | false => rfl
   rw [hb,cond_false,Iv r (i + 1) j]
   by_cases h1 : i + 1 <= j /\ j < i + 1 + r.length
   ·rw [if_pos h1,if_pos Om,show j - i = (j - (i + 1)) + 1 by omega]; rfl
   ·rw [if_neg h1,if_neg Om]
def Tb (E : Env) (J : Ae) (U : Sto) : List ResultVar -> Option (List AV)
 | [] => some []
 | .tmp t :: r => match Ae.at J t,Tb E J U r with
  | some v,some l => some (v :: l)
  | _,_ => none
 | .cell a t :: r => match A4 E.P t with
  | some ti => match Ae.at J a with
   | some (.pr b off) => match U.cells b with
    | some vs => match Jc ti.size ti.isAgg (vs.drop off),Tb E J U r with
     | some v,some l => some (v :: l)
     | _,_ => none
    | none => none
   | _ => none
  | none => none
theorem Oo {E : Env} {tm : Tr AV} {J : Ae} {U : Sto} (ht : Has tm J) : ∀ {rs : List ResultVar} {vs : List AV},Tb E J U rs = some vs -> Vz E.P tm U rs = some vs
 | [],vs,h => h
 | .tmp t :: r,vs,h => by
  simp only [Tb] at h
  split at h
  ·rename_i v l hv hl
   cases h;simp only [Vz,Yi,ht t v hv,Oo ht hl]
  ·cases h
 | .cell a t :: r,vs,h => by
  simp only [Tb] at h
  split at h
  ·rename_i ti hti
   split at h
   ·rename_i b off hb
    split at h
    ·rename_i cs hcs
     split at h
     ·rename_i v l hv hl
      cases h;simp only [Vz,Yi,hti,ht a _ hb,hcs,Hr,hv,Oo ht hl]
     ·cases h
    ·cases h
   ·cases h
  ·cases h
def Wo (E : Env) (fn : Func) (N : Nat) (Post : AV -> Sto -> Prop) (J : Ae) (U : Sto) : Prop :=
 ∃ vs,Tb E J U fn.results.toList = some vs /\ ∃ v' U',D5 U U' /\ N <= nx U' /\ Fz U U' (Wa vs) v' /\ Post v' U'
def Aiq (K : Ae -> Sto -> Prop) : Cu
 | .normal => K
 | .ret => K
 | .exit _ => fun _ _ => False
theorem callTo {E : Env} {f : Nat} {fn : Func} {c : Code} {args : List AV} {U : Sto} {Post : AV -> Sto -> Prop} (hfn : E.P.funcs[f]? = some fn) (cy : (fn.name == "runtime.NumGoroutine") = false) (hc : fn.body = some c) (hle : Nat.ble args.length fn.ntmps = true)
  (h : WFS U -> AV.unds (nx U) args = true -> T E fn.ntmps [] (nx U) c (Aiq (Wo E fn (nx U) Post)) (E9 args 0) U) : Ao E f args U Post := by
 intro C w vs hs hg bj
 refine ⟨⟨fn,hfn,cy,by rw [hc]; rfl⟩,?_⟩
 refine calls_of_wp_defers hfn hc ?_;have hle := aj_ hle;have st := Oj (E := E) (fn := fn) hs hg bj hle
 have ht : Has (Fq args 0 .e) (E9 args 0) := fun i v hv => by
  rw [E6];rw [Iv] at hv
  split at hv
  ·rename_i hi; rw [if_pos hi]; exact hv
  ·cases hv
 refine wp_mono (h hs.wfs (RL.unds _ _ bj) C w _ _ ht st nl) fun e a' w' he => ?_
 obtain ⟨x,tm',J',U₁,C',h1,h2,h3,h4,hB,h5⟩ := he;subst h1;have fin : Wo E fn (nx U) Post J' U₁ -> Leaves E.P fn a'.tmps (fun
   | .returned x,w' => ∃ v U' C',Post v U' /\ Sim E.P C' w' U' /\ Ext C (nx U) w C' (nx U') w' /\ R C' (nx U') w' v x
   | _,_ => False) a'.defers .returning w' := by
  intro hx;obtain ⟨vs₁,r1,v',U',r2,r3,r4,r5⟩ := hx
  have hds : a'.defers = [] := by
   have hd := h4.dfs;cases hds : a'.defers with
   | nil => rfl
   | cons d ds => rw [hds] at hd; unfold DR at hd; exact hd.elim
  obtain ⟨x,k1,k2⟩ := C6 (fn := fn) h4.sim h4.tmps (Oo h2 r1);rw [hds];exact ⟨x,k1,v',U',_,r5,h4.sim.frz r2,(h5.trans (fc_ C' U' _ w')).top r3,r4.R h4.sim k2⟩
 cases x with
 | normal => exact fin h3
 | ret => exact fin h3
 | exit id => exact h3.elim
class Aej (E : Env) : Prop where
 ok : ∀ g cs,E.gl g = some cs -> AV.unds 0 cs = true
mutual
theorem AV.und_mono {N M : Nat} (h : N <= M) : ∀ (x : AV),AV.und N x = true -> AV.und M x = true
 | .any,_ => rfl
 | .bool _,_ => rfl
 | .int _ _,_ => rfl
 | .str _,_ => rfl
 | .nil _,_ => rfl
 | .flt _ _,_ => rfl
 | .pr a _,k => Ce (al_ (F6 k) h)
 | .sr a _ _ _ _,k => Ce (al_ (F6 k) h)
 | .mp a,k => Ce (al_ (F6 k) h)
 | .it a,k => Ce (al_ (F6 k) h)
 | .stp a,k => Ce (al_ (F6 k) h)
 | .yl a,k => Ce (al_ (F6 k) h)
 | .pv cs,k => AV.unds_mono h cs k
 | .sv cs _ _ _,k => AV.unds_mono h cs k
 | .fn _ p q,k => by simp only [AV.und,af_] at k ⊢; exact ⟨AV.unds_mono h p k.1,AV.unds_mono h q k.2⟩
 | .ifc _ x,k => AV.und_mono h x k
 | .agg cs,k => AV.unds_mono h cs k
 | .tup cs,k => AV.unds_mono h cs k
theorem AV.unds_mono {N M : Nat} (h : N <= M) : ∀ (l : List AV),AV.unds N l = true -> AV.unds M l = true
 | [],_ => rfl
 | x :: r,k => by simp only [AV.unds,af_] at k ⊢; exact ⟨AV.und_mono h x k.1,AV.unds_mono h r k.2⟩
end
theorem Gc.frz {E : Env} [Aej E] {C : Ctx} {N : Nat} {w : World} {τ : Sto} (h : Gc C N w E) : Gc (C.keep τ) (nx τ) w E := by
 refine ⟨fun g cs hg => R.cut (C.keep_sub τ) _ _ (AV.unds_mono (bh_ _) cs (Aej.ok g cs hg)) (h.1 g cs hg),fun c P hc => ?_⟩
 obtain ⟨h1,h2⟩ := h.2 c P hc;refine ⟨fun hh => h1 ?_,h2⟩
 rcases hh with hh | ⟨a,o,hh⟩
 ·exact .inl hh
 ·exact .inr ⟨a,o,(C.keep_sub τ).loc _ _ hh⟩
def Tc (U τ : Sto) : Ae -> Ae -> Prop
 | [],_ => True
 | (i,v') :: r,J => (∃ v,Ae.at J i = some v /\ Fz U τ v v') /\ Tc U τ r J
theorem Tc.at {U τ : Sto} : ∀ {J' J : Ae},Tc U τ J' J -> ∀ i v',Ae.at J' i = some v' -> ∃ v,Ae.at J i = some v /\ Fz U τ v v'
 | [],J,_,i,v,h => by simp [Ae.at] at h
 | (j,u) :: r,J,h,i,v,hv => by
  obtain ⟨h1,h2⟩ := h;simp only [Ae.at] at hv;cases hb : Nat.beq j i with
  | true => rw [hb] at hv; cases hv; have := ac_ hb; subst this; exact h1
  | false => rw [hb] at hv; exact Tc.at h2 i v hv
theorem Ot : ∀ (l : Ae) (i : Nat),(Ta l).get i = Ae.at l i
 | [],i => rfl
 | (j,v) :: r,i => by
  show (Tr.put (j + 1) (Ta r) j (some v)).get i = _
  rw [de_];simp only [Ae.at]
  by_cases h : i = j
  ·subst h; rw [if_pos rfl,bf_,cond_true]
  ·rw [if_neg h]
   have hb : Nat.beq j i = false := by cases hb : Nat.beq j i with | true => exact absurd (ac_ hb).symm h | false => rfl
   rw [hb,cond_false,Ot r i]
theorem Ov (l : Ae) : Has (Ta l) l := fun i v h => by rw [Ot]; exact h
theorem SSt.frz {E : Env} [Aej E] {C : Ctx} {w : World} {tm : Tr AV} {nt : Nat} {U τ : Sto} {a : Act} {J J' : Ae} (st : SSt E C w ⟨tm,nt,[],U⟩ a) (ht : Has tm J) (hf : D5 U τ) (hs : ∀ i v',Ae.at J' i = some v' -> ∃ v,Ae.at J i = some v /\ Fz U τ v v') :
  SSt E (C.keep τ) w ⟨Ta J',nt,[],τ⟩ a := by
 refine ⟨st.sim.frz hf,Gc.frz st.glob,fun i v hv => ?_,st.size,?_⟩
 ·have hv : (Ta J').get i = some v := hv;rw [Ot] at hv;obtain ⟨u,h1,h2⟩ := hs i v hv;exact h2.R st.sim (st.tmps i u (ht i u h1))
 ·have := st.dfs;cases hds : a.defers with
  | nil => unfold DR; trivial
  | cons d ds => rw [hds] at this; unfold DR at this; exact this.elim
theorem An7 {E : Env} [Aej E] {nt B : Nat} {c : Code} {Q : Cu} {J : Ae} {U : Sto} (τ : Sto) (J' : Ae) (hf : D5 U τ) (hB : B <= nx τ) (hs : Tc U τ J' J) (k : T E nt [] B c Q J' τ) : T E nt [] B c Q J U :=
 fun C w tm a ht st _ => wp_mono (k (C.keep τ) w _ a (Ov J') (st.frz ht hf hs.at) hB) fun e a' w' he => he.from (fc_ C τ B w)
theorem An8 {E : Env} [Aej E] {nt B : Nat} {ops r : List Oper} {K : Ae -> Sto -> Prop} {J : Ae} {U : Sto} (τ : Sto) (J' : Ae) (hf : D5 U τ) (hB : B <= nx τ) (hs : ∀ i v',Ae.at J' i = some v' -> ∃ v,Ae.at J i = some v /\ Fz U τ v v') (k : TO E nt [] B ops r K J' τ) : TO E nt [] B ops r K J U :=
 fun C w tm a ht st _ arr i QQ rest h1 h2 hQ => k (C.keep τ) w _ a (Ov J') (st.frz ht hf hs) hB arr i QQ rest h1 h2 fun C2 w2 a2 tm2 J2 U2 q1 q2 q3 qB q4 => hQ C2 w2 a2 tm2 J2 U2 q1 q2 q3 qB ((fc_ C τ B w).trans q4)
theorem noR {E : Env} : Be E (fun _ _ _ => none) := dr_
section
variable {E : Env} {nt B : Nat} {df : List (Nat × List AV)} {J J' : Ae} {U U' : Sto} {K : Ae -> Sto -> Prop}
theorem Af5 {ops r : List Oper} {op : Op} {dst : Option Nat} {ty : Nat} {pos : String} {after : Array Edge} {Pv : AV -> Prop} (hd : Ca nt dst = true)
  (h : ∀ C w tm a,Has tm J -> SSt E C w ⟨tm,nt,df,U⟩ a -> ∃ v,Pv v /\ Q2 E.P C w U (execOp a.eval { dst := dst,op := op,type := ty,pos := pos,after := after,guard := none }) v U')
  (k : ∀ v,Pv v -> TO E nt df B ops r K (Dz dst v J) U') : TO E nt df B ops ({ dst := dst,op := op,type := ty,pos := pos,after := after,guard := none } :: r) K J U := by
 intro C w tm a ht st hB arr i QQ rest br hr hQ
 have ho : arr[i]? = some { dst := dst,op := op,type := ty,pos := pos,after := after,guard := none } := by have := hr 0 (by simp); simpa using this.symm
 simp only [at_,d_,az_,wpOps,ho];have hw : Region.wanted { dst := dst,op := op,type := ty,pos := pos,after := after,guard := none } (yielded arr a.tmps) = true := rfl;rw [if_pos hw];refine .inl ?_;obtain ⟨v,hpv,x,w',C',h1,h2,h3,h4⟩ := h C w tm a ht st;obtain ⟨tm',g1,g2⟩ := Dc (dst := dst) hd ht v;have go : ∀ y,R C' (nx U') w' v y -> wpOps E.P arr QQ (List.range' (i + 1) r.length ++ rest) (a.put dst y) w' := fun y hy =>
  k v hpv C' w' tm' _ g2 (st.put h3 h4 hy g1) (ax_ hB h4.next) arr (i + 1) QQ rest br (fun j hj => by have := hr (j + 1) (by simpa using hj); simp only [be_] at this; rw [this]; congr 1; omega)
   fun C2 w2 a2 tm2 J2 U2 q1 q2 q3 qB q4 => hQ C2 w2 a2 tm2 J2 U2 q1 q2 q3 qB ((h4.base hB).trans q4)
 unfold Oper.wp
 rcases h1 with h1 | ⟨h1,rfl⟩
 ·rw [h1,Oper.upon_value]; exact go x h2
 ·rw [h1,Oper.upon_skip]; exact go undef h2
theorem Akj {ops r : List Oper} {op : Op} {dst : Option Nat} {ty : Nat} {pos : String} {after : Array Edge} {v : AV} (hd : Ca nt dst = true)
  (h : ∀ C w tm a,Has tm J -> SSt E C w ⟨tm,nt,df,U⟩ a -> Q2 E.P C w U (execOp a.eval { dst := dst,op := op,type := ty,pos := pos,after := after,guard := none }) v U')
  (k : TO E nt df B ops r K (Dz dst v J) U') : TO E nt df B ops ({ dst := dst,op := op,type := ty,pos := pos,after := after,guard := none } :: r) K J U :=
 Af5 (Pv := fun u => u = v) hd (fun C w tm a ht st => ⟨v,rfl,h C w tm a ht st⟩) (fun u hu => by subst hu; exact k)
theorem An9 {P : Program} {C : Ctx} {w : World} (hs : Sim P C w U) {t : TypeId} {n : Nat} {x : AV} {X : Value} (hx : R C (nx U) w x X) {cs : List AV} (h : x.cellsN n = some cs) : H3 P C w U (Instr.box t X) (.pv cs) U := by
 obtain ⟨q1,q2,q3,q4⟩ := H4 h hx;have p := Lk w (.cells X.cells t (0,0));obtain ⟨k1,k2⟩ := hs.push p;refine ⟨_,.pointer (some ⟨w.heap.size,0,none⟩),_,C,?_,rfl,k1,k2,?_⟩
 ·unfold Instr.box
  simp [newVar,newRow]
 ·unfold R
  refine ⟨_,_,rfl,fun _ ho => ?_,fh_ p.here (q1.ext k2) q4 fun i v hi => by rwa [bq_,← bb_]⟩
  have := hs.own_lt ho; simp at this
theorem Fa {ops r : List Oper} {t : Nat} {x : Operand} {dst : Option Nat} {ty : Nat} {pos : String} {after : Array Edge} {v : AV} {sz : Nat} {agg : Bool} {cs : List AV} (hi : ldI E.P t = some (sz,agg)) (hx : Ak E J x = some v) (hc : v.cellsN sz = some cs) (hd : Ca nt dst = true)
  (k : TO E nt df B ops r K (Dz dst (.pv cs) J) U) : TO E nt df B ops ({ dst := dst,op := .box t x,type := ty,pos := pos,after := after,guard := none } :: r) K J U := by
 refine Akj hd (fun C w tm a ht st => ?_) k
 have hv := Br st.glob st.tmps x;rw [ht.opd hx] at hv;exact .ofRuns (An9 st.sim hv hc)
theorem Zk {ops : List Oper} {t d ty : Nat} {pos : String} {after : Array Edge} {z : List AV} {tm : Tr AV} (hz : zI E.P t = some z) (hd : Nat.blt d nt = true) :
  Nq E ops { dst := some d,op := .alloc t,type := ty,pos := pos,after := after,guard := none } (fun _ _ _ => none) ⟨tm,nt,df,U⟩ = some ⟨tm.put (d + 1) d (some (.pr (nx U) 0)),nt,df,U.new (.cells z)⟩ := by
 rw [Pp (s := ⟨tm,nt,df,U⟩) rfl rfl]
 have : opA E (.alloc t) (fun _ _ _ => none) tm U = some (.pr (nx U) 0,U.new (.cells z)) := by
  unfold zI at hz
  split at hz
  ·rename_i ti hti; simp only [opA,Az,hti,hz,X9]
  ·cases hz
 simp only [this,Jx,hd,cond_true,Ei]
theorem Cf {ob : List AV} : (U.new (.cells ob)).cells (nx U) = some ob := by
 unfold Sto.cells; rw [ab_,if_pos rfl]
theorem Fj : ∀ {z l : List AV},l.length = z.length -> setAt z 0 l = some l
 | [],[],_ => rfl
 | x :: z,y :: l,h => by
  have := Fj (z := z) (l := l) (by simpa using h)
  simp only [setAt,this]
 | [],_ :: _,h => by simp at h
 | _ :: _,[],h => by simp at h
theorem Dh {ops r : List Oper} {t d sz : Nat} {agg : Bool} {x : Operand} {ty ty' : Nat} {pos pos' : String} {after after' : Array Edge} {z cs : List AV} {v : AV} (hz : zI E.P t = some z) (hi : ldI E.P t = some (sz,agg)) (hl : Nat.beq z.length sz = true)
  (hx : ∀ u,Ak E ((d,u) :: J) x = some v) (hv : Ak E J x = some v) (hc : v.cellsN sz = some cs) (hd : Nat.blt d nt = true) [Aej E] (hdf : df = [])
  (k : TO E nt df B ops r K ((d,.pv cs) :: J) U) :
  TO E nt df B ops ({ dst := some d,op := .alloc t,type := ty,pos := pos,after := after,guard := none } :: { dst := none,op := .store t (.tmp d) x,type := ty',pos := pos',after := after',guard := none } :: r) K J U := by
 subst hdf;intro C w tm a ht st hB
 have hcs : cs.length = z.length := by
  have hb := ac_ hl;have hvR := Br st.glob st.tmps x;rw [ht.opd hv] at hvR;obtain ⟨q1,q2,_⟩ := H4 hc hvR;have := q1.length;rw [hb];unfold AV.cellsN at hc
  split at hc <;> try (cases hc; done)
  ·cases hb' : Nat.beq ‹List AV›.length sz with
   | true => rw [hb'] at hc; cases hc; exact ac_ hb'
   | false => rw [hb'] at hc; cases hc
  ·cases hb' : Nat.beq sz 1 with
   | true => rw [hb'] at hc; cases hc; exact (ac_ hb').symm
   | false => rw [hb'] at hc; cases hc
 have hwf := st.sim.wfs;have fo : ∀ i u,Ae.at J i = some u -> AV.und (nx U) u = true := fun i u hu => R.und _ _ (st.tmps i u (ht i u hu))
 have hvu : AV.und (nx U) v = true := by
  have hvR := Br st.glob st.tmps x;rw [ht.opd hv] at hvR;exact R.und _ _ hvR
 have hcu : AV.unds (nx U) cs = true := by
  unfold AV.cellsN at hc
  split at hc <;> try (cases hc; done)
  ·cases hb' : Nat.beq ‹List AV›.length sz with
   | true => rw [hb'] at hc; cases hc; exact hvu
   | false => rw [hb'] at hc; cases hc
  ·cases hb' : Nat.beq sz 1 with
   | true => rw [hb'] at hc; cases hc; simp only [AV.unds,hvu,cl_]
   | false => rw [hb'] at hc; cases hc
 have key : TO E nt [] B ops ({ dst := some d,op := .alloc t,type := ty,pos := pos,after := after,guard := none } :: { dst := none,op := .store t (.tmp d) x,type := ty',pos := pos',after := after',guard := none } :: r) K J U := by
  refine Q9 noR (U₁ := U.new (.cells z)) (J₁ := (d,.pr (nx U) 0) :: J) (fun tm' ht' => ⟨_,Zk hz hd,ht'.put d _⟩) ?_
  refine Zh noR rfl rfl (Aw (vs := z) (vs' := cs) (ad := nx U) (off := 0) (v := v) (cs := cs) hi (by simp [Ak,Ae.at,bf_]) (hx _) hc Cf (Fj hcs)) ?_
  simp only [Dz];refine An8 U ((d,.pv cs) :: J) ?_ hB ?_ k
  ·refine ag_ hwf (by rw [Ac,Af]; exact eu_ _) fun b hb => ?_
   rw [a_,if_neg Om,ab_,if_neg Om]
  ·intro i u hu;simp only [Ae.at] at hu ⊢;cases hb : Nat.beq d i with
   | true =>
    rw [hb] at hu; simp only [cond_true,ad_] at hu ⊢;subst hu
    refine ⟨_,rfl,.pr (vs := cs) (by rw [a_,if_pos rfl]) ?_ (fb_ hcu)⟩
    cases hg : U.get (nx U) with
    | none => rfl
    | some O => exact absurd (hwf _ _ hg).1 (gl_ _)
   | false => rw [hb] at hu; exact ⟨u,hu,.same (fo i u hu)⟩
 exact key C w tm a ht st hB
def H7 (J J' : Ae) : Prop := ∀ i v,Ae.at J i = some v -> Ae.at J' i = some v
theorem H7.refl : H7 J J := fun _ _ h => h
theorem H7.cons {d : Nat} {v : AV} (hd : Ae.at J d = none) (h : H7 J J') : H7 J ((d,v) :: J') := fun i u hu => by
 simp only [Ae.at];cases hb : Nat.beq d i with
 | true => have := ac_ hb; subst this; rw [hd] at hu; cases hu
 | false => exact h i u hu
theorem Xt {ops r : List Oper} (h : TO E nt df B ops r K J U) (hs : H7 J J') : TO E nt df B ops r K J' U :=
 fun C w tm a ht st => h C w tm a (fun i v hv => ht i v (hs i v hv)) st
theorem H7.put {d : Nat} {v : AV} (h : H7 J J') : H7 ((d,v) :: J) ((d,v) :: J') := fun i u hu => by
 simp only [Ae.at] at hu ⊢;cases hb : Nat.beq d i with
 | true => rw [hb] at hu; exact hu
 | false => rw [hb] at hu; exact h i u hu
theorem Md {ops : List Oper} {o : Oper} (hg : o.guard = none) : ∀ J',H7 J J' -> ∀ tm,Has tm J' -> Co ops o tm = some true := fun _ _ _ _ => by simp only [Co,hg]
theorem I6 {ops : List Oper} {o oj : Oper} {j d : Nat} {b want : Bool} (hg : o.guard = some (j,want)) (hj : ops[j]? = some oj) (hdj : oj.dst = some d) (hb : Ae.at J d = some (.bool b)) (hw : cond b want (!want) = true) :
  ∀ J',H7 J J' -> ∀ tm,Has tm J' -> Co ops o tm = some true := fun J' hs tm ht => by rw [Gf ht hg hj hdj (hs _ _ hb),hw]
theorem Xu {ops r : List Oper} {o : Oper} {t : Nat} {c x y : Operand} {v : AV} (hg : ∀ tm,Has tm J -> Co ops o tm = some true) (hop : o.op = .pick c x y) (cn : o.dst = some t) (ht : Nat.blt t nt = true)
  (h : A0 E (fun _ _ _ => none) (.pick c x y) J U v U) (k : TO E nt df B ops r K ((t,v) :: J) U) : TO E nt df B ops (o :: r) K J U := by
 refine Q9 dr_ (fun tm hh => ?_) k
 obtain ⟨tm',h1,h2⟩ := Dc (dst := o.dst) (by rw [cn]; exact ht) hh v
 rw [cn] at h2;refine ⟨tm',?_,h2⟩
 rw [Pp (s := ⟨tm,nt,df,U⟩) (hg tm hh) (by rw [hop]; rfl),hop]
 simp only [h tm hh,h1]
theorem Lx (n : Nat) (b q : Bool) {ops r r' : List Oper} {o : Oper} {t : Nat} {c x : Operand} (h0 : Ak E J c = some (.bool b))
  (hr : r.drop n = o :: r') (hop : o.op = .pick c x (.const (.bool false))) (cn : o.dst = some t) (ht : Nat.blt t nt = true) (hg : ∀ J',H7 J J' -> ∀ tm,Has tm J' -> Co ops o tm = some true)
  (hon : b = true -> TO E nt df B ops (r.take n) (fun J' U' => U' = U /\ H7 J J' /\ Ak E J' x = some (.bool q)) J U)
  (ev : b = false -> TO E nt df B ops (r.take n) (fun J' U' => U' = U /\ H7 J J') J U)
  (k : TO E nt df B ops r' K ((t,.bool (b && q)) :: J) U) : TO E nt df B ops r K J U := by
 refine An6 n ?_;rw [hr]
 have b8 : ∀ J',H7 J J' -> Ak E J' c = some (.bool b) := fun J' hs => by
  cases c with
  | tmp j => exact hs _ _ h0
  | _ => exact h0
 cases b with
 | true =>
  refine (hon rfl).mono fun J' U' ⟨h1,h2,h3⟩ => ?_
  subst h1
  exact Xu (hg J' h2) hop cn ht (B8 (b8 J' h2) rfl h3) (Xt (by simpa using k) h2.put)
 | false =>
  refine (ev rfl).mono fun J' U' ⟨h1,h2⟩ => ?_
  subst h1
  exact Xu (hg J' h2) hop cn ht (A7 (v := .bool false) (b8 J' h2) rfl rfl) (Xt (by simpa using k) h2.put)
theorem Acn (n : Nat) (b q : Bool) {ops r r' : List Oper} {o : Oper} {t : Nat} {c x : Operand} (h0 : Ak E J c = some (.bool b))
  (hr : r.drop n = o :: r') (hop : o.op = .pick c (.const (.bool true)) x) (cn : o.dst = some t) (ht : Nat.blt t nt = true) (hg : ∀ J',H7 J J' -> ∀ tm,Has tm J' -> Co ops o tm = some true)
  (hon : b = false -> TO E nt df B ops (r.take n) (fun J' U' => U' = U /\ H7 J J' /\ Ak E J' x = some (.bool q)) J U)
  (ev : b = true -> TO E nt df B ops (r.take n) (fun J' U' => U' = U /\ H7 J J') J U)
  (k : TO E nt df B ops r' K ((t,.bool (b || q)) :: J) U) : TO E nt df B ops r K J U := by
 refine An6 n ?_;rw [hr]
 have b8 : ∀ J',H7 J J' -> Ak E J' c = some (.bool b) := fun J' hs => by
  cases c with
  | tmp j => exact hs _ _ h0
  | _ => exact h0
 cases b with
 | false =>
  refine (hon rfl).mono fun J' U' ⟨h1,h2,h3⟩ => ?_
  subst h1
  exact Xu (hg J' h2) hop cn ht (A7 (b8 J' h2) rfl h3) (Xt (by simpa using k) h2.put)
 | true =>
  refine (ev rfl).mono fun J' U' ⟨h1,h2⟩ => ?_
  subst h1
  exact Xu (hg J' h2) hop cn ht (B8 (v := .bool true) (b8 J' h2) rfl rfl) (Xt (by simpa using k) h2.put)
theorem Aqw {ops r : List Oper} {o oj : Oper} {j d : Nat} {want : Bool} (hg : o.guard = some (j,want)) (hj : ops[j]? = some oj) (hdj : oj.dst = some d) (hb : Ae.at J d = some Au)
  (hd : Ca nt o.dst = true) (k : TO E nt df B ops r K (Dz o.dst Au J) U) : TO E nt df B ops (o :: r) K J U := by
 refine Q9 dr_ (fun tm ht => ?_) k
 obtain ⟨tm',h1,h2⟩ := Dc (dst := o.dst) hd ht Au;refine ⟨tm',?_,h2⟩
 have : Co ops o tm = some false := by simp only [Co,hg,hj,hdj,ht d _ hb]; rfl
 unfold Nq;rw [this];simp only [h1]
theorem Aoa {ops r : List Oper} {oj : Oper} {j dj : Nat} {b want : Bool} {f : Operand} {args : Array Operand} {tys : Array Nat} {dst : Option Nat} {ty : Nat} {pos : String} {after : Array Edge} {k : Nat} {first cap vs full : List AV} {Post : AV -> Sto -> Prop}
  (hj : ops[j]? = some oj) (hdj : oj.dst = some dj) (hb : Ae.at J dj = some (.bool b)) (hw : cond b want (!want) = true) (hd : Ca nt dst = true)
  (hf : Ak E J f = some (.fn (.func k) first cap)) (ha : Ky E J args.toList = some vs) (hl : first ++ vs ++ cap = full) (hc : Ao E k full U Post)
  (kk : ∀ v U',Post v U' -> TO E nt df B ops r K (Dz dst v J) U') : TO E nt df B ops ({ dst := dst,op := .call ⟨.value f,args,tys⟩,type := ty,pos := pos,after := after,guard := some (j,want) } :: r) K J U := by
 intro C w tm a ht st hB arr i QQ rest br hr hQ
 have ho : arr[i]? = some { dst := dst,op := .call ⟨.value f,args,tys⟩,type := ty,pos := pos,after := after,guard := some (j,want) } := by have := hr 0 (by simp); simpa using this.symm
 simp only [at_,d_,az_,wpOps,ho]
 have hw' : Region.wanted { dst := dst,op := .call ⟨.value f,args,tys⟩,type := ty,pos := pos,after := after,guard := some (j,want) } (yielded arr a.tmps) = true := by
  refine Ge (o := { dst := dst,op := .call ⟨.value f,args,tys⟩,type := ty,pos := pos,after := after,guard := some (j,want) }) st.tmps ?_;rw [br,Gf (o := { dst := dst,op := .call ⟨.value f,args,tys⟩,type := ty,pos := pos,after := after,guard := some (j,want) }) ht rfl hj hdj hb,hw]
 rw [if_pos hw'];refine .inl ?_;have hV := Br st.glob st.tmps f;rw [ht.opd hf] at hV;unfold R at hV;obtain ⟨p,q,hV,hp,hq⟩ := hV;have bj := Dw st.glob st.tmps args.toList;rw [ht.opds ha] at bj
 have bi : RL C (nx U) w full (p ++ args.map a.eval ++ q).toList := by
  subst hl;simp only [db_,cb_];exact (hp.append bj).append hq
 obtain ⟨⟨fn,g1,g2,g3⟩,bo⟩ := hc C w _ st.sim st.glob bi
 have bx : (execOp a.eval { dst := dst,op := .call ⟨.value f,args,tys⟩,type := ty,pos := pos,after := after,guard := some (j,want) }).run E.P w = .ok (.enter k (p ++ args.map a.eval ++ q)) w := by
  have g2' : fn.name ≠ "runtime.NumGoroutine" := by simpa using g2
  have g3' : fn.body ≠ none := fun hh => by rw [hh] at g3; cases g3
  simp [execOp,resolve,hV,Deferred.ofValue,invoke,callFunc,g1,g2',g3']
 unfold Oper.wp;rw [bx,Oper.upon_enter];refine bo.mono fun e w' he => ?_
 cases e with
 | returned x =>
  obtain ⟨v,U',C',k0,k1,k2,k3⟩ := he;obtain ⟨tm',h1,h2⟩ := Dc (dst := dst) hd ht v
  exact kk v U' k0 C' w' tm' _ h2 (st.put k1 k2 k3 h1) (ax_ hB k2.next) arr (i + 1) QQ rest br (fun j hj => by have := hr (j + 1) (by simpa using hj); simp only [be_] at this; rw [this]; congr 1; omega)
   fun C2 w2 a2 tm2 J2 U2 q1 q2 q3 qB q4 => hQ C2 w2 a2 tm2 J2 U2 q1 q2 q3 qB ((k2.base hB).trans q4)
 | panicked _ => exact he.elim
 | outgrown => exact he.elim
end
abbrev Str := List UInt8
def sV (s : Str) : AV := .str (s.map UInt8.toNat)
def slV {α : Type} (enc : α -> List AV) (sz : Nat) (l : List α) : AV := .sv (l.flatMap enc) sz l.length none
def bV (b : Bool) : AV := .bool b
def iV (n : Int) : AV := .int .i64 n
theorem Asw {s t : Str} (h : sV s = sV t) : s = t := by
 simp only [sV,AV.str.injEq] at h
 exact List.map_inj_right (fun a b h => UInt8.toNat_inj.1 h) |>.1 h
theorem Fb {s t : Str} : (s.map UInt8.toNat = t.map UInt8.toNat) ↔ s = t := List.map_inj_right (fun a b h => UInt8.toNat_inj.1 h)
theorem Dd {α : Type} {enc : α -> List AV} {sz : Nat} (he : ∀ a,(enc a).length = sz) : ∀ l : List α,(l.flatMap enc).length = l.length * sz
 | [] => by simp
 | a :: r => by simp only [ca_,ao_,he,Dd he r,at_,fv_]; omega
theorem Uc {α : Type} {enc : α -> List AV} {sz : Nat} (he : ∀ a,(enc a).length = sz) : ∀ (l : List α) (i : Nat),(l.flatMap enc).drop (i * sz) = (l.drop i).flatMap enc
 | l,0 => by simp
 | [],i + 1 => by simp
 | a :: r,i + 1 => by
  simp only [ca_,List.drop_succ_cons,fv_];rw [← Uc he r i,fz_,← dh_,List.drop_left' (he a)]
theorem Xv {α : Type} {enc : α -> List AV} {sz : Nat} (he : ∀ a,(enc a).length = sz) {l : List α} {i : Nat} {a : α} (h : l[i]? = some a) : (l.flatMap enc).drop (i * sz) = enc a ++ (l.drop (i + 1)).flatMap enc := by
 rw [Uc he];obtain ⟨hi,rfl⟩ := aa_.1 h;rw [aw_ hi,ca_]
section
variable {E : Env} {J : Ae} {U : Sto} {Rr : Rec} {t n : Nat} {x y : Operand} {α : Type} {enc : α -> List AV} {sz : Nat} {l : List α}
theorem Jm {t₀ : Nat} (hi : Oc E.P t₀ = true) (hx : Ak E J x = some (slV enc sz l)) : A0 E Rr (.call ⟨.builtin .len,#[x],#[t₀]⟩) J U (.int .i64 (.ofNat l.length)) U :=
 B0 hi hx rfl rfl
theorem Aqx {t₀ : Nat} {s : Str} (hi : Dy E.P t₀ = true) (hx : Ak E J x = some (sV s)) : A0 E Rr (.call ⟨.builtin .len,#[x],#[t₀]⟩) J U (.int .i64 (.ofNat s.length)) U := by
 have := Amb (Rr := Rr) (U := U) hi hx
 rwa [bs_] at this
theorem Ax {by' i : Nat} {zz : Option (List AV)} {k : IntKind} {a : α} (hi : elI E.P t = some (sz,by',zz)) (he : ∀ a,(enc a).length = sz) (hx : Ak E J x = some (slV enc sz l)) (hy : Ak E J y = some (.int k (.ofNat i))) (ha : l[i]? = some a) :
  A0 E Rr (.indexAddr t x y) J U (.pv (enc a ++ (l.drop (i + 1)).flatMap enc)) U := by
 have h := S3 (Rr := Rr) (U := U) hi hx hy (m := l.length) rfl rfl (aa_.1 ha).1
 have e : Afu (slV enc sz l) (i * sz) = .pv (enc a ++ (l.drop (i + 1)).flatMap enc) := by
  show AV.pv ((l.flatMap enc).drop (i * sz)) = _
  rw [Xv he ha]
 rw [e] at h;exact h
theorem Ud {p q : Str} {ty : Nat} (hi : okI E.P t = true) (hx : Ak E J x = some (sV p)) (hy : Ak E J y = some (sV q)) : A0 E Rr (.binOp .eql t x y ty) J U (.bool (decide (p = q))) U := by
 have := Ass (Rr := Rr) (U := U) (ty := ty) hi hx hy
 simpa only [Fb] using this
theorem Ey {p q : Str} {ty : Nat} (hi : okI E.P t = true) (hx : Ak E J x = some (sV p)) (hy : Ak E J y = some (sV q)) : A0 E Rr (.binOp .neq t x y ty) J U (.bool (!decide (p = q))) U := by
 have := Ast (Rr := Rr) (U := U) (ty := ty) hi hx hy
 simpa only [Fb] using this
end
theorem Fk : ∀ {l r : List AV},C7 l.length (l ++ r) = some l
 | [],r => rfl
 | x :: l,r => by simp only [at_,az_,C7,Fk (l := l)]
theorem Ba {l : List AV} {sz : Nat} (h : l.length = sz) (r : List AV) : Jc sz true (l ++ r) = some (.agg l) := by
 subst h; simp only [Jc,Fk]
theorem Bt {l : List AV} {sz : Nat} (h : l.length = sz) : Jc sz true l = some (.agg l) := by
 have := Ba h []
 rwa [bi_] at this
theorem A1 {l : List AV} {sz : Nat} (h : l.length = sz) : (AV.agg l).cellsN sz = some l := by
 subst h; simp only [AV.cellsN,bf_,cond_true]
def A2 {α : Type} (p : α -> Bool) : List α -> Nat -> Int
 | [],_ => -1
 | a :: r,i => cond (p a) (.ofNat i) (A2 p r (i + 1))
theorem Af6 {α : Type} {p : α -> Bool} : ∀ (l : List α) (i : Nat),(0 : Int) <= A2 p l i ↔ l.any p = true
 | [],i => by simp [A2]
 | a :: r,i => by
  rw [List.any_cons];unfold A2
  by_cases hp : p a = true
  ·rw [hp]; simp
  ·have hp : p a = false := by simpa using hp
   rw [hp,cond_false,Bool.false_or];exact Af6 r (i + 1)
theorem E1 {α : Type} {p : α -> Bool} (l : List α) : decide (Int.ofNat 0 <= A2 p l 0) = l.any p := by
 have := Af6 (p := p) l 0
 by_cases h : l.any p = true
 ·rw [h]; exact decide_eq_true (this.2 h)
 ·rw [Bool.not_eq_true] at h; rw [h]; exact decide_eq_false (fun hh => by rw [this.1 hh] at h; cases h)
def Wk (v v' : AV) : Prop := ∀ C N w x,R C N w v x -> R C N w v' x
theorem Wk.rfl' {v : AV} : Wk v v := fun _ _ _ _ h => h
theorem D6 {cs : List AV} {sz len : Nat} {cap : Option Nat} : Wk (.sv cs sz len cap) (.sv cs sz len none) := fun C N w x h => by
 unfold R at h ⊢;obtain ⟨ado,k,h1,h2,h3,h4⟩ := h
 exact ⟨ado,k,h1,h2,fun q hq => (by cases hq),h4⟩
theorem Ue {sz : Nat} : Wk (.nil (.slice none 0 0)) (.sv [] sz 0 none) := fun C N w x h => by
 unfold R at h ⊢;obtain ⟨rfl,_⟩ := h
 exact ⟨none,0,rfl,nl,fun q hq => (by cases hq),by simp,fun _ => rfl,fun ad ha => by cases ha⟩
inductive WkL : List AV -> List AV -> Prop
 | nil : WkL [] []
 | cons {a b : AV} {l m : List AV} : Wk a b -> WkL l m -> WkL (a :: l) (b :: m)
theorem WkL.RL {C : Ctx} {N : Nat} {w : World} : ∀ {l m : List AV},WkL l m -> ∀ {xs : List Value},RL C N w l xs -> RL C N w m xs
 | _,_,.nil,xs,h => h
 | _,_,.cons h1 h2,[],h => by unfold AM.RL at h; exact h.elim
 | _,_,.cons h1 h2,x :: xs,h => by unfold AM.RL at h ⊢; exact ⟨h1 _ _ _ _ h.1,h2.RL h.2⟩
theorem WkL.refl : ∀ {l : List AV},WkL l l
 | [] => .nil
 | _ :: _ => .cons .rfl' .refl
theorem Asx {l m : List AV} (h : WkL l m) : Wk (.agg l) (.agg m) := fun C N w x hr => by
 unfold R at hr ⊢; obtain ⟨a,h1,h2,h3⟩ := hr; exact ⟨a,h1,h.RL h2,h3⟩
theorem Asy {l m : List AV} (h : WkL l m) : Wk (.tup l) (.tup m) := fun C N w x hr => by
 unfold R at hr ⊢; obtain ⟨a,h1,h2⟩ := hr; exact ⟨a,h1,h.RL h2⟩
theorem Ao.wk {E : Env} {f : Nat} {args args' : List AV} {U : Sto} {Post : AV -> Sto -> Prop} (h : Ao E f args' U Post) (k : WkL args args') : Ao E f args U Post :=
 fun C w vs hs hg ha => h C w vs hs hg (k.RL ha)
theorem Ao.wkr {E : Env} {f : Nat} {args : List AV} {U : Sto} {v v' : AV} (h : Ao E f args U fun u τ => u = v /\ τ = U) (k : Wk v v') : Ao E f args U fun u τ => u = v' /\ τ = U := by
 intro C w vs hs hg ha;obtain ⟨h1,h2⟩ := h C w vs hs hg ha;refine ⟨h1,h2.mono fun e w' he => ?_⟩
 cases e with
 | returned x => obtain ⟨u,U',C',⟨rfl,rfl⟩,k1,k2,k3⟩ := he; exact ⟨v',_,C',⟨rfl,rfl⟩,k1,k2,k _ _ _ _ k3⟩
 | panicked _ => exact he.elim
 | outgrown => exact he.elim
section
variable {E : Env} {nt B : Nat} {df : List (Nat × List AV)} {J J' : Ae} {U U' : Sto} {K : Ae -> Sto -> Prop} {Rr : Rec}
theorem Ar3 {ops r : List Oper} {d : Nat} {v v' : AV} (h : Wk v v') (k : TO E nt df B ops r K ((d,v') :: J) U) : TO E nt df B ops r K ((d,v) :: J) U := by
 intro C w tm a ht st hB
 have hd := st.tmps d v (ht d v (by simp [Ae.at,bf_]))
 refine k C w (tm.put (d + 1) d (some v')) a (fun i u hu => ?_) ⟨st.sim,st.glob,fun i u hu => ?_,st.size,st.dfs⟩ hB
 ·rw [de_];simp only [Ae.at] at hu;cases hb : Nat.beq d i with
  | true => rw [hb] at hu; have := ac_ hb; subst this; rw [if_pos rfl]; exact hu
  | false =>
   rw [hb] at hu
   rw [if_neg (fun he => by subst he; rw [bf_] at hb; cases hb)]
   exact ht i u (by simp only [Ae.at]; rw [hb]; exact hu)
 ·have hu : (tm.put (d + 1) d (some v')).get i = some u := hu;rw [de_] at hu
  by_cases hi : i = d
  ·subst hi; rw [if_pos rfl] at hu; cases hu; exact h _ _ _ _ hd
  ·rw [if_neg hi] at hu; exact st.tmps i u hu
theorem C1 {ops r : List Oper} {op : Op} {d : Nat} {ty : Nat} {pos : String} {after : Array Edge} {v v' : AV} {U₁ : Sto} (h : A0 E (fun _ _ _ => none) op J U v U₁) (hw : Wk v v') (hn : F7 op = true) (hd : Nat.blt d nt = true)
  (k : TO E nt df B ops r K ((d,v') :: J) U₁) : TO E nt df B ops ({ dst := some d,op := op,type := ty,pos := pos,after := after,guard := none } :: r) K J U :=
 Zh noR hn hd h (Ar3 hw k)
theorem Ag {ops r : List Oper} {f : Operand} {args : Array Operand} {tys : Array Nat} {dst : Option Nat} {ty : Nat} {pos : String} {after : Array Edge} {k : Nat} {first cap vs full : List AV} {v : AV} (hd : Ca nt dst = true)
  (hf : Ak E J f = some (.fn (.func k) first cap)) (ha : Ky E J args.toList = some vs) (hl : first ++ vs ++ cap = full) (hc : Ao E k full U fun u τ => u = v /\ τ = U')
  (kk : TO E nt df B ops r K (Dz dst v J) U') : TO E nt df B ops ({ dst := dst,op := .call ⟨.value f,args,tys⟩,type := ty,pos := pos,after := after,guard := none } :: r) K J U :=
 Bw hd hf ha hl hc fun u τ h => by obtain ⟨rfl,rfl⟩ := h; exact kk
theorem Bh {ops r : List Oper} {oj : Oper} {j dj : Nat} {b want : Bool} {f : Operand} {args : Array Operand} {tys : Array Nat} {dst : Option Nat} {ty : Nat} {pos : String} {after : Array Edge} {k : Nat} {first cap vs full : List AV} {v : AV}
  (hj : ops[j]? = some oj) (hdj : oj.dst = some dj) (hb : Ae.at J dj = some (.bool b)) (hw : cond b want (!want) = true) (hd : Ca nt dst = true)
  (hf : Ak E J f = some (.fn (.func k) first cap)) (ha : Ky E J args.toList = some vs) (hl : first ++ vs ++ cap = full) (hc : Ao E k full U fun u τ => u = v /\ τ = U')
  (kk : TO E nt df B ops r K (Dz dst v J) U') : TO E nt df B ops ({ dst := dst,op := .call ⟨.value f,args,tys⟩,type := ty,pos := pos,after := after,guard := some (j,want) } :: r) K J U :=
 Aoa hj hdj hb hw hd hf ha hl hc fun u τ h => by obtain ⟨rfl,rfl⟩ := h; exact kk
theorem Lm {t i : Nat} {x y : Operand} {s : Str} {b : UInt8} {k : IntKind} (hi : Dy E.P t = true) (hx : Ak E J x = some (sV s)) (hy : Ak E J y = some (.int k (.ofNat i))) (hb : s[i]? = some b) :
  A0 E Rr (.index t x y) J U (.int .u8 (.ofNat b.toNat)) U := Afv hi hx hy (by rw [bp_,hb]; rfl)
theorem Pq {n : Int} (h1 : -9223372036854775808 <= n) (h2 : n < 9223372036854775808) : L5 .i64 n = .int .i64 n := by
 cases n with
 | ofNat m =>
  have : Nat.ble m 9223372036854775807 = true := ap_ (by have : (m : Int) < 9223372036854775808 := h2; omega)
  simp only [L5,Ai,Ls,this,cond_true]
 | negSucc m =>
  have : Nat.ble m 9223372036854775807 = true := ap_ Om;simp only [L5,Ai,Ls,this,cond_true]
theorem Akk {t ty : Nat} {x y : Operand} {p q : Int} (hi : okI E.P t = true) (hx : Ak E J x = some (.int .i64 p)) (hy : Ak E J y = some (.int .i64 q)) (h1 : -9223372036854775808 <= p + q) (h2 : p + q < 9223372036854775808) :
  A0 E Rr (.binOp .add t x y ty) J U (iV (p + q)) U := Kz hi hx hy (by simp only [Gm,Ab0,Pq h1 h2]; rfl)
theorem Ps {t ty : Nat} {x y : Operand} {p q : Int} (hi : okI E.P t = true) (hx : Ak E J x = some (.int .i64 p)) (hy : Ak E J y = some (.int .i64 q)) (h1 : -9223372036854775808 <= p - q) (h2 : p - q < 9223372036854775808) :
  A0 E Rr (.binOp .sub t x y ty) J U (iV (p - q)) U := Kz hi hx hy (by simp only [Gm,T2,Pq h1 h2]; rfl)
theorem Ly {t ty : Nat} {x y : Operand} {p q : Nat} (hi : okI E.P t = true) (hx : Ak E J x = some (.int .i64 (.ofNat p))) (hy : Ak E J y = some (.int .i64 (.ofNat q))) (h : q <= p) (hp : p < 9223372036854775808) :
  A0 E Rr (.binOp .sub t x y ty) J U (iV (.ofNat (p - q))) U := by
 have := Ps (Rr := Rr) (U := U) (ty := ty) hi hx hy (by simp only [ai_]; omega) (by simp only [ai_]; omega)
 rwa [show (Int.ofNat p - Int.ofNat q) = Int.ofNat (p - q) by simp only [ai_]; omega] at this
theorem Zl {ops r : List Oper} {t ty0 : Nat} {x : Operand} {d ty : Nat} {pos : String} {after : Array Edge} {cs : List AV} {sz len : Nat} {cap : Option Nat} (hsl : Oc E.P t = true) (hx : Ak E J x = some (.sv cs sz len cap)) (hd : Nat.blt d nt = true)
  (k : ∀ b : Bool,(b = true -> len = 0) -> TO E nt df B ops r K ((d,.bool b) :: J) U) :
  TO E nt df B ops ({ dst := some d,op := .binOp .eql t x (.const (.slice none 0 0)) ty0,type := ty,pos := pos,after := after,guard := none } :: r) K J U := by
 have hti : ∃ ti e,A4 E.P t = some ti /\ ti.desc = .slice e := by
  unfold Oc at hsl
  split at hsl
  ·rename_i ti hti
   split at hsl
   ·rename_i e he; exact ⟨ti,e,hti,he⟩
   ·cases hsl
  ·cases hsl
 obtain ⟨ti,e,hti,hde⟩ := hti
 have hu : E.P.underlying t = some (.slice e) := by
  obtain ⟨_,dd,_,g2,g3,_⟩ := Ar hti
  exact g2.trans (by rw [← g3,hde])
 refine Af5 (Pv := fun v => ∃ b : Bool,v = .bool b /\ (b = true -> len = 0)) (dst := some d) (U' := U) hd (fun C w tm a ht st => ?_) (fun v hv => by obtain ⟨b,rfl,hb⟩ := hv; exact k b hb)
 have hv := Br st.glob st.tmps x;rw [ht.opd hx] at hv;unfold R at hv;obtain ⟨ado,kk,h1,h2,h3,h4,h5,h6⟩ := hv;have fin : ∀ {X : Value} {b : Bool},a.eval x = X -> (∀ l,X ≠ .agg l) -> X ≠ .nilIface -> (binOp .eql t X (.slice none 0 0)).run E.P w = .ok (.bool b) w ->
   (execOp a.eval { dst := some d,op := .binOp .eql t x (.const (.slice none 0 0)) ty0,type := ty,pos := pos,after := after,guard := none }).run E.P w = .ok (.value (.bool b)) w := by
  intro X b hX hn1 hn2 hb;have hg := Ej (P := E.P) (w := w) (op := .eql) (t := t) (x := x) (y := .const (.slice none 0 0)) (a := X) (b := .slice none 0 0) (fun l m hh => hn1 l hh.1) (fun hh => hn2 hh.1)
  have hY : a.eval (.const (.slice none 0 0)) = .slice none 0 0 := rfl;simp only [execOp,hX,hY,Sem.run_bind,hg,Result.andThen_ok,hb,Sem.run_pure]
 cases ado with
 | some ad =>
  have := (gh_ (w := w) hu ⟨_,rfl⟩ ad len kk).1.eql
  exact ⟨.bool false,⟨false,rfl,fun h => by cases h⟩,.bool false,w,C,.inl (fin h1 (fun l h => by cases h) (fun h => by cases h) this),by unfold R; rfl,st.sim,by_ _ _ _⟩
 | none =>
  have hk := h5 rfl;subst hk
  have hl : len = 0 := by omega
  subst hl;have := (gh_ (w := w) hu ⟨_,rfl⟩ ⟨0,0,none⟩ 0 0).2.2.eql
  exact ⟨.bool true,⟨true,rfl,fun _ => rfl⟩,.bool true,w,C,.inl (fin h1 (fun l h => by cases h) (fun h => by cases h) this),by unfold R; rfl,st.sim,by_ _ _ _⟩
end
def Zm (E : Env) (J : Ae) (fl : List (Nat × Nat)) : List (Nat × Operand) -> Option (List (Nat × Nat × AV))
 | [] => some []
 | (i,x) :: r => match fl[i]?,Ak E J x,Zm E J fl r with
  | some (o,n),some v,some l => some ((o,n,v) :: l)
  | _,_,_ => none
def Rb (E : Env) (J : Ae) (sz : Nat) : List (Nat × Operand) -> Option (List (Nat × Nat × AV))
 | [] => some []
 | (i,x) :: r => match Ak E J x,Rb E J sz r with
  | some v,some l => some ((i * sz,sz,v) :: l)
  | _,_ => none
section
variable {E : Env} {J : Ae} {U U' : Sto} {tm : Tr AV} {Rr : Rec}
theorem Akl {P : Program} : ∀ {fs : List Field} {fl : List (Nat × Nat)},bdF P fs = some fl -> ∀ (i : Nat) (p : Nat × Nat),fl[i]? = some p -> ∃ (f : Field) (ti : TI),fs[i]? = some f /\ A4 P f.type = some ti /\ p = (f.offset,ti.size)
 | [],fl,h,i,p,hp => by simp only [bdF,ad_] at h; subst h; simp at hp
 | f :: r,fl,h,i,p,hp => by
  simp only [bdF] at h
  split at h
  ·rename_i ti l hti hl
   cases h;cases i with
   | zero => simp at hp; exact ⟨f,ti,rfl,hti,hp.symm⟩
   | succ i => obtain ⟨g,tj,h1,h2,h3⟩ := Akl hl i p (by simpa using hp); exact ⟨g,tj,by simpa using h1,h2,h3⟩
  ·cases h
theorem Af7 (h : Has tm J) {fs : List Field} {fl : List (Nat × Nat)} (hf : bdF E.P fs = some fl) : ∀ {l : List (Nat × Operand)} {ps : List (Nat × Nat × AV)},Zm E J fl l = some ps -> I1 E.P E tm fs l = some ps
 | [],ps,hp => by simp only [Zm,ad_] at hp; subst hp; rfl
 | (i,x) :: r,ps,hp => by
  simp only [Zm] at hp
  split at hp
  ·rename_i o n v l h1 h2 h3
   cases hp;obtain ⟨f,ti,k1,k2,k3⟩ := Akl hf i _ h1;cases k3;simp only [I1,k1,Af7 h hf h3,k2,h.opd h2]
  ·cases hp
theorem Td (h : Has tm J) {sz : Nat} : ∀ {l : List (Nat × Operand)} {ps : List (Nat × Nat × AV)},Rb E J sz l = some ps -> G0 E tm sz l = ps
 | [],ps,hp => by simp only [Rb,ad_] at hp; subst hp; rfl
 | (i,x) :: r,ps,hp => by
  simp only [Rb] at hp
  split at hp
  ·rename_i v l h2 h3
   cases hp;simp only [G0,h.opd h2,Td h h3]
  ·cases hp
theorem Aob {t : Nat} {parts : Array (Nat × Operand)} {z cs : List AV} {fl : List (Nat × Nat)} {ps : List (Nat × Nat × AV)} (hi : bdI E.P t = some (z,fl)) (hp : Zm E J fl parts.toList = some ps) (hf : Qc z ps = some cs) :
  A0 E Rr (.build t parts) J U (.agg cs) U := fun tm h => by
 unfold bdI at hi
 split at hi
 ·rename_i ti hti
  split at hi
  ·rename_i z' fs hz hd
   split at hi
   ·rename_i l h1 h2
    cases hi;simp only [opA,Az,hti,hz,hd,h1,Af7 h h2 hp,Lt,hf]
   ·cases hi
  ·cases hi
 ·cases hi
theorem As {t len sz by' : Nat} {z cs : List AV} {parts : Array (Nat × Operand)} {ps : List (Nat × Nat × AV)} (hi : elI E.P t = some (sz,by',some z)) (hby : ∀ e,E.byref e = false) (hl : (Nat.ble (len * sz) 16777216 && Nat.beq z.length sz) = true)
  (hp : Rb E J sz parts.toList = some ps) (hf : Qc (rep z len) ps = some cs) : A0 E Rr (.buildSlice t len parts) J U (.sv cs sz len (some len)) U := fun tm h => by
 obtain ⟨ti,e,te,h1,h2,h3,h4,h5,h6⟩ := Od hi;subst h4;simp only [opA,Az,h1,h2,h3,h6,hl,hby,Td h hp,Fv,hf]
theorem Aoc {α : Type} {enc : α -> List AV} {sz : Nat} (he : ∀ a,(enc a).length = sz) (l : List α) {a b : Nat} (hab : a <= b) (hb : b <= l.length) :
  C7 ((b - a) * sz) ((l.flatMap enc).drop (a * sz)) = some (((l.take b).drop a).flatMap enc) := by
 rw [Uc he]
 have bv : ((l.take b).drop a).length = b - a := by simp; omega
 have e : l.drop a = (l.take b).drop a ++ l.drop b := by
  have h1 : l = l.take b ++ l.drop b := (c_ b l).symm
  calc l.drop a = (l.take b ++ l.drop b).drop a := by rw [← h1]
   _ = (l.take b).drop a ++ l.drop b := by rw [cm_ (by simp; omega)]
 rw [e,ct_];have := Fk (l := ((l.take b).drop a).flatMap enc) (r := (l.drop b).flatMap enc)
 rwa [Dd he,bv] at this
theorem Air {α : Type} {enc : α -> List AV} {t sz by' a b : Nat} {zz : Option (List AV)} {l : List α} {x : Operand} {lo hi mx : Option Operand} {alo ahi amx : Option AV} {c : Option Nat} (hel : elI E.P t = some (sz,by',zz)) (he : ∀ a,(enc a).length = sz)
  (hx : Ak E J x = some (slV enc sz l)) (h1 : Gp E J lo = some alo) (h2 : Gp E J hi = some ahi) (h3 : Gp E J mx = some amx) (hb : Ci l.length none alo ahi amx = some (a,b,c)) (hab : a <= b) (hbl : b <= l.length) :
  A0 E Rr (.slice t x lo hi mx) J U (.sv (((l.take b).drop a).flatMap enc) sz (b - a) c) U := fun tm h => by
 obtain ⟨ti,e,te,k1,k2,k3,k4,k5,k6⟩ := Od hel;subst k4;simp only [opA,Az,k1,k2,k3,h.opd hx,h.opdO h1,h.opdO h2,h.opdO h3,slV,Lu,bf_,hb,Aoc he l hab hbl,Ai]
theorem A3 {t t2 sz by' n : Nat} {z : List AV} {x y : Operand} {d s v : AV} {new : List AV} (hi : elI E.P t = some (sz,by',some z)) (hl : Nat.beq z.length sz = true) (hs : Oc E.P t2 = true) (hx : Ak E J x = some d) (hy : Ak E J y = some s)
  (hn : lenA s = some n) (fy : I9 U sz s n = some new) (ha : Bm U sz by' d n new = some (v,U')) : A0 E Rr (.call ⟨.builtin .append,#[x,y],#[t,t2]⟩) J U v U' := fun tm h => by
 obtain ⟨ti,e,te,h1,h2,h3,h4,h5,h6⟩ := Od hi;subst h4 h5;unfold Oc at hs
 split at hs
 ·rename_i t2i ht2
  split at hs
  ·rename_i e2 hd2
   simp only [opA,Az,h1,C8,h2,h3,ht2,h6,hl,hd2,h.opd hx,h.opd hy,opds,Sc,hn,fy,ha]
  ·cases hs
 ·cases hs
def Below (N : Nat) (U U' : Sto) : Prop := nx U <= nx U' /\ ∀ a,a < N -> U'.get a = U.get a
theorem Below.rfl' {N : Nat} : Below N U U := ⟨nl,fun _ _ => rfl⟩
abbrev fj_ := @Below.rfl'
theorem Below.trans {N : Nat} {U'' : Sto} (h : Below N U U') (k : Below N U' U'') : Below N U U'' := ⟨ax_ h.1 k.1,fun a ha => (k.2 a ha).trans (h.2 a ha)⟩
end
theorem Below.new {N : Nat} {U U' : Sto} (h : Below N U U') (hN : N <= nx U) (o : AO) : Below N U (U'.new o) :=
 ⟨by rw [Af]; have := h.1; omega,fun a ha => by rw [ab_,if_neg (by have := h.1; omega)]; exact h.2 a ha⟩
theorem Below.set {N a : Nat} {U U' : Sto} (h : Below N U U') (ha : N <= a) (o : AO) : Below N U (U'.set a o) :=
 ⟨by rw [Ac]; exact h.1,fun b hb => by rw [a_,if_neg Om]; exact h.2 b hb⟩
theorem D5.below {U U' : Sto} (hw : WFS U) (h : Below (nx U) U U') : D5 U' U := ag_ hw h.1 h.2
abbrev as_ := @D5.below
theorem Ht {N : Nat} : ∀ {l m : List AV},AV.unds N (l ++ m) = (AV.unds N l && AV.unds N m)
 | [],m => by simp [AV.unds]
 | x :: l,m => by simp only [az_,AV.unds,Ht (l := l),Bool.and_assoc]
theorem Bi {N : Nat} {α : Type} {enc : α -> List AV} (h : ∀ a,AV.unds N (enc a) = true) : ∀ l : List α,AV.unds N (l.flatMap enc) = true
 | [] => rfl
 | a :: r => by rw [ca_,Ht,h a,Bi h r]; rfl
theorem Ka {N : Nat} {α : Type} {enc : α -> List AV} {sz : Nat} (h : ∀ a,AV.unds N (enc a) = true) (l : List α) : AV.und N (slV enc sz l) = true := Bi h l
def Js : List (Tr AV × AV) -> List (Ae × AV) -> Prop
 | [],[] => True
 | (tm,v) :: l,(J,u) :: m => Has tm J /\ v = u /\ Js l m
 | _,_ => False
theorem Js.append : ∀ {l l' : List (Tr AV × AV)} {m m' : List (Ae × AV)},Js l m -> Js l' m' -> Js (l ++ l') (m ++ m')
 | [],l',[],m',_,h => h
 | (tm,v) :: l,l',(J,u) :: m,m',h,k => ⟨h.1,h.2.1,Js.append h.2.2 k⟩
 | [],_,_ :: _,_,h,_ => h.elim
 | _ :: _,_,[],_,h,_ => h.elim
theorem Js.reverse : ∀ {l : List (Tr AV × AV)} {m : List (Ae × AV)},Js l m -> Js l.reverse m.reverse
 | [],[],h => h
 | (tm,v) :: l,(J,u) :: m,h => by
  rw [dn_,dn_];exact Js.append (Js.reverse h.2.2) ⟨h.1,h.2.1,trivial⟩
 | [],_ :: _,h => h.elim
 | _ :: _,[],h => h.elim
theorem Js.get : ∀ {l : List (Tr AV × AV)} {m : List (Ae × AV)},Js l m -> ∀ (j : Nat) (t : Tr AV) (v : AV),l[j]? = some (t,v) -> ∃ J,m[j]? = some (J,v) /\ Has t J
 | [],[],_,j,t,v,h => by simp at h
 | (tm,v) :: l,(J,u) :: m,h,0,t,x,hj => by simp at hj; obtain ⟨rfl,rfl⟩ := hj; obtain ⟨h1,rfl,_⟩ := h; exact ⟨J,rfl,h1⟩
 | (tm,v) :: l,(J,u) :: m,h,j + 1,t,x,hj => by
  obtain ⟨J',h1,h2⟩ := Js.get h.2.2 j t x (by simpa using hj)
  exact ⟨J',by simpa using h1,h2⟩
 | [],_ :: _,h,_,_,_,_ => h.elim
 | _ :: _,[],h,_,_,_,_ => h.elim
abbrev KD := Ae -> Sto -> List Sto -> List (Ae × AV) -> Prop
def TD (E : Env) (nt : Nat) (Rr : Rec) (ops r : List Oper) (K : KD) (J : Ae) (U : Sto) (eps : List Sto) (log : List (Ae × AV)) : Prop :=
 ∀ (tm : Tr AV) (df : List (Nat × List AV)) (dl : List (Tr AV × AV)),Has tm J -> Js dl log -> ∃ d',Sg E ops Rr r ⟨⟨tm,nt,df,U⟩,eps,dl⟩ = some d' /\ d'.s.nt = nt /\ d'.s.df = df /\ ∃ J' log',Has d'.s.tm J' /\ Js d'.log log' /\ K J' d'.s.sto d'.eps log'
section
variable {E : Env} {nt B : Nat} {df : List (Nat × List AV)} {Q : Cu} {Rr : Rec} {ops r : List Oper} {K : KD} {J : Ae} {U : Sto} {eps : List Sto} {log : List (Ae × AV)}
theorem Dq (h : K J U eps log) : TD E nt Rr ops [] K J U eps log := fun tm df dl ht hl => ⟨_,rfl,rfl,rfl,J,log,ht,hl,h⟩
theorem Aod {o : Oper} {v : AV} {U₁ : Sto} {b : Bool} (hg : ∀ tm,Has tm J -> Co ops o tm = some true) (he : Bz (Bl E o.op) = b) (hd : Ca nt o.dst = true) (h : A0 E Rr o.op J U v U₁)
  (k : TD E nt Rr ops r K (Dz o.dst v J) (cond b U₁ U) (cond b (U₁ :: eps) eps) ((J,v) :: log)) : TD E nt Rr ops (o :: r) K J U eps log := by
 intro tm df dl ht hl;obtain ⟨tm',h1,h2⟩ := Dc (dst := o.dst) hd ht v
 have : Pk E ops o Rr ⟨⟨tm,nt,df,U⟩,eps,dl⟩ = some ⟨⟨tm',nt,df,cond b U₁ U⟩,cond b (U₁ :: eps) eps,(tm,v) :: dl⟩ := by
  unfold Pk;simp only [hg tm ht,h tm ht,h1,he];cases b <;> rfl
 obtain ⟨d',k1,k2⟩ := k tm' df ((tm,v) :: dl) h2 ⟨ht,rfl,hl⟩
 exact ⟨d',by simp only [Sg,this]; exact k1,k2⟩
theorem Akm {op : Op} {dst : Option Nat} {ty : Nat} {pos : String} {after : Array Edge} {v : AV} {U₁ : Sto} {b : Bool} (he : Bz (Bl E op) = b) (hd : Ca nt dst = true) (h : A0 E Rr op J U v U₁)
  (k : TD E nt Rr ops r K (Dz dst v J) (cond b U₁ U) (cond b (U₁ :: eps) eps) ((J,v) :: log)) : TD E nt Rr ops ({ dst := dst,op := op,type := ty,pos := pos,after := after,guard := none } :: r) K J U eps log :=
 Aod (o := { dst := dst,op := op,type := ty,pos := pos,after := after,guard := none }) (fun _ _ => rfl) he hd h k
theorem Ow {o oj : Oper} {v : AV} {U₁ : Sto} {j d : Nat} {b want e : Bool} (hg : o.guard = some (j,want)) (hj : ops[j]? = some oj) (hdj : oj.dst = some d) (hb : Ae.at J d = some (.bool b)) (hw : cond b want (!want) = true)
  (he : Bz (Bl E o.op) = e) (hd : Ca nt o.dst = true) (h : A0 E Rr o.op J U v U₁)
  (k : TD E nt Rr ops r K (Dz o.dst v J) (cond e U₁ U) (cond e (U₁ :: eps) eps) ((J,v) :: log)) : TD E nt Rr ops (o :: r) K J U eps log :=
 Aod (fun tm ht => by rw [Gf ht hg hj hdj hb,hw]) he hd h k
def Obl (E : Env) (eps : List Sto) : List Ann -> List Oper -> List (Ae × AV) -> Prop
 | a :: az,o :: os,(J,v) :: l => (match a.cls with
  | .read => ∀ U ∈ (eps.drop a.lo).take (a.hi + 1 - a.lo),∃ U',A0 E (fun _ _ _ => none) o.op J U v U'
  | _ => True) /\ Obl E eps az os l
 | _,_,_ => True
theorem Obl.get {E : Env} {eps : List Sto} : ∀ {az : List Ann} {os : List Oper} {l : List (Ae × AV)},Obl E eps az os l -> ∀ (j : Nat) (a : Ann) (o : Oper) (J : Ae) (v : AV),az[j]? = some a -> os[j]? = some o -> l[j]? = some (J,v) -> a.cls = .read ->
  ∀ U ∈ (eps.drop a.lo).take (a.hi + 1 - a.lo),∃ U',A0 E (fun _ _ _ => none) o.op J U v U'
 | a :: az,o :: os,(J,v) :: l,h,0,a',o',J',v',ha,ho,hl,hc => by
  simp at ha ho hl; obtain ⟨rfl,rfl⟩ := hl; subst ha ho
  have := h.1; rw [hc] at this; exact this
 | a :: az,o :: os,(J,v) :: l,h,j + 1,a',o',J',v',ha,ho,hl,hc => Obl.get h.2 j a' o' J' v' (by simpa using ha) (by simpa using ho) (by simpa using hl) hc
 | [],_,_,_,_,_,_,_,_,h,_,_,_ => by simp at h
 | _ :: _,[],_,_,_,_,_,_,_,_,h,_,_ => by simp at h
 | _ :: _,_ :: _,[],_,_,_,_,_,_,_,_,h,_ => by simp at h
theorem K3 {ops : Array Oper} {anns : List Ann} (h : Ko E ops = some anns) : Pi ops (Region.before ops).toList = true /\ Pj ops = true /\ Mp (Region.before ops).toList (Eh E ops.toList 0) = true /\
  anns = Jb E (Region.before ops).toList (Eh E ops.toList 0) ops.toList 0 := by
 unfold Ko at h;simp only at h
 split at h
 ·rename_i fa
  cases h;simp only [af_] at fa;obtain ⟨⟨⟨c1,c2⟩,c3⟩,_⟩ := fa;exact ⟨c1,c2,c3,rfl⟩
 ·cases h
theorem Rc {id : Nat} {ops : Array Oper} {anns : List Ann} (hm : E.P.follows .mixedOrders = true) (hR : Be E Rr) (ha : Ko E ops = some anns)
  (h : TD E nt Rr ops.toList ops.toList (fun J' U' eps log => Obl E eps.reverse anns ops.toList log.reverse /\ Q .normal J' U') J U [U] []) : T E nt df B (.region id ops true) Q J U := by
 intro C w tm a ht st hB;obtain ⟨c1,c2,c3,c4⟩ := K3 ha;obtain ⟨d,k1,k2,k3,J',log',k4,k5,k6,k7⟩ := h tm df [] ht trivial;refine wp_mono (Acj hm hR st c1 c2 c3 k1 fun j o t v ho hl hc hg Uk hU => ?_) fun e a' w' he => ?_
 ·obtain ⟨Jj,q1,q2⟩ := k5.reverse.get j t v hl
  have c7 := H5 (E := E) (b := (Region.before ops).toList) (effs := Eh E ops.toList 0) ops.toList 0 j o (by simpa using ho)
  rw [← c4] at c7;simp only [bq_] at c7
  obtain ⟨U',hto⟩ := k6.get j _ o Jj v c7 (by simpa using ho) q1 hc Uk (by simp only [Kj]; exact hU)
  have := hto t q2;refine ⟨U',?_⟩
  have hne : Bz (Bl E o.op) = false := by rw [hc]; rfl
  rw [← K0 (Rr := fun _ _ _ => none) hne]; exact this
 ·obtain ⟨y,hy,C',h1,h2,h3⟩ := he;rw [am_] at hy;subst hy;obtain ⟨⟨tm',nt',df',U'⟩,eps',dl'⟩ := d;simp only at k2 k3;subst k2 k3;exact ⟨.normal,tm',J',U',C',h1,k4,k7,h2,ax_ hB h3.next,h3.base hB⟩
def Akn (E : Env) (ops : List Oper) : Bool := ops.all fun o => !Bz (Bl E o.op)
def KD0 (Q : Cu) (U : Sto) : KD := fun J' U' eps _ => U' = U /\ eps = [U] /\ Q .normal J' U
theorem Aqy {id : Nat} {ops : Array Oper} {anns : List Ann} (hm : E.P.follows .mixedOrders = true) (ha : Ko E ops = some anns) (hc : Akn E ops.toList = true)
  (h : TD E nt (fun _ _ _ => none) ops.toList ops.toList (KD0 Q U) J U [U] []) : T E nt df B (.region id ops true) Q J U := by
 intro C w tm a ht st hB;obtain ⟨c1,c2,c3,c4⟩ := K3 ha;obtain ⟨d,k1,k2,k3,J',log',k4,k5,k6,k7,k8⟩ := h tm df [] ht trivial;refine wp_mono (Acj hm dr_ st c1 c2 c3 k1 fun j o t v ho hl hcl hg Uk hU => ?_) fun e a' w' he => ?_
 ·rw [k7] at hU
  have hU' : Uk = U := by
   have := en_ (dv_ hU)
   simpa using this
  subst hU';obtain ⟨log,eps,lex,g2,g3,g4,g5⟩ := Mc k1;simp only [eo_,bg_,dn_] at g2 g3;obtain ⟨x1,x2,x3,x4,x5⟩ := Ze lex
  obtain ⟨t',v',t₁,U₀,U₁,y1,y2,y3,y4,y5,y6⟩ := x5 j o (by simpa using ho)
  rw [g2] at hl;rw [hl] at y1; cases y1
  have o6 : eps = [] := by
   rw [k7] at g3
   simpa using g3.symm
  rw [o6] at y3
  have hU0 : U₀ = Uk := by
   have := (aa_.1 y3).1;simp only [bv_] at this
   have h0 : cnt E ops.toList j = 0 := by omega
   rw [h0] at y3; simpa using y3.symm
  subst hU0
  have hne : Bz (Bl E o.op) = false := by rw [hcl]; rfl
  rcases y5 with ⟨z1,z2⟩ | ⟨z1,z2⟩
  ·exact ⟨U₁,by rw [← K0 (Rr := fun _ _ _ => none) hne]; exact z2⟩
  ·rw [z1] at hg; cases hg
 ·obtain ⟨y,hy,C',h1,h2,h3⟩ := he;rw [am_] at hy;subst hy;obtain ⟨⟨tm',nt',df',U'⟩,eps',dl'⟩ := d;simp only at k2 k3 k6;subst k2 k3 k6;exact ⟨.normal,tm',J',U',C',h1,k4,k8,h2,ax_ hB h3.next,h3.base hB⟩
def Pw (E : Env) : List Ann -> List Oper -> Nat -> Bool
 | a :: az,o :: os,c => (match a.cls with
  | .read => Nat.beq a.lo c && Nat.beq a.hi c
  | _ => true) && Pw E az os (cond (Bz (Bl E o.op)) (c + 1) c)
 | _,_,_ => true
theorem Vk {E : Env} : ∀ {az : List Ann} {os : List Oper} {c : Nat},Pw E az os c = true -> ∀ (j : Nat) (a : Ann) (o : Oper),az[j]? = some a -> os[j]? = some o -> a.cls = .read -> a.lo = c + cnt E os j /\ a.hi = c + cnt E os j
 | a :: az,o :: os,c,h,0,a',o',ha,ho,hc => by
  simp at ha ho; subst ha ho
  simp only [Pw,hc,af_] at h
  exact ⟨by simp only [cnt]; exact ac_ h.1.1,by simp only [cnt]; exact ac_ h.1.2⟩
 | a :: az,o :: os,c,h,j + 1,a',o',ha,ho,hc => by
  simp only [Pw,af_] at h
  have := Vk h.2 j a' o' (by simpa using ha) (by simpa using ho) hc
  simp only [cnt];cases he : Bz (Bl E o.op) with
  | true => rw [he] at this; simp only [cond_true] at this; rw [if_pos rfl]; omega
  | false => rw [he] at this; simp only [cond_false] at this; rw [if_neg (by simp)]; omega
 | [],_,_,_,_,_,_,h,_,_ => by simp at h
 | _ :: _,[],_,_,_,_,_,_,h,_ => by simp at h
def KDS (Q : Cu) : KD := fun J' U' _ _ => Q .normal J' U'
theorem Aqz {id : Nat} {ops : Array Oper} {anns : List Ann} (hm : E.P.follows .mixedOrders = true) (hR : Be E Rr) (ha : Ko E ops = some anns) (hp : Pw E anns ops.toList 0 = true)
  (h : TD E nt Rr ops.toList ops.toList (KDS Q) J U [U] []) : T E nt df B (.region id ops true) Q J U := by
 intro C w tm a ht st hB;obtain ⟨c1,c2,c3,c4⟩ := K3 ha;obtain ⟨d,k1,k2,k3,J',log',k4,k5,k6⟩ := h tm df [] ht trivial;refine wp_mono (Acj hm hR st c1 c2 c3 k1 fun j o t v ho hl hcl hg Uk hU => ?_) fun e a' w' he => ?_
 ·have c7 := H5 (E := E) (b := (Region.before ops).toList) (effs := Eh E ops.toList 0) ops.toList 0 j o (by simpa using ho)
  rw [← c4] at c7;simp only [bq_] at c7
  obtain ⟨q1,q2⟩ := Vk hp j _ o c7 (by simpa using ho) hcl
  simp only [bq_,Kj] at q1 q2
  rw [q1,q2,show cnt E ops.toList j + 1 - cnt E ops.toList j = 1 by omega] at hU
  obtain ⟨log,eps,lex,g2,g3,g4,g5⟩ := Mc k1;simp only [eo_,bg_,dn_] at g2 g3;obtain ⟨x1,x2,x3,x4,x5⟩ := Ze lex
  obtain ⟨t',v',t₁,U₀,U₁,y1,y2,y3,y4,y5,y6⟩ := x5 j o (by simpa using ho)
  rw [g2] at hl;rw [hl] at y1; cases y1
  have i9 : Uk = U₀ := by
   rw [g3] at hU;obtain ⟨i,hi⟩ := dj_.1 hU;rw [f_] at hi
   split at hi
   ·rename_i hlt
    have h0 : i = 0 := by omega
    subst h0;rw [fa_,ev_] at hi;have e1 : ([U] ++ eps)[cnt E ops.toList j]? = some U₀ := y3;rw [e1] at hi; cases hi; rfl
   ·cases hi
  subst i9
  have hne : Bz (Bl E o.op) = false := by rw [hcl]; rfl
  rcases y5 with ⟨z1,z2⟩ | ⟨z1,z2⟩
  ·rw [K0 hne] at z2; exact ⟨U₁,z2⟩
  ·rw [z1] at hg; cases hg
 ·obtain ⟨y,hy,C',h1,h2,h3⟩ := he;rw [am_] at hy;subst hy;obtain ⟨⟨tm',nt',df',U'⟩,eps',dl'⟩ := d;simp only at k2 k3;subst k2 k3;exact ⟨.normal,tm',J',U',C',h1,k4,k6,h2,ax_ hB h3.next,h3.base hB⟩
theorem Bg {l : List (Nat × List AV × Sto × AV × Sto)} {f : Operand} {args : Array Operand} {tys : Array Nat} {k : Nat} {first cap vs : List AV} {v : AV} {U' : Sto} (hf : Ak E J f = some (.fn (.func k) first cap)) (ha : Ky E J args.toList = some vs)
  (hr : Dl l k (first ++ vs ++ cap) U = some (v,U')) : A0 E (Dl l) (.call ⟨.value f,args,tys⟩) J U v U' := Aqv hf ha rfl hr
theorem Bo {f : Nat} {a : List AV} {s : Sto} {v : AV} {s' : Sto} {r : List (Nat × List AV × Sto × AV × Sto)} : Dl ((f,a,s,v,s') :: r) f a s = some (v,s') := by
 simp only [Dl,and_self,if_true]
end
section
variable {E : Env} {nt B : Nat} {df : List (Nat × List AV)} {J J' : Ae} {U U' : Sto} {K : Ae -> Sto -> Prop}
theorem Ais {v : AV} {sz : Nat} {cs : List AV} (hc : v.cellsN sz = some cs) : cs.length = sz := by
 unfold AV.cellsN at hc
 split at hc <;> try (cases hc; done)
 ·cases hb' : Nat.beq ‹List AV›.length sz with
  | true => rw [hb'] at hc; cases hc; exact ac_ hb'
  | false => rw [hb'] at hc; cases hc
 ·cases hb' : Nat.beq sz 1 with
  | true => rw [hb'] at hc; cases hc; exact (ac_ hb').symm
  | false => rw [hb'] at hc; cases hc
theorem Ait {v : AV} {sz N : Nat} {cs : List AV} (hc : v.cellsN sz = some cs) (hv : AV.und N v = true) : AV.unds N cs = true := by
 unfold AV.cellsN at hc
 split at hc <;> try (cases hc; done)
 ·cases hb' : Nat.beq ‹List AV›.length sz with
  | true => rw [hb'] at hc; cases hc; exact hv
  | false => rw [hb'] at hc; cases hc
 ·cases hb' : Nat.beq sz 1 with
  | true => rw [hb'] at hc; cases hc; simp only [AV.unds,hv,cl_]
  | false => rw [hb'] at hc; cases hc
theorem M5 {ops r : List Oper} {t d e sz : Nat} {agg : Bool} {x y : Operand} {ty ty' ty'' : Nat} {pos pos' pos'' : String} {after after' after'' : Array Edge} {z cs : List AV} {v u : AV} (hz : zI E.P t = some z) (hi : ldI E.P t = some (sz,agg)) (hl : Nat.beq z.length sz = true)
  (hy : Ak E J y = some u) (hy' : ∀ p,Ak E ((d,p) :: J) y = some u) (hv : Ak E J x = some v) (hx : ∀ p,Ak E ((e,u) :: (d,p) :: J) x = some v) (hde : Nat.beq e d = false) (hc : v.cellsN sz = some cs) (hd : Nat.blt d nt = true) (he : Nat.blt e nt = true) [Aej E] (hdf : df = [])
  (k : TO E nt df B ops r K ((e,u) :: (d,.pv cs) :: J) U) :
  TO E nt df B ops ({ dst := some d,op := .alloc t,type := ty,pos := pos,after := after,guard := none } :: { dst := some e,op := .assign y,type := ty'',pos := pos'',after := after'',guard := none } ::
   { dst := none,op := .store t (.tmp d) x,type := ty',pos := pos',after := after',guard := none } :: r) K J U := by
 subst hdf;intro C w tm a ht st hB;have hwf := st.sim.wfs;have fo : ∀ i u,Ae.at J i = some u -> AV.und (nx U) u = true := fun i u hu => R.und _ _ (st.tmps i u (ht i u hu))
 have hou : ∀ (o : Operand) v,Ak E J o = some v -> AV.und (nx U) v = true := fun o v ho => by
  have hvR := Br st.glob st.tmps o;rw [ht.opd ho] at hvR;exact R.und _ _ hvR
 have hcu := Ait hc (hou x v hv)
 have hcs : cs.length = z.length := by rw [Ais hc]; exact (ac_ hl).symm
 have key : TO E nt [] B ops ({ dst := some d,op := .alloc t,type := ty,pos := pos,after := after,guard := none } :: { dst := some e,op := .assign y,type := ty'',pos := pos'',after := after'',guard := none } ::
   { dst := none,op := .store t (.tmp d) x,type := ty',pos := pos',after := after',guard := none } :: r) K J U := by
  refine Q9 noR (U₁ := U.new (.cells z)) (J₁ := (d,.pr (nx U) 0) :: J) (fun tm' ht' => ⟨_,Zk hz hd,ht'.put d _⟩) ?_
  refine Zh noR rfl he (Fi (hy' _)) ?_
  refine Zh noR rfl rfl (Aw (vs := z) (vs' := cs) (ad := nx U) (off := 0) (v := v) (cs := cs) hi (by simp [Ak,Dz,Ae.at,bf_,hde]) (hx _) hc Cf (Fj hcs)) ?_
  simp only [Dz];refine An8 U ((e,u) :: (d,.pv cs) :: J) ?_ hB ?_ k
  ·refine ag_ hwf (by rw [Ac,Af]; exact eu_ _) fun b hb => ?_
   rw [a_,if_neg Om,ab_,if_neg Om]
  ·intro i u' hu;simp only [Ae.at] at hu ⊢;cases hb : Nat.beq e i with
   | true =>
    rw [hb] at hu; simp only [cond_true,ad_] at hu ⊢;subst hu;exact ⟨_,rfl,.same (hou y _ hy)⟩
   | false =>
    rw [hb] at hu;simp only [cond_false] at hu ⊢;cases hb2 : Nat.beq d i with
    | true =>
     rw [hb2] at hu; simp only [cond_true,ad_] at hu ⊢;subst hu
     refine ⟨_,rfl,.pr (vs := cs) (by rw [a_,if_pos rfl]) ?_ (fb_ hcu)⟩
     cases hg : U.get (nx U) with
     | none => rfl
     | some O => exact absurd (hwf _ _ hg).1 (gl_ _)
    | false => rw [hb2] at hu; exact ⟨u',hu,.same (fo i u' hu)⟩
 exact key C w tm a ht st hB
def KDI (Q : Cu) (U : Sto) : KD := fun J' U' eps _ => U' = U /\ (∀ e ∈ eps,e = U) /\ Q .normal J' U
theorem Aq0 {Q : Cu} {Rr : Rec} {id : Nat} {ops : Array Oper} {anns : List Ann} (hm : E.P.follows .mixedOrders = true) (hR : Be E Rr) (ha : Ko E ops = some anns)
  (h : TD E nt Rr ops.toList ops.toList (KDI Q U) J U [U] []) : T E nt df B (.region id ops true) Q J U := by
 intro C w tm a ht st hB;obtain ⟨c1,c2,c3,c4⟩ := K3 ha;obtain ⟨d,k1,k2,k3,J',log',k4,k5,k6,k7,k8⟩ := h tm df [] ht trivial;refine wp_mono (Acj hm hR st c1 c2 c3 k1 fun j o t v ho hl hcl hg Uk hU => ?_) fun e a' w' he => ?_
 ·have hU' : Uk = U := k7 Uk (by simpa using en_ (dv_ hU))
  subst hU';obtain ⟨log,eps,lex,g2,g3,g4,g5⟩ := Mc k1;simp only [eo_,bg_,dn_] at g2 g3;obtain ⟨x1,x2,x3,x4,x5⟩ := Ze lex
  obtain ⟨t',v',t₁,U₀,U₁,y1,y2,y3,y4,y5,y6⟩ := x5 j o (by simpa using ho)
  rw [g2] at hl;rw [hl] at y1; cases y1
  have hU0 : U₀ = Uk := by
   refine k7 U₀ ?_
   have : U₀ ∈ d.eps.reverse := by rw [g3]; exact ae_ y3
   simpa using this
  subst hU0
  have hne : Bz (Bl E o.op) = false := by rw [hcl]; rfl
  rcases y5 with ⟨z1,z2⟩ | ⟨z1,z2⟩
  ·rw [K0 hne] at z2; exact ⟨U₁,z2⟩
  ·rw [z1] at hg; cases hg
 ·obtain ⟨y,hy,C',h1,h2,h3⟩ := he;rw [am_] at hy;subst hy;obtain ⟨⟨tm',nt',df',U'⟩,eps',dl'⟩ := d;simp only at k2 k3 k6;subst k2 k3 k6;exact ⟨.normal,tm',J',U',C',h1,k4,k8,h2,ax_ hB h3.next,h3.base hB⟩
theorem B5 {f f' : Nat} {a a' : List AV} {s s' t : Sto} {v : AV} {r : List (Nat × List AV × Sto × AV × Sto)} {o : Option (AV × Sto)} (h : f' ≠ f) (k : Dl r f' a' t = o) : Dl ((f,a,s,v,s') :: r) f' a' t = o := by
 simp only [Dl]; rw [if_neg (fun hh => h hh.1)]; exact k
theorem Bj {a t b off sz : Nat} {agg : Bool} {vs : List AV} {v : AV} {r : List ResultVar} {l : List AV} (hi : ldI E.P t = some (sz,agg)) (ha : Ae.at J a = some (.pr b off)) (hc : U.cells b = some vs) (hv : Jc sz agg (vs.drop off) = some v) (hr : Tb E J U r = some l) :
  Tb E J U (.cell a t :: r) = some (v :: l) := by
 obtain ⟨ti,h1,h2,h3⟩ := Pn hi;subst h2 h3;simp only [Tb,h1,ha,hc,hv,hr]
theorem Gy {t : Nat} {v : AV} {r : List ResultVar} {l : List AV} (hv : Ae.at J t = some v) (hr : Tb E J U r = some l) : Tb E J U (.tmp t :: r) = some (v :: l) := by
 simp only [Tb,hv,hr]
theorem Dr {U τ : Sto} {sz : Nat} : Fz U τ (.nil (.slice none 0 0)) (.sv [] sz 0 none) := .nils (fun q hq => by cases hq)
end
abbrev SM (α : Type) := List (Str × α)
def kS (s : Str) : Key := .str (s.map UInt8.toNat)
def B6 {α : Type} (enc : α -> AV) (m : SM α) : List (Key × AV) := m.map fun p => (kS p.1,enc p.2)
def SM.get {α : Type} : SM α -> Str -> Option α
 | [],_ => none
 | (k,v) :: r,s => if s = k then some v else SM.get r s
def SM.set {α : Type} : SM α -> Str -> α -> SM α
 | [],_,_ => []
 | (k,v) :: r,s,x => if s = k then (k,x) :: r else (k,v) :: SM.set r s x
def SM.ins {α : Type} : SM α -> Str -> α -> SM α
 | [],s,x => [(s,x)]
 | (k,v) :: r,s,x => if Key.lt (kS s) (kS k) then (s,x) :: (k,v) :: r else (k,v) :: SM.ins r s x
def SM.put {α : Type} (m : SM α) (s : Str) (x : α) : SM α := match m.get s with | some _ => m.set s x | none => m.ins s x
def SM.has (m : SM Bool) (s : Str) : Bool := (m.get s).getD false
theorem Aco (a b : Str) : Key.eq (kS a) (kS b) = decide (a = b) := by
 show Ft _ _ = _
 by_cases h : a = b
 ·rw [decide_eq_true h]; subst h; exact (Fx _ _).2 rfl
 ·rw [decide_eq_false h];cases hb : Ft (a.map UInt8.toNat) (b.map UInt8.toNat) with
  | true => exact absurd (Fb.1 ((Fx _ _).1 hb)) h
  | false => rfl
section
variable {α : Type} {enc : α -> AV} {m : SM α} {s t : Str} {x : α}
theorem Hu : ∀ {m : SM α},De (kS s) (B6 enc m) = (m.get s).map enc
 | [] => rfl
 | (k,v) :: r => by
  show cond (Key.eq (kS s) (kS k)) (some (enc v)) (De (kS s) (B6 enc r)) = _
  rw [Aco,SM.get]
  by_cases h : s = k
  ·rw [decide_eq_true h,cond_true,if_pos h]; rfl
  ·rw [decide_eq_false h,cond_false,if_neg h]; exact Hu
theorem Zn : ∀ {m : SM α},Np (kS s) (enc x) (B6 enc m) = B6 enc (m.set s x)
 | [] => rfl
 | (k,v) :: r => by
  show cond (Key.eq (kS s) (kS k)) ((kS k,enc x) :: B6 enc r) ((kS k,enc v) :: Np (kS s) (enc x) (B6 enc r)) = _
  rw [Aco,SM.set]
  by_cases h : s = k
  ·rw [decide_eq_true h,cond_true,if_pos h]; rfl
  ·rw [decide_eq_false h,cond_false,if_neg h,Zn]; rfl
theorem Zo : ∀ {m : SM α},Mm (kS s) (enc x) (B6 enc m) = B6 enc (m.ins s x)
 | [] => rfl
 | (k,v) :: r => by
  show cond (Key.lt (kS s) (kS k)) ((kS s,enc x) :: (kS k,enc v) :: B6 enc r) ((kS k,enc v) :: Mm (kS s) (enc x) (B6 enc r)) = _
  rw [SM.ins];cases h : Key.lt (kS s) (kS k)
  ·rw [cond_false,if_neg (by simp),Zo]; rfl
  ·rw [cond_true,if_pos rfl]; rfl
theorem Aoe : Ama (kS s) (enc x) (B6 enc m) = B6 enc (m.put s x) := by
 unfold Ama SM.put;rw [Hu];cases m.get s with
 | none => exact Zo
 | some y => exact Zn
theorem SM.get_set : ∀ {m : SM α},(m.set s x).get t = if t = s /\ (m.get s).isSome then some x else m.get t
 | [] => by simp [SM.set,SM.get]
 | (k,v) :: r => by
  unfold SM.set
  by_cases h : s = k
  ·subst h;rw [if_pos rfl];simp only [SM.get,if_true,fd_,and_true]
   by_cases ht : t = s
   ·simp [ht]
   ·simp [ht]
  ·rw [if_neg h];simp only [SM.get,if_neg h]
   by_cases ht : t = k
   ·subst ht;rw [if_pos rfl,if_pos rfl,if_neg (fun hh => h hh.1.symm)]
   ·rw [if_neg ht,if_neg ht]; exact SM.get_set
theorem SM.get_ins : ∀ {m : SM α},m.get s = none -> (m.ins s x).get t = if t = s then some x else m.get t
 | [],_ => by simp [SM.ins,SM.get]
 | (k,v) :: r,hn => by
  have hk : s ≠ k := fun h => by simp [SM.get,h] at hn
  have hr : SM.get r s = none := by simpa [SM.get,hk] using hn
  unfold SM.ins
  split
  ·simp only [SM.get]
  ·simp only [SM.get]
   by_cases ht : t = k
   ·subst ht; rw [if_pos rfl,if_neg (fun h => hk h.symm),if_pos rfl]
   ·rw [if_neg ht,if_neg ht]; exact SM.get_ins hr
theorem SM.get_put : (m.put s x).get t = if t = s then some x else m.get t := by
 unfold SM.put;cases h : m.get s with
 | none => exact SM.get_ins h
 | some y => simp only [SM.get_set,h,fd_,and_true]
abbrev ci_ := @SM.get_put
theorem SM.has_put {m : SM Bool} : (m.put s true).has t = (decide (t = s) || m.has t) := by
 unfold SM.has;rw [ci_]
 by_cases h : t = s
 ·rw [if_pos h,decide_eq_true h]; rfl
 ·rw [if_neg h,decide_eq_false h]; rfl
theorem Acp {N : Nat} (h : ∀ a,AV.und N (enc a) = true) (m : SM α) : Ih N (B6 enc m) = true := by
 unfold Ih B6;rw [List.all_map,da_];intro p _;exact h p.2
end
def Bf {α : Type} (enc : α -> AV) (U : Sto) (r : Nat) (m : SM α) : Prop := ∃ ver,U.get r = some (.map 9 (B6 enc m) ver)
abbrev E2 (U : Sto) (r : Nat) (m : SM Bool) : Prop := Bf bV U r m
section
variable {E : Env} {J : Ae} {U U' : Sto} {Rr : Rec} {t : Nat} {x y w : Operand} {α : Type} {enc : α -> AV} {m : SM α} {s : Str} {r : Nat}
theorem keyS (h : Dy E.P 9 = true) : Er E.P 9 (sV s) = some (kS s) := by
 unfold Dy at h
 split at h
 ·rename_i ti hti
  split at h
  ·rename_i hd
   unfold Er;simp only [hti,hd]
   rfl
  ·cases h
 ·cases h
theorem Aiu {z : AV} {sz : Nat} {agg : Bool} (h9 : Dy E.P 9 = true) (hi : mpI E.P t = some (9,z,sz,agg)) (hx : Ak E J x = some (.mp r)) (hm : Bf enc U r m) (hy : Ak E J y = some (sV s)) :
  A0 E Rr (.lookup t x y false) J U (((m.get s).map enc).getD z) U := by
 have := Aca (Rr := Rr) hi hx (show Vc U 9 (B6 enc m) (.mp r) from hm) hy (keyS h9)
 rwa [Hu] at this
theorem Px {z : AV} {sz : Nat} {agg : Bool} (h9 : Dy E.P 9 = true) (hi : mpI E.P t = some (9,z,sz,agg)) (hx : Ak E J x = some (.mp r)) (hm : Bf enc U r m) (hy : Ak E J y = some (sV s)) :
  A0 E Rr (.lookup t x y true) J U (.tup [((m.get s).map enc).getD z,.bool (m.get s).isSome]) U := by
 have := Zb (Rr := Rr) hi hx (show Vc U 9 (B6 enc m) (.mp r) from hm) hy (keyS h9)
 rwa [Hu,fk_] at this
theorem Cx {sz : Nat} {agg : Bool} {m : SM Bool} (h9 : Dy E.P 9 = true) (hi : mpI E.P t = some (9,.bool false,sz,agg)) (hx : Ak E J x = some (.mp r)) (hm : E2 U r m) (hy : Ak E J y = some (sV s)) :
  A0 E Rr (.lookup t x y false) J U (.bool (m.has s)) U := by
 have := Aiu (Rr := Rr) h9 hi hx hm hy
 have e : ((m.get s).map bV).getD (.bool false) = .bool (m.has s) := by unfold SM.has; cases m.get s <;> rfl
 rwa [e] at this
theorem Fl {z : AV} {sz ver : Nat} {agg : Bool} {v : α} (h9 : Dy E.P 9 = true) (hi : mpI E.P t = some (9,z,sz,agg)) (hx : Ak E J x = some (.mp r)) (hm : U.get r = some (.map 9 (B6 enc m) ver))
  (hy : Ak E J y = some (sV s)) (hw : Ak E J w = some (enc v)) (hf : ∀ te : TI,te.size = sz -> te.isAgg = agg -> Nu te (enc v) = true) :
  A0 E Rr (.mapUpdate t x y w) J U Au (U.set r (.map 9 (B6 enc (m.put s v)) (ver + 1))) := by
 have := Acb (Rr := Rr) hi hx hm hy (keyS h9) hw hf
 rwa [Aoe] at this
end
theorem Gt {te : TI} {n : Nat} {b : Bool} (_ : te.size = n) (h : te.isAgg = false) : Nu te (bV b) = true := by unfold bV Nu; rw [h]; rfl
theorem Hk {te : TI} {n : Nat} {s : Str} (_ : te.size = n) (h : te.isAgg = false) : Nu te (sV s) = true := by unfold sV Nu; rw [h]; rfl
theorem Gu {te : TI} {n : Nat} {k : IntKind} {i : Int} (_ : te.size = n) (h : te.isAgg = false) : Nu te (.int k i) = true := by unfold Nu; rw [h]; rfl
theorem H8 {te : TI} {n r : Nat} (_ : te.size = n) (h : te.isAgg = false) : Nu te (.mp r) = true := by unfold Nu; rw [h]; rfl
theorem F8 {te : TI} {n : Nat} {cs : List AV} (hn : te.size = n) (h : te.isAgg = true) (hc : cs.length = n) : Nu te (.agg cs) = true := by
 show (te.isAgg && Nat.beq cs.length te.size) = true
 rw [h,hn,hc,bf_]; rfl
section
variable {U U' : Sto} {α : Type} {enc : α -> AV} {m : SM α} {r a : Nat}
theorem Bf.lt (hw : WFS U) (h : Bf enc U r m) : r < nx U := by obtain ⟨v,h⟩ := h; exact (hw _ _ h).1
theorem Bf.of_get (h : Bf enc U r m) (hg : U'.get r = U.get r) : Bf enc U' r m := by obtain ⟨v,h⟩ := h; exact ⟨v,hg.trans h⟩
theorem Bf.new (h : Bf enc U r m) (hw : r < nx U) {o : AO} : Bf enc (U.new o) r m := h.of_get (by rw [ab_,if_neg Om])
theorem Bf.set (h : Bf enc U r m) {o : AO} (hne : r ≠ a) : Bf enc (U.set a o) r m := h.of_get (by rw [a_,if_neg Om])
abbrev gv_ := @Bf.set
theorem Bf.put {ver : Nat} : Bf enc (U.set r (.map 9 (B6 enc m) ver)) r m := ⟨ver,by rw [a_,if_pos rfl]⟩
abbrev ds_ := @Bf.put
theorem Bf.fresh {ver : Nat} : Bf enc (U.new (.map 9 (B6 enc m) ver)) (nx U) m := ⟨ver,by rw [ab_,if_pos rfl]⟩
end
section
variable {E : Env} {nt B : Nat} {df : List (Nat × List AV)} {Q : Cu} {Rr : Rec} {ops r : List Oper} {K : KD} {J : Ae} {U τ : Sto} {eps : List Sto} {log : List (Ae × AV)}
theorem Ako {o : Oper} {b : Bool} (hg : ∀ tm,Has tm J -> Co ops o tm = some false) (he : Bz (Bl E o.op) = b) (hd : Ca nt o.dst = true)
  (k : TD E nt Rr ops r K (Dz o.dst Au J) U (cond b (U :: eps) eps) ((J,Au) :: log)) : TD E nt Rr ops (o :: r) K J U eps log := by
 intro tm df dl ht hl;obtain ⟨tm',h1,h2⟩ := Dc (dst := o.dst) hd ht Au
 have : Pk E ops o Rr ⟨⟨tm,nt,df,U⟩,eps,dl⟩ = some ⟨⟨tm',nt,df,U⟩,cond b (U :: eps) eps,(tm,Au) :: dl⟩ := by
  unfold Pk;simp only [hg tm ht,h1,he];cases b <;> rfl
 obtain ⟨d',k1,k2⟩ := k tm' df ((tm,Au) :: dl) h2 ⟨ht,rfl,hl⟩
 exact ⟨d',by simp only [Sg,this]; exact k1,k2⟩
theorem Rd {o oj : Oper} {j d : Nat} {b want e : Bool} (hg : o.guard = some (j,want)) (hj : ops[j]? = some oj) (hdj : oj.dst = some d) (hb : Ae.at J d = some (.bool b)) (hw : cond b want (!want) = false)
  (he : Bz (Bl E o.op) = e) (hd : Ca nt o.dst = true)
  (k : TD E nt Rr ops r K (Dz o.dst Au J) U (cond e (U :: eps) eps) ((J,Au) :: log)) : TD E nt Rr ops (o :: r) K J U eps log :=
 Ako (fun tm ht => by rw [Gf ht hg hj hdj hb,hw]) he hd k
theorem Xw {o oj : Oper} {j d : Nat} {want e : Bool} (hg : o.guard = some (j,want)) (hj : ops[j]? = some oj) (hdj : oj.dst = some d) (hb : Ae.at J d = some Au)
  (he : Bz (Bl E o.op) = e) (hd : Ca nt o.dst = true)
  (k : TD E nt Rr ops r K (Dz o.dst Au J) U (cond e (U :: eps) eps) ((J,Au) :: log)) : TD E nt Rr ops (o :: r) K J U eps log :=
 Ako (fun tm ht => by simp only [Co,hg,hj,hdj,ht d _ hb]; rfl) he hd k
theorem Aek {α : Type} {enc : α -> List AV} {t sz by' a : Nat} {zz : Option (List AV)} {l : List α} {x : Operand} {lo : Option Operand} {k : IntKind} (hel : elI E.P t = some (sz,by',zz)) (he : ∀ a,(enc a).length = sz)
  (hx : Ak E J x = some (slV enc sz l)) (h1 : Gp E J lo = some (some (.int k (.ofNat a)))) (ha : a <= l.length) : A0 E Rr (.slice t x lo none none) J U (slV enc sz (l.drop a)) U := by
 have hb : Ci l.length none (some (.int k (.ofNat a))) none none = some (a,l.length,none) := by
  have h2 : Nat.ble a l.length = true := ap_ ha;have h3 : Nat.ble l.length l.length = true := ap_ nl;simp only [Ci,Ik,h2,Lf,h3,cond_true,cl_,Il]
 have := Air (Rr := Rr) (U := U) (lo := lo) (hi := none) (mx := none) hel he hx h1 rfl rfl hb ha nl;rw [ep_] at this
 rwa [show slV enc sz (l.drop a) = .sv ((l.drop a).flatMap enc) sz (l.length - a) none by rw [← cu_]; rfl]
theorem C3 {c : Code} (h : WFS U -> T E nt df B c Q J U) : T E nt df B c Q J U := fun C w tm a ht st hB => h st.sim.wfs C w tm a ht st hB
theorem Asz {ops r : List Oper} {K : Ae -> Sto -> Prop} (h : WFS U -> TO E nt df B ops r K J U) : TO E nt df B ops r K J U := fun C w tm a ht st hB => h st.sim.wfs C w tm a ht st hB
theorem Ar4 {c : Code} {i : Nat} {v : AV} (hi : Ae.at J i = some v) (h : AV.und (nx U) v = true -> T E nt df B c Q J U) : T E nt df B c Q J U := fun C w tm a ht st hB => h (R.und _ _ (st.tmps i v (ht i v hi))) C w tm a ht st hB
def cutQ (L : Ae) (τ : Sto) : Cu
 | .normal => fun J U => Lw L J /\ U = τ
 | _ => fun _ _ => False
theorem Acq {x y : Code} (L : Ae) (τ : Sto) (h : T E nt df B x (cutQ L τ) J U) (k : T E nt df B y Q L τ) : T E nt df B (.seq x y) Q J U := by
 refine Acm (h.mono fun e J' U' hq => ?_)
 cases e with
 | normal => obtain ⟨h1,rfl⟩ := hq; exact k.sub h1
 | exit _ => exact hq.elim
 | ret => exact hq.elim
theorem Ae.at_app : ∀ (L J : Ae) (i : Nat),Ae.at (L ++ J) i = (Ae.at L i).or (Ae.at J i)
 | [],J,i => rfl
 | (j,v) :: r,J,i => by
  show cond (Nat.beq j i) (some v) (Ae.at (r ++ J) i) = (cond (Nat.beq j i) (some v) (Ae.at r i)).or _
  cases Nat.beq j i with
  | true => rfl
  | false => exact Ae.at_app r J i
abbrev ga_ := @Ae.at_app
def addQ (L J : Ae) (τ : Sto) : Cu
 | .normal => fun J' U => Lw L J' /\ H7 J J' /\ U = τ
 | _ => fun _ _ => False
theorem Gg {x y : Code} (L : Ae) (h : T E nt df B x (addQ L J U) J U) (k : T E nt df B y Q (L ++ J) U) : T E nt df B (.seq x y) Q J U := by
 refine Acm (h.mono fun e J' U' hq => ?_)
 cases e with
 | normal =>
  obtain ⟨h1,h2,rfl⟩ := hq;refine fun C w tm a ht st hB => k C w tm a (fun i v hv => ?_) st hB
  rw [ga_] at hv;cases hL : Ae.at L i with
  | some u => rw [hL] at hv; cases hv; exact ht i _ (h1.at i _ hL)
  | none => rw [hL] at hv; exact ht i v (h2 i v hv)
 | exit _ => exact hq.elim
 | ret => exact hq.elim
def cutP (P : Ae -> Sto -> Prop) : Cu
 | .normal => fun J U => ∃ L,Lw L J /\ P L U
 | _ => fun _ _ => False
theorem Re {x y : Code} (P : Ae -> Sto -> Prop) (h : T E nt df B x (cutP P) J U) (k : ∀ L τ,P L τ -> T E nt df B y Q L τ) : T E nt df B (.seq x y) Q J U := by
 refine Acm (h.mono fun e J' U' hq => ?_)
 cases e with
 | normal => obtain ⟨L,h1,h2⟩ := hq; exact (k L U' h2).sub h1
 | exit _ => exact hq.elim
 | ret => exact hq.elim
end
end Go.AM
