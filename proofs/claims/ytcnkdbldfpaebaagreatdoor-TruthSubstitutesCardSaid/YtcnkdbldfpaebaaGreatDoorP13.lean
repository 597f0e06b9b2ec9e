/- A part of the proof; shortened by program. -/
import Derived.Test.YtcnkdbldfpaebaaGreatDoorP12
set_option maxRecDepth 100000
set_option maxHeartbeats 4000000
set_option linter.unusedSimpArgs false
set_option linter.unusedVariables false
namespace Go.AM
open Go
def ltS (a b : Str) : Bool := Dd (a.map UInt8.toNat) (b.map UInt8.toNat)
section
variable {E : Env} {ρ : Ao} {J J' : Sto} {Rr : Rec} {t ty n : Nat} {x y : Operand}
theorem boolI {P : Program} (h : X7 P t = true) : ∃ ti,Bf P t = some ti /\ ti.desc = .bool := by
 unfold X7 at h
 split at h
 ·rename_i ti hti
  split at h
  ·rename_i hd; exact ⟨ti,hti,hd⟩
  ·cases h
 ·cases h
theorem At7 {a b : Bool} (hi : X7 E.P t = true) (hx : A4 E ρ x = some (.bool a)) (hy : A4 E ρ y = some (.bool b)) : Bo E Rr (.binOp .eql t x y ty) ρ J (.bool (a == b)) J := fun tm h => by
 obtain ⟨ti,h1,h2⟩ := boolI hi;simp only [opA,Bd,h.opd hx,h.opd hy,Adl,h1,h2,Yk];cases a <;> cases b <;> rfl
theorem Z8 {a b : Str} (hi : okI E.P t = true) (hx : A4 E ρ x = some (sV a)) (hy : A4 E ρ y = some (sV b)) : Bo E Rr (.binOp .geq t x y ty) ρ J (.bool (!ltS a b)) J := Aiv hi hx hy rfl
theorem At8 {l m : List AV} {a b : Key} (hi : okI E.P t = true) (hx : A4 E ρ x = some (.agg l)) (hy : A4 E ρ y = some (.agg m)) (hcx : Ea x = false) (hcy : Ea y = false) (h1 : Hn E.P t (.agg l) = some a) (h2 : Hn E.P t (.agg m) = some b) :
  Bo E Rr (.binOp .neq t x y ty) ρ J (.bool (!Key.eq a b)) J := fun tm h => by
 obtain ⟨ti,hti⟩ := P3 hi;simp only [opA,Bd,h.opd hx,h.opd hy,hcx,hcy,Adl,hti,Mq,Bool.or_self,cond_false,Sy,h1,h2,Yk]
theorem Ao2 {kt sz : Nat} {agg : Bool} {z : AV} (hi : mpI E.P t = some (kt,z,sz,agg)) : ∃ ti et,Bf E.P t = some ti /\ ti.desc = .map kt et := by
 obtain ⟨ti,et,te,h1,h2,_⟩ := Zm hi;exact ⟨ti,et,h1,h2⟩
theorem Ak0 {α : Type} {enc : α -> AV} {m : SM α} {r kt sz : Nat} {agg : Bool} {z : AV} (hi : mpI E.P t = some (kt,z,sz,agg)) (hx : A4 E ρ x = some (.mp r)) (hm : Bx enc J r m) :
  Bo E Rr (.call ⟨.builtin .len,#[x],#[t]⟩) ρ J (.int .i64 (.ofNat m.length)) J := fun tm h => by
 obtain ⟨ti,et,h1,h2⟩ := Ao2 hi;obtain ⟨ver,hv⟩ := hm;simp only [opA,Bd,h1,Eb,h2,h.opd hx,opds,S5,hv,Av,Cp,cs_]
theorem Ao3 {r kt sz : Nat} {agg : Bool} {z : AV} (hi : mpI E.P t = some (kt,z,sz,agg)) (hx : A4 E ρ x = some (.mp r)) : Bo E Rr (.binOp .eql t x (.const (.map none)) ty) ρ J (.bool false) J := fun tm h => by
 obtain ⟨ti,et,h1,h2⟩ := Ao2 hi;simp only [opA,Bd,h.opd hx,Ea,Adl,h1,Bool.or_true,Mq,cond_true];simp only [h2]
 rfl
theorem Ao4 {kt sz : Nat} {agg : Bool} {z : AV} (hi : mpI E.P t = some (kt,z,sz,agg)) (hx : A4 E ρ x = some (.nil (.map none))) : Bo E Rr (.binOp .eql t x (.const (.map none)) ty) ρ J (.bool true) J := fun tm h => by
 obtain ⟨ti,et,h1,h2⟩ := Ao2 hi;simp only [opA,Bd,h.opd hx,Ea,Adl,h1,Bool.or_true,Mq,cond_true];simp only [h2]
 rfl
theorem Amw {α : Type} {enc : α -> AV} {m : SM α} {r kt sz ver : Nat} {agg : Bool} {z : AV} (hi : mpI E.P t = some (kt,z,sz,agg)) (hx : A4 E ρ x = some (.mp r)) (hm : J.get r = some (.map 9 (Cp enc m) ver)) :
  Bo E Rr (.call ⟨.builtin .clear,#[x],#[t]⟩) ρ J A5 (J.set r (.map 9 [] (ver + 1))) := fun tm h => by
 obtain ⟨ti,et,h1,h2⟩ := Ao2 hi;simp only [opA,Bd,h1,Eb,h2,h.opd hx,opds,Qw,hm,Av]
theorem Acl (a b : Int) : Kq a b = max a b := by
 unfold Kq;have := Ej (a := b) (b := a);rw [this]
 by_cases h : b <= a
 ·rw [decide_eq_true h,cond_true]; omega
 ·rw [decide_eq_false h,cond_false]; omega
theorem Ao5 {k : IntKind} {p q : Int} (hi : okI E.P t = true) {tys : Nat} (hx : A4 E ρ x = some (.int k p)) (hy : A4 E ρ y = some (.int k q)) : Bo E Rr (.call ⟨.builtin .max,#[x,y],#[t,tys]⟩) ρ J (.int k (max p q)) J := fun tm h => by
 obtain ⟨ti,hti⟩ := P3 hi;simp only [opA,Bd,hti,Eb,h.opd hx,h.opd hy,opds,Yo,P4,cond_true,Acl]
theorem Ar1 {k : IntKind} {p q r : Int} {z : Operand} (hi : okI E.P t = true) {t2 t3 : Nat} (hx : A4 E ρ x = some (.int k p)) (hy : A4 E ρ y = some (.int k q)) (hz : A4 E ρ z = some (.int k r)) : Bo E Rr (.call ⟨.builtin .max,#[x,y,z],#[t,t2,t3]⟩) ρ J (.int k (max (max p q) r)) J := fun tm h => by
 obtain ⟨ti,hti⟩ := P3 hi;simp only [opA,Bd,hti,Eb,h.opd hx,h.opd hy,h.opd hz,opds,Afe,P4,cm_,cond_true,Acl]
end
section
variable {E : Env} {ρ : Ao} {J J' : Sto} {Rr : Rec} {t ty n a i : Nat} {x y : Operand} {α : Type} {enc : α -> List AV} {sz by' : Nat} {l : List α}
theorem Vy : ∀ {p q u v : List AV},u.length = q.length -> D9 (p ++ q ++ v) p.length u = some (p ++ u ++ v)
 | [],q,u,v,h => by
  simp only [br_,dq_];exact go h
 | x :: p,q,u,v,h => by
  simp only [av_,aq_,D9,Vy h]
 where
 go : ∀ {q u v : List AV},u.length = q.length -> D9 (q ++ v) 0 u = some (u ++ v)
  | [],[],v,_ => by cases v <;> rfl
  | y :: q,z :: u,v,h => by
   have := go (q := q) (u := u) (v := v) (by simpa using h)
   simp only [av_,D9,this]
  | [],_ :: _,_,h => by simp at h
  | _ :: _,[],_,h => by simp at h
theorem Ao6 (he : ∀ a,(enc a).length = sz) {b : α} (hi : i < l.length) (tl : List AV) : D9 (l.flatMap enc ++ tl) (i * sz) (enc b) = some ((l.set i b).flatMap enc ++ tl) := by
 have h1 : l = l.take i ++ l[i] :: l.drop (i + 1) := by rw [← b_ hi,ck_]
 have h2 : l.set i b = l.take i ++ b :: l.drop (i + 1) := List.set_eq_take_append_cons_drop ▸ by rw [if_pos hi]
 have h3 : ((l.take i).flatMap enc).length = i * sz := by rw [Fm he,bl_,fm_ (Nat.le_of_lt hi)]
 have h4 : l.flatMap enc ++ tl = (l.take i).flatMap enc ++ enc l[i] ++ ((l.drop (i + 1)).flatMap enc ++ tl) := by
  refine (congrArg (fun k => List.flatMap enc k ++ tl) h1).trans ?_
  simp only [dd_,cn_,cf_]
 rw [h4,h2,← h3,Vy (by rw [he,he])]
 simp only [dd_,cn_,cf_]
theorem Ie {zz : Option (List AV)} {k : IntKind} {m : Nat} {cap : Option Nat} (hi : elI E.P t = some (sz,by',zz)) (hx : A4 E ρ x = some (.sr a 0 sz m cap)) (hy : A4 E ρ y = some (.int k (.ofNat i))) (hm : i < m) :
  Bo E Rr (.indexAddr t x y) ρ J (.pr a (i * sz)) J := by
 have h := Afz (Rr := Rr) (J := J) hi hx hy (m := m) rfl rfl hm
 have e : Afy (.sr a 0 sz m cap) (i * sz) = .pr a (i * sz) := by show AV.pr a (0 + i * sz) = _; rw [bf_]
 rwa [e] at h
theorem Qb {u : α} {v : AV} {agg : Bool} {tl : List AV} (he : ∀ a,(enc a).length = sz) (hi : ldI E.P t = some (sz,agg)) (hx : A4 E ρ x = some (.pr a (i * sz))) (hg : J.get a = some (.cells (l.flatMap enc ++ tl))) (hu : l[i]? = some u) (hv : ∀ r,Iq sz agg (enc u ++ r) = some v) :
  Bo E Rr (.load t x) ρ J v J := by
 refine Ae (cs := (l.flatMap enc ++ tl).drop (i * sz)) hi hx (by simp only [Dq,Sto.cells,hg]) ?_
 have hi := (ae_.1 hu).1
 have h0 : i * sz <= (l.flatMap enc).length := by rw [Fm he]; exact dp_ _ (Nat.le_of_lt hi)
 rw [fh_ h0,Akq he hu,cf_]; exact hv _
theorem Aja {u : α} {v : AV} {agg : Bool} {tl : List AV} (he : ∀ a,(enc a).length = sz) (hi : ldI E.P t = some (sz,agg)) (hx : A4 E ρ x = some (.pr a (i * sz))) (hy : A4 E ρ y = some v) (hc : v.cellsN sz = some (enc u)) (hg : J.get a = some (.cells (l.flatMap enc ++ tl))) (hl : i < l.length) :
  Bo E Rr (.store t x y) ρ J A5 (J.set a (.cells ((l.set i u).flatMap enc ++ tl))) :=
 B9 hi hx hy hc (by simp only [Sto.cells,hg]) (Ao6 he hl tl)
theorem Z9 {zz : Option (List AV)} {k : IntKind} {m b : Nat} {lo : Option Operand} (hel : elI E.P t = some (sz,by',zz)) (hx : A4 E ρ x = some (.sr a 0 sz m none)) (h1 : Lk E ρ lo = some (some (.int k (.ofNat b)))) (hb : b <= m) :
  Bo E Rr (.slice t x lo none none) ρ J (.sr a (b * sz) sz (m - b) none) J := fun tm h => by
 obtain ⟨ti,e,te,k1,k2,k3,k4,k5,k6⟩ := Tw hel;subst k4
 have hbd : D4 m none (some (.int k (.ofNat b))) none none = some (b,m,none) := by
  have h2 : Nat.ble b m = true := ba_ hb;have h3 : Nat.ble m m = true := ba_ nl;simp only [D4,Lr,h2,Pi,h3,cond_true,cm_,Pj]
 have e0 : opdO E tm none = none := rfl;simp only [opA,Bd,k1,k2,k3,h.opd hx,h.opdO h1,e0,Ms,bg_,hbd,Av,bf_]
theorem Ud {zz : Option (List AV)} {k : IntKind} {m b : Nat} {hi : Option Operand} {cap : Option Nat} (hel : elI E.P t = some (sz,by',zz)) (hx : A4 E ρ x = some (.sr a 0 sz m cap)) (h1 : Lk E ρ hi = some (some (.int k (.ofNat b)))) (hb : b <= m) :
  Bo E Rr (.slice t x none hi none) ρ J (.sr a 0 sz b (Pj cap 0)) J := fun tm h => by
 obtain ⟨ti,e,te,k1,k2,k3,k4,k5,k6⟩ := Tw hel;subst k4
 have hbd : D4 m cap none (some (.int k (.ofNat b))) none = some (0,b,Pj cap 0) := by
  have h2 : Nat.ble b m = true := ba_ hb;have h3 : Nat.ble 0 b = true := ba_ (ch_ _);simp only [D4,Lr,h3,Pi,h2,cond_true,cm_]
 have e0 : opdO E tm none = none := rfl;simp only [opA,Bd,k1,k2,k3,h.opd hx,h.opdO h1,e0,Ms,bg_,hbd,Av,em_,dn_,el_]
theorem Ak1 {z : List AV} : ∀ n,(rep z n).length = n * z.length
 | 0 => by simp [rep]
 | n + 1 => by simp only [rep,az_,Ak1 n,fn_]; omega
theorem Vz {z tl : List AV} {m b : Nat} {cap : Option Nat} (he : ∀ a,(enc a).length = sz) (hel : elI E.P t = some (sz,by',some z)) (hz : Nat.beq z.length sz = true) (hx : A4 E ρ x = some (.sr a (b * sz) sz m cap)) (hg : J.get a = some (.cells (l.flatMap enc ++ tl))) (hl : b + m = l.length) :
  Bo E Rr (.call ⟨.builtin .clear,#[x],#[t]⟩) ρ J A5 (J.set a (.cells ((l.take b).flatMap enc ++ (rep z m ++ tl)))) := fun tm h => by
 obtain ⟨ti,e,te,k1,k2,k3,k4,k5,k6⟩ := Tw hel;subst k4
 have h2 : l.flatMap enc ++ tl = (l.take b).flatMap enc ++ (l.drop b).flatMap enc ++ tl := by rw [← dd_,ck_]
 have h3 : ((l.take b).flatMap enc).length = b * te.size := by rw [Fm he,bl_]; congr 1; omega
 have h4 : (rep z m).length = ((l.drop b).flatMap enc).length := by rw [Ak1,Fm he,cu_,aa_ hz]; congr 1; omega
 have h5 := Vy (p := (l.take b).flatMap enc) (v := tl) h4;rw [h3,← h2,cf_] at h5;simp only [opA,Bd,k1,Eb,k2,k3,k6,hz,h.opd hx,opds,Ado,bg_,Sto.cells,hg,h5]
end
def Own (J : Sto) (N : Nat) {α : Type} (enc : α -> List AV) (sz : Nat) (l : List α) (v : AV) : Prop :=
 (l = [] /\ (v = .nil (.slice none 0 0) ∨ v = .sv [] sz 0 (some 0))) ∨ ∃ a tl,N <= a /\ a < nx J /\ v = .sr a 0 sz l.length none /\ J.get a = some (.cells (l.flatMap enc ++ tl))
section
variable {E : Env} {ρ : Ao} {J J' τ : Sto} {Rr : Rec} {t ty n a i N : Nat} {x y : Operand} {α : Type} {enc : α -> List AV} {sz by' : Nat} {l m : List α} {v : AV}
theorem Own.nil : Own J N enc sz ([] : List α) (.nil (.slice none 0 0)) := .inl ⟨rfl,.inl rfl⟩
theorem Own.emp : Own J N enc sz ([] : List α) (.sv [] sz 0 (some 0)) := .inl ⟨rfl,.inr rfl⟩
theorem Own.lenA (h : Own J N enc sz l v) : lenA v = some l.length /\ Yl v = true := by
 rcases h with ⟨rfl,rfl | rfl⟩ | ⟨a,tl,_,_,rfl,_⟩ <;> exact ⟨rfl,rfl⟩
theorem Own.mono (h : Own J N enc sz l v) (hn : nx J <= nx J') (hg : ∀ a tl,v = .sr a 0 sz l.length none -> N <= a -> a < nx J -> J.get a = some (.cells (l.flatMap enc ++ tl)) -> J'.get a = J.get a) : Own J' N enc sz l v := by
 rcases h with h | ⟨a,tl,h1,h2,h3,h4⟩
 ·exact .inl h
 ·exact .inr ⟨a,tl,h1,by omega,h3,(hg a tl h3 h1 h2 h4).trans h4⟩
theorem Own.app (he : ∀ a,(enc a).length = sz) (hN : N <= nx J) (h : Own J N enc sz l v) (m : List α) (bh : (l.length + m.length) * (by' + 1) <= sizeLim) :
  ∃ v' J',Di J sz by' v m.length (m.flatMap enc) = some (v',J') /\ Own J' N enc sz (l ++ m) v' /\ Below N J J' /\
   (∀ b,b < nx J -> (∀ c,v = .sr c 0 sz l.length none -> b ≠ c) -> J'.get b = J.get b) := by
 cases m with
 | nil =>
  refine ⟨v,J,?_,by simpa using h,eo_,fun _ _ _ => rfl⟩
  simp only [dq_,Di]
  rcases h with ⟨_,rfl | rfl⟩ | ⟨a,tl,_,_,rfl,_⟩ <;> rfl
 | cons b m =>
  have hb : Nat.ble ((l.length + (b :: m).length) * (by' + 1)) sizeLim = true := ba_ bh
  have fresh : ∀ (c : List α) (τ : Sto),N <= nx τ -> Own (τ.new (.cells (c.flatMap enc))) N enc sz c (.sr (nx τ) 0 sz c.length none) := fun c τ hτ =>
   .inr ⟨nx τ,[],hτ,by rw [Aj]; omega,rfl,by rw [ab_,if_pos rfl,cr_]⟩
  rcases h with ⟨rfl,rfl | rfl⟩ | ⟨a,tl,h1,h2,rfl,h3⟩
  ·have hb' : Nat.ble ((m.length + 1) * (by' + 1)) sizeLim = true := ba_ (by simpa using bh)
   refine ⟨.sr (nx J) 0 sz (b :: m).length none,J.new (.cells ((b :: m).flatMap enc)),?_,fresh _ _ hN,⟨by rw [Aj]; omega,fun c hc => by rw [ab_,if_neg Om]⟩,fun c hc _ => by rw [ab_,if_neg Om]⟩
   simp only [aq_,Di,Kp,bf_,hb',cond_true,Av,br_]
  ·have hb' : Nat.ble ((m.length + 1) * (by' + 1)) sizeLim = true := ba_ (by simpa using bh)
   have h0 : Nat.ble (m.length + 1) 0 = false := rfl
   refine ⟨.sr (nx J) 0 sz (b :: m).length none,J.new (.cells ((b :: m).flatMap enc)),?_,fresh _ _ hN,⟨by rw [Aj]; omega,fun c hc => by rw [ab_,if_neg Om]⟩,fun c hc _ => by rw [ab_,if_neg Om]⟩
   simp only [aq_,Di,bg_,h0,gm_,cm_,cond_true,Kp,bf_,hb',Av,br_]
  ·have ev : J.cells a = some (l.flatMap enc ++ tl) := by unfold Sto.cells; rw [h3]
   have c7 : D6 (l.length * sz) ((l.flatMap enc ++ tl).drop 0) = some (l.flatMap enc) := by
    have := Hs (l := l.flatMap enc) (r := tl)
    rwa [Fm he] at this
   simp only [aq_] at hb
   refine ⟨.sr (nx J) 0 sz (l ++ b :: m).length none,(J.kill a).new (.cells (l.flatMap enc ++ (b :: m).flatMap enc)),?_,?_,⟨by rw [Aj,Cl]; omega,fun c hc => ?_⟩,fun c hc hne => ?_⟩
   ·simp only [aq_,Di,bg_,cond_true,ev,c7,Kp,hb,Av,Cl,az_]
   ·rw [← dd_]
    have := fresh (l ++ b :: m) (J.kill a) (by rw [Cl]; exact hN)
    rwa [Cl] at this
   ·rw [ab_,Cl,if_neg Om,d_,if_neg Om]
   ·rw [ab_,Cl,if_neg Om,d_,if_neg (hne a rfl)]
abbrev ej_ := @Own.app
theorem Own.fz (he : ∀ a,(enc a).length = sz) (h : Own J N enc sz l v) (hτ : ∀ a,N <= a -> τ.get a = none) (hu : AV.unds (nx τ) (l.flatMap enc) = true) : Fz J τ v (slV enc sz l) := by
 rcases h with ⟨rfl,rfl | rfl⟩ | ⟨a,tl,h1,_,rfl,h3⟩
 ·exact .nils (fun q hq => by cases hq)
 ·exact .sv (fun q hq => by cases hq) .nil
 ·have c7 : D6 (l.length * sz) ((l.flatMap enc ++ tl).drop 0) = some (l.flatMap enc) := by
   have := Hs (l := l.flatMap enc) (r := tl)
   rwa [Fm he] at this
  exact .sr h3 (hτ a h1) c7 (fp_ hu)
def Agi (J : Sto) (N : Nat) {α : Type} (enc : α -> List AV) (sz : Nat) (l : List α) (v : AV) : Prop := v = .sv (l.flatMap enc) sz l.length (some l.length) ∨ Own J N enc sz l v
theorem Agi.app (he : ∀ a,(enc a).length = sz) (hN : N <= nx J) (h : Agi J N enc sz l v) (m : List α) (bh : (l.length + m.length) * (by' + 1) <= sizeLim) :
  ∃ v' J',Di J sz by' v m.length (m.flatMap enc) = some (v',J') /\ Agi J' N enc sz (l ++ m) v' /\ Below N J J' /\
   (∀ b,b < nx J -> (∀ c,v = .sr c 0 sz l.length none -> b ≠ c) -> J'.get b = J.get b) := by
 rcases h with rfl | h
 ·cases m with
  | nil => exact ⟨_,J,rfl,.inl (by rw [cr_]),eo_,fun _ _ _ => rfl⟩
  | cons b m =>
   have hb : Nat.ble ((l.length + (m.length + 1)) * (by' + 1)) sizeLim = true := ba_ bh
   have h0 : Nat.ble (l.length + (m.length + 1)) l.length = false := by
    cases hh : Nat.ble (l.length + (m.length + 1)) l.length with
    | true => exact absurd (ai_ hh) Om
    | false => rfl
   refine ⟨.sr (nx J) 0 sz (l ++ b :: m).length none,J.new (.cells ((l ++ b :: m).flatMap enc)),?_,.inr (.inr ⟨nx J,[],hN,by rw [Aj]; omega,rfl,by rw [ab_,if_pos rfl,cr_]⟩),⟨by rw [Aj]; omega,fun c hc => by rw [ab_,if_neg Om]⟩,fun c hc _ => by rw [ab_,if_neg Om]⟩
   simp only [aq_,Di,bg_,h0,gm_,cm_,cond_true,Kp,hb,Av,az_,dd_]
 ·obtain ⟨v',J',h1,h2,h3,h4⟩ := h.app he hN m bh;exact ⟨v',J',h1,.inr h2,h3,h4⟩
theorem Agi.fz (he : ∀ a,(enc a).length = sz) (h : Agi J N enc sz l v) (hτ : ∀ a,N <= a -> τ.get a = none) (hu : AV.unds (nx τ) (l.flatMap enc) = true) : Fz J τ v (slV enc sz l) := by
 rcases h with rfl | h
 ·exact .sv (fun q hq => by cases hq) (fp_ hu)
 ·exact h.fz he hτ hu
theorem WFS.none (hw : WFS J) {a : Nat} (h : nx J <= a) : J.get a = none := by
 cases hg : J.get a with
 | none => rfl
 | some O => exact absurd (hw a O hg).1 Om
theorem Ue (he : ∀ a,(enc a).length = sz) (J : Sto) (l : List α) : Gz J sz (slV enc sz l) l.length = some (l.flatMap enc) := by
 have := Hs (l := l.flatMap enc) (r := []);rw [Fm he,cr_] at this;exact this
end
def Ajb (P : Program) (t : Nat) : Bool := match Bf P t with | some ti => (match ti.desc with | .int _ => true | _ => false) | none => false
section
variable {E : Env} {ρ : Ao} {J J' τ : Sto} {Rr : Rec} {t t2 ty n a i N : Nat} {x y : Operand} {sz by' : Nat} {v : AV} {A B : AO}
theorem Ak2 (hi : Fd E.P t = true) (hx : A4 E ρ x = some (.nil (.slice none 0 0))) : Bo E Rr (.call ⟨.builtin .cap,#[x],#[t]⟩) ρ J (.int .i64 (.ofNat 0)) J := fun tm h => by
 unfold Fd at hi
 split at hi
 ·rename_i ti hti
  split at hi
  ·rename_i e hd
   simp only [opA,Bd,hti,Eb,hd,h.opd hx,opds,Jn]
   rfl
  ·cases hi
 ·cases hi
theorem Ar2 {zz : Option (List AV)} {hi : Option Operand} {k : IntKind} (hel : elI E.P t = some (sz,by',zz)) (hx : A4 E ρ x = some (.nil (.slice none 0 0))) (h1 : Lk E ρ hi = some (some (.int k (.ofNat 0)))) :
  Bo E Rr (.slice t x none hi none) ρ J (.nil (.slice none 0 0)) J := fun tm h => by
 obtain ⟨ti,e,te,k1,k2,k3,k4,k5,k6⟩ := Tw hel;have e0 : opdO E tm none = none := rfl;have hb : D4 0 (some 0) none (some (.int k (.ofNat 0))) none = some (0,0,some 0) := rfl;simp only [opA,Bd,k1,k2,k3,h.opd hx,h.opdO h1,e0,Ms,hb]
theorem Ao7 {z : List AV} (hi : elI E.P t = some (sz,by',some z)) (hl : Nat.beq z.length sz = true) (h2 : Ajb E.P t2 = true) (hx : A4 E ρ x = some (.nil (.slice none 0 0))) (hy : A4 E ρ y = some (.int .i64 (.ofNat (n + 1)))) (hn : (n + 1) * (by' + 1) <= sizeLim) :
  Bo E Rr (.call ⟨.builtin .append,#[x,y],#[t,t2]⟩) ρ J (.sr (nx J) 0 sz (n + 1) none) (J.new (.cells (rep z (n + 1)))) := fun tm h => by
 obtain ⟨ti,e,te,h1,hd,h3,h4,h5,h6⟩ := Tw hi;subst h4 h5;have hb : Nat.ble ((n + 1) * (te.bytes + 1)) sizeLim = true := ba_ hn;unfold Ajb at h2
 split at h2
 ·rename_i t2i ht2
  split at h2
  ·rename_i k hd2
   simp only [opA,Bd,h1,Eb,hd,h3,ht2,h6,hl,hd2,h.opd hx,h.opd hy,opds,S7,hb,cond_true,Di,Kp,bf_,Av,br_]
  ·cases h2
 ·cases h2
theorem Ata : ((J.new A).new B).get (nx J) = some A := by rw [ab_,if_neg (by rw [Aj]; omega),ab_,if_pos rfl]
theorem get2b : ((J.new A).new B).get (nx (J.new A)) = some B := by rw [ab_,if_pos rfl]
theorem Agj {cs : List AV} (h : J.get a = some (.cells cs)) : J.cells a = some cs := by unfold Sto.cells; rw [h]
end
def Wa (J τ : Sto) : Prop := ∀ a O,J.get a = some O -> τ.get a = some O
theorem Wa.refl {J : Sto} : Wa J J := fun _ _ h => h
theorem Wa.below {J τ : Sto} (hw : WFS J) (h : Below (nx J) J τ) : Wa J τ := fun a O ha => (h.2 a (hw a O ha).1).trans ha
def rdOk : Op -> Bool
 | .load .. => true
 | .lookup .. => true
 | _ => false
theorem Amx {J τ : Sto} (h : Wa J τ) {a : Nat} {vs : List AV} (hc : J.cells a = some vs) : τ.cells a = some vs := by
 unfold Sto.cells at hc ⊢
 split at hc
 ·rename_i us hg; rw [h _ _ hg]; exact hc
 ·cases hc
theorem Amy {J τ J₁ : Sto} {ti : TI} {x v : AV} (h : Wa J τ) (hs : L3 ti x J = some (v,J₁)) : L3 ti x τ = some (v,τ) := by
 unfold L3 at hs ⊢
 split at hs
 ·split at hs
  ·rename_i vs hvs
   split at hs
   ·rename_i u hu; cases hs; simp only [Amx h hvs,hu]
   ·cases hs
  ·cases hs
 ·split at hs
  ·rename_i u hu; cases hs; simp only [hu]
  ·cases hs
 ·cases hs
theorem Agk {J τ J₁ : Sto} {kt : Nat} {key : Option Key} {z m v : AV} {ok : Bool} (h : Wa J τ) (hs : Kb kt key z ok m J = some (v,J₁)) : Kb kt key z ok m τ = some (v,τ) := by
 unfold Kb at hs ⊢
 split at hs
 ·split at hs
  ·split at hs
   ·rename_i kt' es ver hg
    rw [h _ _ hg];simp only
    split at hs
    ·rename_i hb
     try simp only [hb]
     split at hs <;> rename_i hf <;> cases hs <;> simp only [hb,hf]
    ·cases hs
   ·cases hs
  ·cases hs; rfl
  ·cases hs
 ·cases hs
theorem Ao8 {E : Env} {J τ J₁ : Sto} {op : Op} {tm : Tr AV} {v : AV} (hr : rdOk op = true) (h : Wa J τ) (hs : Bd E op tm J = some (v,J₁)) : ∃ τ₁,Bd E op tm τ = some (v,τ₁) := by
 unfold rdOk at hr
 split at hr
 ·simp only [Bd] at hs ⊢
  split at hs
  ·rename_i ti hti; exact ⟨τ,Amy h hs⟩
  ·cases hs
 ·simp only [Bd] at hs ⊢
  split at hs
  ·rename_i ti hti
   split at hs
   ·rename_i kt et hd
    try simp only [hd]
    split at hs
    ·rename_i te hte
     try simp only [hd,hte]
     split at hs
     ·rename_i z hz
      try simp only [hd,hte,hz]
      exact ⟨τ,Agk h hs⟩
     ·cases hs
    ·cases hs
   ·cases hs
  ·cases hs
 ·cases hr
def K6 (E : Env) (m : Nat) : List Ann -> List Oper -> Bool -> Bool
 | a :: az,o :: os,late => (match a.cls with
  | .read => !late && Nat.ble a.hi m && rdOk o.op
  | _ => true) && K6 E m az os (late || Cg (By E o.op))
 | _,_,_ => true
theorem Qc {E : Env} {m : Nat} : ∀ {az : List Ann} {os : List Oper} {late : Bool},K6 E m az os late = true -> ∀ (j : Nat) (a : Ann) (o : Oper),az[j]? = some a -> os[j]? = some o -> a.cls = .read -> late = false /\ cnt E os j = 0 /\ a.hi <= m /\ rdOk o.op = true
 | a :: az,o :: os,late,h,0,a',o',ha,ho,hc => by
  simp at ha ho; subst ha ho
  simp only [K6,hc,ad_] at h
  exact ⟨by simpa using h.1.1.1,rfl,ai_ h.1.1.2,h.1.2⟩
 | a :: az,o :: os,late,h,j + 1,a',o',ha,ho,hc => by
  simp only [K6,ad_] at h
  obtain ⟨h1,h2,h3⟩ := Qc h.2 j a' o' (by simpa using ha) (by simpa using ho) hc
  simp only [cp_] at h1;refine ⟨h1.1,?_,h3⟩;simp only [cnt,h1.2,h2]
  simp
 | [],_,_,_,_,_,_,h,_,_ => by simp at h
 | _ :: _,[],_,_,_,_,_,_,h,_ => by simp at h
section
variable {E : Env} {nt B : Nat} {df : List (Nat × List AV)} {Q : Dr} {Rr : Rec} {ρ : Ao} {J : Sto}
def KDX (Q : Dr) (m : Nat) (J : Sto) : KD := fun ρ' J' eps _ => (∀ e ∈ eps.reverse.take (m + 1),Wa J e) /\ Q .normal ρ' J'
theorem Ig (m : Nat) {id : Nat} {ops : Array Oper} {anns : List Ann} (hm : E.P.follows .mixedOrders = true) (hR : Bc E Rr) (ha : Mw E ops = some anns) (hp : K6 E m anns ops.toList false = true)
  (h : TD E nt Rr ops.toList ops.toList (KDX Q m J) ρ J [J] []) : T E nt df B (.region id ops true) Q ρ J := by
 intro ro n hn C w tm a ht st hB;obtain ⟨c1,c2,c3,c4⟩ := K5 ha;obtain ⟨d,k1,k2,k3,ρ',log',k4,k5,k6,k7⟩ := h tm df [] ht trivial;refine wpIn_mono (Acf hm hR st c1 c2 c3 k1 fun j o t v ho hl hcl hg Jk hJ => ?_) fun e a' w' he => ?_
 ·have c5 := Ib (E := E) (b := (Region.before ops).toList) (effs := Ct E ops.toList 0) ops.toList 0 j o (by simpa using ho)
  rw [← c4] at c5;simp only [bf_] at c5
  obtain ⟨_,q1,q2,q3⟩ := Qc hp j _ o c5 (by simpa using ho) hcl
  simp only [Gq] at q2
  have bu : Wa J Jk := by
   refine k6 Jk ?_;obtain ⟨i,hi⟩ := cj_.1 hJ;rw [es_] at hi
   split at hi
   ·rename_i hlt
    rw [et_] at hi;exact cj_.2 ⟨_,(List.getElem?_take_of_lt Om).trans hi⟩
   ·cases hi
  obtain ⟨log,eps,lex,g2,g3,g4,g5⟩ := Mb k1;simp only [ef_,br_,dc_] at g2 g3;obtain ⟨x1,x2,x3,x4,x5⟩ := Zu lex
  obtain ⟨t',v',t₁,J₀,J₁,y1,y2,y3,y4,y5,y6⟩ := x5 j o (by simpa using ho)
  rw [g2] at hl;rw [hl] at y1; cases y1
  have h0 : J₀ = J := by
   rw [q1] at y3
   simpa using y3.symm
  subst h0
  have hne : Cg (By E o.op) = false := by rw [hcl]; rfl
  rcases y5 with ⟨z1,z2⟩ | ⟨z1,z2⟩
  ·rw [Jh hne] at z2; exact Ao8 q3 bu z2
  ·rw [z1] at hg; cases hg
 ·obtain ⟨y,hy,C',h1,h2,h3⟩ := he;rw [al_] at hy;subst hy;obtain ⟨⟨tm',nt',df',J'⟩,eps',dl'⟩ := d;simp only at k2 k3;subst k2 k3;exact ⟨.normal,tm',ρ',J',C',h1,k4,k7,h2,ax_ hB h3.next,h3.base hB⟩
theorem Uf {o : AO} (hw : WFS J) : Wa J (J.new o) := Wa.below hw (Below.rfl'.new nl o)
def newQ (d : Nat) (z cs : List AV) (L ρ : Ao) (τ : Sto) : Dr
 | .normal => fun ρ' J' => Lw L ρ' /\ K4 ρ ρ' /\ Ao.at ρ' d = some (.pr (nx τ) 0) /\ J' = (τ.new (.cells z)).set (nx τ) (.cells cs)
 | _ => fun _ _ => False
theorem Ni [Abl E] {x y : Code} (d : Nat) (z cs : List AV) (L : Ao) (hu : AV.unds (nx J) cs = true) (hL : AV.unds (nx J) (L.map (·.2)) = true) (h : WFS J -> T E nt [] B x (newQ d z cs L ρ J) ρ J) (k : T E nt [] B y Q ((d,.pv cs) :: L ++ ρ) J) : T E nt [] B (.seq x y) Q ρ J := by
 intro ro n hn C w tm a ht st hB;have hwf := st.sim.wfs;have fh : ∀ i u,Ao.at ρ i = some u -> AV.und (nx J) u = true := fun i u hu => R.und _ _ (st.tmps i u (ht i u hu))
 have hLu : ∀ (L : Ao),AV.unds (nx J) (L.map (·.2)) = true -> ∀ i u,Ao.at L i = some u -> AV.und (nx J) u = true := by
  intro L
  induction L with
  | nil => intro _ i u hh; cases hh
  | cons p r ih =>
   obtain ⟨j,v⟩ := p;intro hL i u hh;simp only [ca_,AV.unds,ad_] at hL;simp only [Ao.at] at hh;cases hb : Nat.beq j i with
   | true => rw [hb] at hh; cases hh; exact hL.1
   | false => rw [hb] at hh; exact ih hL.2 i u hh
 refine Ac ((h hwf).mono fun e ρ' J' hq => ?_) ro n hn C w tm a ht st hB
 cases e with
 | exit _ => exact hq.elim
 | ret => exact hq.elim
 | normal =>
  obtain ⟨h1,h2,h3,rfl⟩ := hq
  have hf : H9 ((J.new (.cells z)).set (nx J) (.cells cs)) J := ag_ hwf (by rw [Ak,Aj]; exact fa_ _) fun b hb => by rw [a_,if_neg Om,ab_,if_neg Om]
  intro ro n hn C₁ w₁ tm₁ a₁ ht₁ st₁ hB₁;refine wpIn_mono (k ro n hn (C₁.keep J) w₁ _ a₁ (P6 _) (st₁.frz ht₁ hf fun i u hi => ?_) hB) fun e a' w' he => he.from (fe_ C₁ J B w₁)
  simp only [av_,Ao.at] at hi;cases hb : Nat.beq d i with
  | true =>
   rw [hb] at hi; cases hi;have := aa_ hb; subst this
   exact ⟨_,h3,.pr (vs := cs) (by rw [a_,if_pos rfl]) (hwf.none nl) (fp_ hu)⟩
  | false =>
   rw [hb] at hi;simp only [cond_false] at hi;rw [fr_] at hi;cases hc : Ao.at L i with
   | some u' => rw [hc] at hi; cases hi; exact ⟨_,h1.at i _ hc,.same (hLu L hL i _ hc)⟩
   | none => rw [hc] at hi; exact ⟨_,h2 i u hi,.same (fh i u hi)⟩
end
theorem Aaa {N M : Nat} (h : N <= M) {es : List (Key × AV)} (k : Is N es = true) : Is M es = true := by
 unfold Is at k ⊢;rw [bu_] at k ⊢;exact fun x hx => AV.und_mono h x.2 (k x hx)
theorem Agl {N M : Nat} (h : N <= M) : ∀ {c : Option (Key × AV)},Ai1 N c = true -> Ai1 M c = true
 | none,_ => rfl
 | some x,k => AV.und_mono h x.2 k
theorem AO.und_mono {N M : Nat} (h : N <= M) : ∀ {O : AO},AO.und N O = true -> AO.und M O = true
 | .cells vs,k => AV.unds_mono h vs k
 | .map _ es _,k => Aaa h k
 | .iter none _ _ _,_ => rfl
 | .iter (some r) _ _ _,k => Dk (an_ (Gb k) h)
 | .stamp _ _ _,k => Dk (an_ (Gb k) h)
 | .loop _,_ => rfl
theorem WFS.new {J : Sto} (hw : WFS J) {X : AO} (hX : AO.und (nx J + 1) X = true) (hI : Ai2 (J.new X) X) : WFS (J.new X) := by
 intro a O hg;rw [ab_] at hg;rw [Aj]
 split at hg
 ·rename_i ha; cases hg; subst ha; exact ⟨bk_ _,hX,hI⟩
 ·obtain ⟨h1,h2,h3⟩ := hw a O hg;refine ⟨Nat.lt_succ_of_lt h1,AO.und_mono (fa_ _) h2,?_⟩;cases O with
  | iter m ver left cur =>
   cases m with
   | none => trivial
   | some r =>
    intro kt es hr;have hlt : r < nx J := Gb h2;rw [ab_,if_neg Om] at hr;obtain ⟨k1,k2⟩ := h3 kt es hr;rw [Aj];exact ⟨Aaa (fa_ _) k1,Agl (fa_ _) k2⟩
  | cells _ => trivial
  | map _ _ _ => trivial
  | stamp _ _ _ => trivial
  | loop _ => trivial
theorem H9.newMap {J τ : Sto} {kt ver : Nat} {es : List (Key × AV)} (hw : WFS J) (hb : Below (nx J) J τ) (hg : τ.get (nx J) = some (.map kt es ver)) (hn : nx J < nx τ) (hu : Is (nx J + 1) es = true) : H9 τ (J.new (.map kt es ver)) := by
 refine ag_ (hw.new hu trivial) (by rw [Aj]; omega) fun a ha => ?_
 rw [Aj] at ha;rw [ab_]
 split
 ·rename_i h; subst h; exact hg
 ·exact hb.2 a Om
section
variable {E : Env} {nt B : Nat} {df : List (Nat × List AV)} {Q : Dr} {ρ : Ao} {J : Sto}
theorem Ao9 {id : Nat} {ops : Array Oper} {r : List Oper} {x : Operand} {d ty : Nat} {pos : String} {after : Array Edge} {a ver : Nat} {m : Option Nat} {left : List (Key × AV)} {cur : Option (Key × AV)}
  (dc : ops.toList = { dst := some d,op := .next x false,type := ty,pos := pos,after := after,guard := none } :: r) (hd : Nat.blt d nt = true)
  (hx : A4 E ρ x = some (.it a)) (hg : J.get a = some (.iter m ver left cur)) (hv : X4 J m ver = true)
  (h0 : left = [] -> TO E nt df B ops.toList r (fun ρ J => Q .normal ρ J) ((d,.tup [.bool false]) :: ρ) (J.set a (.iter m ver [] none)))
  (h1 : ∀ p,p ∈ F5 left -> TO E nt df B ops.toList r (fun ρ J => Q .normal ρ J) ((d,.tup [.bool true,Rk p.1.1,p.1.2]) :: ρ) (J.set a (.iter m ver p.2 (some p.1)))) : T E nt df B (.region id ops false) Q ρ J := by
 intro ro n hn C w tm act ht st hB
 obtain ⟨hn1,hn2⟩ := K2 (by rw [← dc]; exact hn)
 have hX := B3 st.glob st.tmps x;rw [ht.opd hx] at hX
 have ho : ops[0]? = some { dst := some d,op := .next x false,type := ty,pos := pos,after := after,guard := none } := by rw [← bb_,dc]; rfl
 have hsz : ops.size = r.length + 1 := by rw [← bq_,dc]; rfl
 obtain ⟨y,w₁,bz,bu,dm⟩ := Zd (P := E.P) (ty := ty) st.sim hX hg hv
 have fq : (execOp act.eval { dst := some d,op := .next x false,type := ty,pos := pos,after := after,guard := none }).run E.P w = .ok (.value y) w₁ := by
  simp [execOp,bz]
 refine wpIn_region ?_;rw [hsz,dg_,cl_];simp only [wpOpsIn,ho]
 rw [if_pos (by unfold Region.wanted; rfl)]
 refine Ek hn1 ?_;unfold Oper.wp;rw [fq,Oper.upon_value]
 have hr : ∀ j,j < r.length -> r[j]? = ops[0 + 1 + j]? := fun j _ => by
  rw [← bb_,dc,show 0 + 1 + j = j + 1 by omega]; rfl
 have fin : ∀ (v : AV) (left' : List (Key × AV)) (cur' : Option (Key × AV)),TO E nt df B ops.toList r (fun ρ J => Q .normal ρ J) ((d,v) :: ρ) (J.set a (.iter m ver left' cur')) -> Sim E.P C w₁ (J.set a (.iter m ver left' cur')) -> R C (nx J) w₁ v y ->
   wpOpsIn (C1 ro) n E.P ops (Rh E nt df B Q C w) (List.range' (0 + 1) r.length) (act.put (some d) y) w₁ := by
  intro v left' cur' hto hs' hv'
  obtain ⟨tm',htm,cc⟩ := D0 (nt := nt) (dst := some d) (by exact hd) ht v
  have dp : Ext C (nx J) w C (nx (J.set a (.iter m ver left' cur'))) w₁ := by rw [Ak]; exact bu
  have st' := st.put (x := y) hs' dp (by rw [Ak]; exact hv') htm
  have := hto ro n hn2 C w₁ tm' _ cc st' (by rw [Ak]; exact hB) ops (0 + 1) (Rh E nt df B Q C w) [] rfl hr fun C' w' a' tm'' ρ' J' q1 q2 q3 q4 q5 =>
   ⟨.normal,tm'',ρ',J',C',rfl,q1,q2,q3,q4,(dp.base hB).trans q5⟩
  rwa [cr_] at this
 rcases dm with ⟨h,hs',hv'⟩ | ⟨p,hp,hs',hv'⟩
 ·exact fin _ _ _ (h0 h) hs' hv'
 ·exact fin _ _ _ (h1 p hp) hs' hv'
variable {Rr : Rec}
theorem Agm {t r kt kt' sz ver : Nat} {agg : Bool} {z : AV} {x : Operand} {es : List (Key × AV)} (hi : mpI E.P t = some (kt',z,sz,agg)) (hx : A4 E ρ x = some (.mp r)) (hm : J.get r = some (.map kt es ver)) :
  Bo E Rr (.range t x) ρ J (.it (nx J)) (J.new (.iter (some r) ver es none)) := fun tm h => by
 obtain ⟨ti,et,h1,h2⟩ := Ao2 hi;simp only [opA,Bd,h1,h2,h.opd hx,Adn,hm]
theorem Agn {x : Operand} {a r ver kt : Nat} {left es : List (Key × AV)} {k : Key} {v : AV} (hx : A4 E ρ x = some (.it a)) (hg : J.get a = some (.iter (some r) ver left (some (k,v)))) (hm : J.get r = some (.map kt es ver)) :
  Bo E Rr (.entry x) ρ J (.tup [Rk k,v]) J := fun tm h => by
 simp only [opA,Bd,h.opd hx,Yn,hg,hm,bg_,cond_true]
end
theorem Se {α : Type} {enc : α -> AV} : ∀ {m : SM α} {p : (Key × AV) × List (Key × AV)},p ∈ F5 (Cp enc m) -> ∃ q,q ∈ F5 m /\ p = ((kS q.1.1,enc q.1.2),Cp enc q.2)
 | [],p,h => by simp [Cp,F5] at h
 | x :: m,p,h => by
  simp only [Cp,ca_,F5,aj_,by_] at h
  rcases h with rfl | ⟨y,hy,rfl⟩
  ·exact ⟨(x,m),by simp [F5],rfl⟩
  ·obtain ⟨q,h1,rfl⟩ := Se (m := m) hy
   exact ⟨(q.1,x :: q.2),by simp only [F5,aj_,by_]; exact .inr ⟨q,h1,rfl⟩,rfl⟩
theorem Q5 {α : Type} : ∀ {l : List α} {p : α × List α},p ∈ F5 l -> p.1 ∈ l /\ (∀ x,x ∈ l ↔ x = p.1 ∨ x ∈ p.2) /\ p.2.length + 1 = l.length
 | [],p,h => by simp [F5] at h
 | x :: m,p,h => by
  simp only [F5,aj_,by_] at h
  rcases h with rfl | ⟨q,hq,rfl⟩
  ·exact ⟨bi_ ..,fun y => aj_,rfl⟩
  ·obtain ⟨h1,h2,h3⟩ := Q5 hq
   refine ⟨ak_ _ h1,fun y => ?_,by simp only [aq_]; omega⟩
   simp only [aj_,h2]
   constructor
   ·rintro (h | h | h)
    ·exact .inr (.inl h)
    ·exact .inl h
    ·exact .inr (.inr h)
   ·rintro (h | h | h)
    ·exact .inr (.inl h)
    ·exact .inl h
    ·exact .inr (.inr h)
end Go.AM
namespace Go.AM
open Go
theorem Eo {a b : Nat} {x y : List Nat} : Dd (a :: x) (b :: y) = true ↔ a < b ∨ (a = b /\ Dd x y = true) := by
  simp only [Dd];cases h : Nat.blt a b with
  | true => simp only [cond_true,true_iff]; exact .inl (by simpa [Nat.blt_eq] using h)
  | false =>
    have h' : ¬ a < b := fun hh => by rw [show Nat.blt a b = true from by rw [Nat.blt_eq]; exact hh] at h; cases h
    cases h2 : Nat.beq a b with
    | true => have := aa_ h2; subst this; simp
    | false => have : a ≠ b := fun hh => by subst hh; rw [bg_] at h2; cases h2
               simp only [cond_false,bd_,false_iff]; rintro (hh | ⟨hh,_⟩) <;> contradiction
theorem Aab : ∀ a : List Nat,Dd a a = false
  | [] => rfl
  | x :: a => by
    cases h : Dd (x :: a) (x :: a) with
    | false => rfl
    | true => rcases Eo.1 h with h | ⟨_,h⟩
              · omega
              · rw [Aab a] at h; cases h
theorem Ug : ∀ {a b c : List Nat},Dd a b = true -> Dd b c = true -> Dd a c = true
 | a,b,[],_,h2 => by cases b <;> simp [Dd] at h2
 | a,[],c :: z,h1,_ => by cases a <;> simp [Dd] at h1
 | [],_ :: _,_ :: _,_,_ => rfl
 | a :: x,b :: y,c :: z,h1,h2 => by
  rcases Eo.1 h1 with g1 | ⟨g0,g1⟩ <;> rcases Eo.1 h2 with g2 | ⟨g3,g2⟩
  ·exact Eo.2 (.inl Om)
  ·exact Eo.2 (.inl Om)
  ·exact Eo.2 (.inl Om)
  ·exact Eo.2 (.inr ⟨by omega,Ug g1 g2⟩)
theorem Aac : ∀ {a b : List Nat},Dd a b = false -> Dd b a = false -> a = b
 | [],[],_,_ => rfl
 | [],_ :: _,h,_ => by simp [Dd] at h
 | _ :: _,[],_,h => by simp [Dd] at h
 | a :: x,b :: y,h1,h2 => by
  have g1 : ¬ (a < b ∨ (a = b /\ Dd x y = true)) := fun hh => by rw [Eo.2 hh] at h1; cases h1
  have g2 : ¬ (b < a ∨ (b = a /\ Dd y x = true)) := fun hh => by rw [Eo.2 hh] at h2; cases h2
  have e : a = b := by omega
  subst e;rw [Aac (bs_.2 fun hh => g1 (.inr ⟨rfl,hh⟩)) (bs_.2 fun hh => g2 (.inr ⟨rfl,hh⟩))]
theorem Atb (a b : Str) : Key.lt (kS a) (kS b) = ltS a b := rfl
theorem Ael (a : Str) : ltS a a = false := Aab _
theorem Acm {a b c : Str} (h : ltS a b = true) (k : ltS b c = true) : ltS a c = true := Ug h k
theorem Ak3 {a b : Str} (h : ltS a b = false) (k : ltS b a = false) : a = b := Fj.1 (Aac h k)
section
variable {α : Type}
def SM.Srt (m : SM α) : Prop := m.Pairwise fun p q => ltS p.1 q.1 = true
theorem SM.Srt.nil : SM.Srt ([] : SM α) := List.Pairwise.nil
theorem SM.get_none_of {m : SM α} {s : Str} (h : ∀ p ∈ m,p.1 ≠ s) : m.get s = none := by
 induction m with
 | nil => rfl
 | cons p m ih =>
  obtain ⟨k,v⟩ := p;simp only [SM.get];rw [if_neg (fun hh => h (k,v) (bi_ ..) hh.symm)]
  exact ih fun q hq => h q (ak_ _ hq)
theorem SM.Srt.head {k : Str} {v : α} {m : SM α} (h : SM.Srt ((k,v) :: m)) {s : Str} (hs : ltS k s = false) (hne : s ≠ k) : SM.get ((k,v) :: m) s = none := by
 refine SM.get_none_of fun p hp hh => ?_
 rcases aj_.1 hp with rfl | hp
 ·exact hne hh.symm
 ·have := (bm_.1 h).1 p hp;rw [hh] at this; rw [this] at hs; cases hs
theorem SM.Srt.ext : ∀ {m n : SM α},SM.Srt m -> SM.Srt n -> (∀ s,m.get s = n.get s) -> m = n
 | [],[],_,_,_ => rfl
 | [],(k,v) :: n,_,_,h => by have := h k; simp [SM.get] at this
 | (k,v) :: m,[],_,_,h => by have := h k; simp [SM.get] at this
 | (k,v) :: m,(k',v') :: n,hm,hn,h => by
  have e : k = k' := by
   by_cases hk : k = k'
   ·exact hk
   ·cases h1 : ltS k k' with
    | false =>
     cases h2 : ltS k' k with
     | false => exact Ak3 h1 h2
     | true =>
      have := h k'; rw [hm.head h1 (gj_ hk)] at this
      simp [SM.get] at this
    | true =>
     have h2 : ltS k' k = false := bs_.2 fun hh => by have := Acm h1 hh; rw [Ael] at this; cases this
     have := h k; rw [hn.head h2 hk] at this
     simp [SM.get] at this
  subst e
  have e2 : v = v' := by have := h k; simpa [SM.get] using this
  subst e2
  have := SM.Srt.ext (bm_.1 hm).2 (bm_.1 hn).2 fun s => by
   by_cases hs : s = k
   ·subst hs
    have g : ∀ {q : SM α},SM.Srt ((s,v) :: q) -> q.get s = none := fun hq => SM.get_none_of fun p hp hh => by
     have := (bm_.1 hq).1 p hp; rw [hh,Ael] at this; cases this
    rw [g hm,g hn]
   ·have := h s; simp only [SM.get,if_neg hs] at this; exact this
  rw [this]
theorem SM.Srt.set : ∀ {m : SM α} {s : Str} {x : α},SM.Srt m -> SM.Srt (m.set s x)
 | [],_,_,_ => List.Pairwise.nil
 | (k,v) :: m,s,x,h => by
  have mem : ∀ {m : SM α} {p : Str × α},p ∈ m.set s x -> ∃ q ∈ m,q.1 = p.1 := by
   intro m
   induction m with
   | nil => intro p hp; cases hp
   | cons r m ih =>
    intro p hp;obtain ⟨k,v⟩ := r;simp only [SM.set] at hp
    split at hp
    ·rcases aj_.1 hp with rfl | hp
     ·exact ⟨_,bi_ ..,rfl⟩
     ·exact ⟨p,ak_ _ hp,rfl⟩
    ·rcases aj_.1 hp with rfl | hp
     ·exact ⟨_,bi_ ..,rfl⟩
     ·obtain ⟨q,h1,h2⟩ := ih hp; exact ⟨q,ak_ _ h1,h2⟩
  simp only [SM.set]
  split
  ·exact bm_.2 ⟨fun p hp => (bm_.1 h).1 p hp,(bm_.1 h).2⟩
  ·refine bm_.2 ⟨fun p hp => ?_,SM.Srt.set (bm_.1 h).2⟩
   obtain ⟨q,h1,h2⟩ := mem hp;rw [← h2]; exact (bm_.1 h).1 q h1
theorem SM.Srt.ins : ∀ {m : SM α} {s : Str} {x : α},SM.Srt m -> m.get s = none -> SM.Srt (m.ins s x)
 | [],_,_,_,_ => List.pairwise_singleton _ _
 | (k,v) :: m,s,x,h,hn => by
  have mem : ∀ {m : SM α} {p : Str × α},p ∈ m.ins s x -> p = (s,x) ∨ p ∈ m := by
   intro m
   induction m with
   | nil => intro p hp; exact .inl (al_.1 hp)
   | cons r m ih =>
    intro p hp;obtain ⟨k,v⟩ := r;simp only [SM.ins] at hp
    split at hp
    ·rcases aj_.1 hp with rfl | hp
     ·exact .inl rfl
     ·exact .inr hp
    ·rcases aj_.1 hp with rfl | hp
     ·exact .inr (bi_ ..)
     ·exact (ih hp).imp id (ak_ _)
  have hne : s ≠ k := fun hh => by subst hh; simp [SM.get] at hn
  cases hl : ltS s k with
  | true =>
   have e : SM.ins ((k,v) :: m) s x = (s,x) :: (k,v) :: m := by simp only [SM.ins,Atb,hl,if_true]
   rw [e];refine bm_.2 ⟨fun p hp => ?_,h⟩
   rcases aj_.1 hp with rfl | hp
   ·exact hl
   ·exact Acm hl ((bm_.1 h).1 p hp)
  | false =>
   have e : SM.ins ((k,v) :: m) s x = (k,v) :: SM.ins m s x := by simp [SM.ins,Atb,hl]
   rw [e]
   have hk : ltS k s = true := by
    cases hh : ltS k s with
    | true => rfl
    | false => exact absurd (Ak3 hl hh) hne
   refine bm_.2 ⟨fun p hp => ?_,SM.Srt.ins (bm_.1 h).2 (by simpa [SM.get,hne] using hn)⟩
   rcases mem hp with rfl | hp
   ·exact hk
   ·exact (bm_.1 h).1 p hp
theorem SM.Srt.put {m : SM α} {s : Str} {x : α} (h : SM.Srt m) : SM.Srt (m.put s x) := by
 unfold SM.put
 split
 ·exact h.set
 ·rename_i hn; exact h.ins hn
def SM.over (n m : SM α) : SM α := n.foldl (fun m p => m.put p.1 p.2) m
theorem SM.Srt.over : ∀ {n m : SM α},SM.Srt m -> SM.Srt (SM.over n m)
 | [],_,h => h
 | p :: n,m,h => SM.Srt.over (n := n) (m := m.put p.1 p.2) h.put
def SM.Key1 (m : SM α) : Prop := m.Pairwise fun p q => p.1 ≠ q.1
theorem SM.Srt.key1 {m : SM α} (h : SM.Srt m) : SM.Key1 m := h.imp fun {p q} hh => fun e => by rw [e,Ael] at hh; cases hh
theorem SM.get_over : ∀ {n m : SM α} {s : Str},SM.Key1 n -> (SM.over n m).get s = (n.get s).or (m.get s)
 | [],_,_,_ => by simp [SM.over,SM.get]
 | (k,v) :: n,m,s,h => by
  have ih := SM.get_over (n := n) (m := m.put k v) (s := s) (bm_.1 h).2
  show (SM.over n (m.put k v)).get s = _
  rw [ih,bz_];simp only [SM.get]
  by_cases hs : s = k
  ·subst hs;rw [SM.get_none_of fun p hp hh => (bm_.1 h).1 p hp hh.symm]; simp
  ·simp [hs]
theorem Aad : ∀ {m : SM α} {p : (Str × α) × SM α},SM.Key1 m -> p ∈ F5 m -> SM.Key1 p.2 /\ p.2.get p.1.1 = none /\ ∀ s,m.get s = if s = p.1.1 then some p.1.2 else p.2.get s
 | [],p,_,h => by simp [F5] at h
 | (k,v) :: m,p,hk,h => by
  simp only [F5,aj_,by_] at h;obtain ⟨h1,h2⟩ := bm_.1 hk
  rcases h with rfl | ⟨q,hq,rfl⟩
  ·exact ⟨h2,SM.get_none_of fun p hp hh => h1 p hp hh.symm,fun s => rfl⟩
  ·obtain ⟨g1,g2,g3⟩ := Aad h2 hq;obtain ⟨m1,m2,_⟩ := Q5 hq;have hne : k ≠ q.1.1 := h1 q.1 m1;refine ⟨bm_.2 ⟨fun p hp => h1 p ((m2 p).2 (.inr hp)),g1⟩,?_,fun s => ?_⟩
   ·simp only [SM.get]; rw [if_neg (gj_ hne)]; exact g2
   ·simp only [SM.get,g3 s]
    by_cases hs : s = k
    ·subst hs; simp [hne]
    ·simp [hs]
end
end Go.AM
namespace Go.AM
open Go
def ItV (J : Sto) : Prop := ∀ c r ver left cur,J.get c = some (.iter (some r) ver left cur) -> ∀ kt es ver',J.get r = some (.map kt es ver') -> ver <= ver'
theorem Sim.itv {P : Program} {C : Ctx} {w : World} {J : Sto} (h : Sim P C w J) : ItV J := fun c r ver left cur hg kt es ver' hr => by
 have ho := h.obj c _ hg;obtain ⟨_,_,_,_,_,_,_,_,k3⟩ := ho;exact (k3 _ _ _ hr).1
theorem T_itv {E : Env} {nt B : Nat} {df : List (Nat × List AV)} {Q : Dr} {ρ : Ao} {J : Sto} {c : Code} (h : ItV J -> T E nt df B c Q ρ J) : T E nt df B c Q ρ J := fun ro n hn C w tm a ht st hB => h st.sim.itv ro n hn C w tm a ht st hB
theorem WFS.setMap {J : Sto} (hw : WFS J) (hi : ItV J) {r kt ver ver' : Nat} {es es' : List (Key × AV)} (hm : J.get r = some (.map kt es ver)) (hu : Is (nx J) es' = true) (hv : ver < ver' ∨ (ver' = ver /\ es' = es)) : WFS (J.set r (.map kt es' ver')) := by
 intro a O hg;rw [a_] at hg;rw [Ak]
 split at hg
 ·rename_i ha; cases hg; subst ha; exact ⟨(hw _ _ hm).1,hu,trivial⟩
 ·obtain ⟨h1,h2,h3⟩ := hw a O hg;refine ⟨h1,h2,?_⟩;cases O with
  | iter m v left cur =>
   cases m with
   | none => trivial
   | some q =>
    intro kt2 es2 hr;rw [a_] at hr
    split at hr
    ·rename_i hq
     subst hq
     rcases hv with hv | ⟨rfl,rfl⟩
     ·have := hi a q v left cur hg _ _ _ hm;cases hr; omega
     ·cases hr; rw [Ak]; exact h3 _ _ hm
    ·rw [Ak]; exact h3 _ _ hr
  | cells _ => trivial
  | map _ _ _ => trivial
  | stamp _ _ _ => trivial
  | loop _ => trivial
theorem H9.setMap {J τ : Sto} (hw : WFS J) (hi : ItV J) {r kt ver ver' : Nat} {es es' : List (Key × AV)} (hm : J.get r = some (.map kt es ver)) (hu : Is (nx J) es' = true) (hv : ver < ver' ∨ (ver' = ver /\ es' = es))
  (hn : nx J <= nx τ) (hg : ∀ c,c < nx J -> c ≠ r -> τ.get c = J.get c) (hr : τ.get r = some (.map kt es' ver')) : H9 τ (J.set r (.map kt es' ver')) := by
 refine ag_ (hw.setMap hi hm hu hv) (by rw [Ak]; exact hn) fun c hc => ?_
 rw [Ak] at hc;rw [a_]
 split
 ·rename_i h; subst h; exact hr
 ·rename_i h; exact hg c hc (by intro hh; exact h Om)
section
variable {E : Env} {nt B : Nat} {df : List (Nat × List AV)} {Q : Dr} {Rr : Rec} {ops r : List Oper} {K : KD} {ρ : Ao} {J τ : Sto} {eps : List Sto} {log : List (Ao × AV)}
theorem TD_opF {op : Op} {dst : Option Nat} {ty : Nat} {pos : String} {after : Array Edge} {v : AV} {J₁ : Sto} (he : Cg (By E op) = false) (hd : C5 nt dst = true) (h : Bo E Rr op ρ J v J₁)
  (k : TD E nt Rr ops r K (En dst v ρ) J eps ((ρ,v) :: log)) : TD E nt Rr ops ({ dst := dst,op := op,type := ty,pos := pos,after := after,guard := none } :: r) K ρ J eps log := Akr (b := false) he hd h k
theorem TD_opT {op : Op} {dst : Option Nat} {ty : Nat} {pos : String} {after : Array Edge} {v : AV} {J₁ : Sto} (he : Cg (By E op) = true) (hd : C5 nt dst = true) (h : Bo E Rr op ρ J v J₁)
  (k : TD E nt Rr ops r K (En dst v ρ) J₁ (J₁ :: eps) ((ρ,v) :: log)) : TD E nt Rr ops ({ dst := dst,op := op,type := ty,pos := pos,after := after,guard := none } :: r) K ρ J eps log := Akr (b := true) he hd h k
theorem TD_onF {o oj : Oper} {v : AV} {J₁ : Sto} {j d : Nat} {b want : Bool} (hg : o.guard = some (j,want)) (hj : ops[j]? = some oj) (hdj : oj.dst = some d) (hb : Ao.at ρ d = some (.bool b)) (hw : cond b want (!want) = true)
  (he : Cg (By E o.op) = false) (hd : C5 nt o.dst = true) (h : Bo E Rr o.op ρ J v J₁)
  (k : TD E nt Rr ops r K (En o.dst v ρ) J eps ((ρ,v) :: log)) : TD E nt Rr ops (o :: r) K ρ J eps log := P9 (e := false) hg hj hdj hb hw he hd h k
theorem Aae {o oj : Oper} {v : AV} {J₁ : Sto} {j d : Nat} {b want : Bool} (hg : o.guard = some (j,want)) (hj : ops[j]? = some oj) (hdj : oj.dst = some d) (hb : Ao.at ρ d = some (.bool b)) (hw : cond b want (!want) = true)
  (he : Cg (By E o.op) = true) (hd : C5 nt o.dst = true) (h : Bo E Rr o.op ρ J v J₁)
  (k : TD E nt Rr ops r K (En o.dst v ρ) J₁ (J₁ :: eps) ((ρ,v) :: log)) : TD E nt Rr ops (o :: r) K ρ J eps log := P9 (e := true) hg hj hdj hb hw he hd h k
theorem TD_offF {o oj : Oper} {j d : Nat} {b want : Bool} (hg : o.guard = some (j,want)) (hj : ops[j]? = some oj) (hdj : oj.dst = some d) (hb : Ao.at ρ d = some (.bool b)) (hw : cond b want (!want) = false)
  (he : Cg (By E o.op) = false) (hd : C5 nt o.dst = true)
  (k : TD E nt Rr ops r K (En o.dst A5 ρ) J eps ((ρ,A5) :: log)) : TD E nt Rr ops (o :: r) K ρ J eps log := Sd (e := false) hg hj hdj hb hw he hd k
theorem Yc {o oj : Oper} {j d : Nat} {b want : Bool} (hg : o.guard = some (j,want)) (hj : ops[j]? = some oj) (hdj : oj.dst = some d) (hb : Ao.at ρ d = some (.bool b)) (hw : cond b want (!want) = false)
  (he : Cg (By E o.op) = true) (hd : C5 nt o.dst = true)
  (k : TD E nt Rr ops r K (En o.dst A5 ρ) J (J :: eps) ((ρ,A5) :: log)) : TD E nt Rr ops (o :: r) K ρ J eps log := Sd (e := true) hg hj hdj hb hw he hd k
end
theorem Aem (s : Str) : Key.eq (kS s) (kS s) = true := by rw [Acj]; simp
theorem Acn {k : Key} (hk : Key.eq k k = true) {v z : AV} : ∀ {es : List (Key × AV)},D7 k es = none -> Re k v (Ph k z es) = Ph k v es
 | [],_ => by
  simp only [Ph,Re,hk,cond_true]
 | (k',v') :: r,h => by
  simp only [D7] at h;cases h1 : Key.eq k k' with
  | true => rw [h1] at h; cases h
  | false =>
   rw [h1] at h;simp only [Ph];cases h2 : Key.lt k k' with
   | true => simp only [cond_true,Re,hk]
   | false => simp only [cond_false,Re,h1]; rw [Acn hk h]
section
variable {E : Env} {ρ : Ao} {J : Sto} {Rr : Rec} {t ty n r a : Nat} {x y w : Operand} {α : Type} {enc : α -> AV} {m : SM α} {s : Str}
def Sf (enc : α -> AV) (z : AV) (m : SM α) (s : Str) : List (Key × AV) := match m.get s with | some _ => Cp enc m | none => Ph (kS s) z (Cp enc m)
theorem Ago {z : AV} {sz ver : Nat} {agg : Bool} (h9 : Gw E.P 9 = true) (hi : mpI E.P t = some (9,z,sz,agg)) (hx : A4 E ρ x = some (.mp r)) (hm : J.get r = some (.map 9 (Cp enc m) ver)) (hy : A4 E ρ y = some (sV s)) :
  Bo E Rr (.mapEntry t x y) ρ J (.tup [((m.get s).map enc).getD z,.stp (nx J)]) ((J.set r (.map 9 (Sf enc z m s) (ver + 1))).new (.stamp r (ver + 1) (kS s))) := fun tm h => by
 obtain ⟨ti,et,te,h1,h2,h3,h4,h5,h6⟩ := Zm hi;simp only [opA,Bd,h1,h2,h3,h4,h.opd hx,h.opd hy,keyS h9,Qv,hm,bg_,Av,Ht,Sf];cases m.get s <;> rfl
theorem Abn {z : AV} {sz ver : Nat} {agg : Bool} {v : α} (hi : mpI E.P t = some (9,z,sz,agg)) (hx : A4 E ρ x = some (.mp r)) (hy : A4 E ρ y = some (.stp a)) (hw : A4 E ρ w = some (enc v)) (hf : ∀ te : TI,te.size = sz -> te.isAgg = agg -> O4 te (enc v) = true)
  (ha : J.get a = some (.stamp r ver (kS s))) (hm : J.get r = some (.map 9 (Sf enc z m s) ver)) : Bo E Rr (.entryStore t x y w) ρ J A5 (J.set r (.map 9 (Cp enc (m.put s v)) (ver + 1))) := fun tm h => by
 obtain ⟨ti,et,te,h1,h2,h3,h4,h5,h6⟩ := Zm hi
 have e1 : ∃ u,D7 (kS s) (Sf enc z m s) = some u := by
  unfold Sf
  split
  ·rename_i u hu; rw [Ht,hu]; exact ⟨_,rfl⟩
  ·rename_i hu
   have : ∀ es,D7 (kS s) (Ph (kS s) z es) = some z ∨ ∃ u,D7 (kS s) es = some u := by
    intro es
    induction es with
    | nil => left; simp [Ph,D7,Aem]
    | cons p r ih =>
     obtain ⟨k',v'⟩ := p;simp only [Ph];cases h2 : Key.lt (kS s) k' with
     | true => left; simp [D7,Aem]
     | false =>
      simp only [cond_false,D7];cases h1 : Key.eq (kS s) k' with
      | true => exact .inr ⟨v',rfl⟩
      | false => exact ih
   rcases this (Cp enc m) with h | ⟨u,h⟩
   ·exact ⟨_,h⟩
   ·rw [Ht,hu] at h; cases h
 have e2 : Re (kS s) (enc v) (Sf enc z m s) = Cp enc (m.put s v) := by
  unfold Sf SM.put
  split
  ·rename_i u hu; rw [Z6]; try rw [hu]
  ·rename_i hu; rw [Acn (Aem s) (by rw [Ht,hu]; rfl),Z7]; try rw [hu]
 obtain ⟨u,e1⟩ := e1;simp only [opA,Bd,h1,h2,h3,h.opd hx,h.opd hy,h.opd hw,Lb,ha,hm,bg_,hf te h5 h6,cm_,Av,e1,e2]
theorem Agp {parts : Array (Nat × Operand)} {z cs : List AV} {sz len : Nat} {agg : Bool} {ps : List (Nat × Nat × AV)} (hz : (match Bf E.P t with | some ti => ti.zero | none => none) = some z) (hi : arI E.P t = some (len,sz,agg))
  (hp : Vx E ρ sz parts.toList = some ps) (hf : Su z ps = some cs) : Bo E Rr (.build t parts) ρ J (.agg cs) J := fun tm h => by
 unfold arI at hi
 split at hi
 ·rename_i ti hti
  rw [hti] at hz;simp only at hz
  split at hi
  ·rename_i nn e he
   split at hi
   ·rename_i te hte
    simp only [ac_,aw_] at hi;obtain ⟨k1,k2,k3⟩ := hi;subst k1 k2;simp only [opA,Bd,hti,hz,he,hte,Z4 h hp,Ls,hf]
   ·cases hi
  ·cases hi
 ·cases hi
theorem Amz {sz m : Nat} {agg : Bool} {k : IntKind} {cs : List AV} {v : AV} (hi : arI E.P t = some (m,sz,agg)) (hx : A4 E ρ x = some (.agg cs)) (hy : A4 E ρ y = some (.int k (.ofNat n)))
  (hn : n < m) (hv : Iq sz agg (cs.drop (n * sz)) = some v) : Bo E Rr (.index t x y) ρ J v J := fun tm h => by
 unfold arI at hi
 split at hi
 ·rename_i ti hti
  split at hi
  ·rename_i nn e he
   split at hi
   ·rename_i te hte
    simp only [ac_,aw_] at hi;obtain ⟨k1,k2,k3⟩ := hi;subst k1 k2 k3
    have hb : Nat.blt n nn = true := by simpa using hn
    simp only [opA,Bd,hti,he,hte,h.opd hx,h.opd hy,Ki,hb,cond_true,Ll,hv]
   ·cases hi
  ·cases hi
 ·cases hi
end
section
variable {E : Env} {nt B : Nat} {Q Q' : Dr} {ρ ρ' : Ao} {J J' : Sto}
def TRd (E : Env) (nt B : Nat) (c : Code) (Q : Dr) (ρ : Ao) (J : Sto) : Prop :=
 ∀ (l₀ n : Nat) (C : Ctx) (w : World) (tm : Tr AV) (a : Act),Has tm ρ -> SSt E C w ⟨tm,nt,[],J⟩ a -> B <= nx J -> c.wpIn (C1 (some l₀)) n E.P (Rh E nt [] B Q C w) a w
theorem Am0 {id : Nat} {c : Code} (h : TRd E nt B c (Vr id Q) ρ J) : TRd E nt B (.block id c) Q ρ J := by
 intro l₀ n C w tm a ht st hB;refine wpIn_block (wpIn_mono (h l₀ n C w tm a ht st hB) fun e a' w' he => ?_)
 obtain ⟨x',tm',ρ',J',C',h1,h2,h3,h4,hB',h5⟩ := he;subst h1;cases x' with
 | normal => exact ⟨.normal,tm',ρ',J',C',rfl,h2,h3,h4,hB',h5⟩
 | ret => exact ⟨.ret,tm',ρ',J',C',rfl,h2,h3,h4,hB',h5⟩
 | exit j =>
  simp only [Vr] at h3
  by_cases hj : j = id
  ·subst hj;rw [bg_] at h3;simp only [K0,Exit.inBlock,if_true];exact ⟨.normal,tm',ρ',J',C',rfl,h2,h3,h4,hB',h5⟩
  ·have hb : Nat.beq j id = false := by cases hb : Nat.beq j id with | true => exact absurd (aa_ hb) hj | false => rfl
   rw [hb] at h3;simp only [K0,Exit.inBlock,if_neg hj];exact ⟨.exit j,tm',ρ',J',C',rfl,h2,h3,h4,hB',h5⟩
theorem Aaf {id : Nat} {ops : Array Oper} (hn : Fk ops.toList = true) (h : TO E nt [] B ops.toList ops.toList (fun ρ J => Q .normal ρ J) ρ J) : TRd E nt B (.region id ops false) Q ρ J :=
 fun l₀ n => Aa h (some l₀) n (.inr hn)
end
def YTo (E : Env) (L : RF) (args : List AV) (J : Sto) (Post : Sto -> Prop) : Prop :=
 ∀ (C : Ctx) (w : World) (vs : Array Value),G7 L C (nx J) w -> Sim E.P C w J -> Fh C (nx J) w E -> RL C (nx J) w args vs.toList ->
  ∃ r,w.heap[(C.stm L.aY).toNat]? = some (.loop (Dm r .ready)) /\ vs.size = r.params.size /\ ∀ n,RoundIn Fence.wide n E.P (C.stm L.aY).toNat r.fn ((r.params.zip vs).foldl (fun tmps (t,a) => tmps.setIfInBounds t a) r.tmps) r.assign r.body w fun e w' =>
   e = .returned (.bool true) /\ ∃ C' J',Post J' /\ Sim E.P C' w' J' /\ Ext C (nx J) w C' (nx J') w'
def Apa : List Nat -> List AV -> Ao -> Ao
 | p :: ps,x :: xs,ρ => Apa ps xs ((p,x) :: ρ)
 | _,_,ρ => ρ
theorem Xg {C : Ctx} {N : Nat} {w : World} {nt : Nat} : ∀ {ps : List Nat} {args : List AV} {vs : List Value} {tm : Tr AV} {ρ : Ao} {tmps : Array Value},args.length = ps.length -> ps.all (fun p => Nat.blt p nt) = true -> Has tm ρ -> TR C N w tm tmps -> tmps.size = nt -> RL C N w args vs ->
  vs.length = ps.length /\ ∃ tm',Has tm' (Apa ps args ρ) /\ TR C N w tm' ((ps.zip vs).foldl (fun tmps (t,a) => tmps.setIfInBounds t a) tmps) /\ ((ps.zip vs).foldl (fun tmps (t,a) => tmps.setIfInBounds t a) tmps).size = nt
 | [],[],[],tm,ρ,tmps,_,_,ht,hT,hs,_ => ⟨rfl,tm,ht,hT,hs⟩
 | [],[],_ :: _,_,_,_,_,_,_,_,_,h => by unfold RL at h; exact h.elim
 | [],_ :: _,_,_,_,_,h,_,_,_,_,_ => by cases h
 | _ :: _,[],_,_,_,_,h,_,_,_,_,_ => by cases h
 | _ :: _,_ :: _,[],_,_,_,_,_,_,_,_,h => by unfold RL at h; exact h.elim
 | p :: ps,x :: xs,v :: vs,tm,ρ,tmps,hl,hb,ht,hT,hs,hr => by
  unfold RL at hr;simp only [cx_,ad_] at hb;obtain ⟨tm1,h1,h2⟩ := D0 (nt := nt) (dst := some p) hb.1 ht x;obtain ⟨k1,k2,_⟩ := TR.put (a := { tmps := tmps,defers := [] }) hT hs h1 hr.1
  have iz : (({ tmps := tmps,defers := [] } : Act).put (some p) v).tmps = tmps.setIfInBounds p v := by simp [Act.put]
  rw [iz] at k1 k2
  obtain ⟨q1,tm',q2,q3,q4⟩ := Xg (by simpa using hl) hb.2 h2 k1 k2 hr.2
  exact ⟨by simp [q1],tm',q2,q3,q4⟩
theorem At9 {E : Env} {L : RF} {ρL : Ao} {args : List AV} {J : Sto} {Post : Sto -> Prop} (hL : Has L.tm ρL) (hl : args.length = L.ps.toList.length) (hps : L.ps.toList.all (fun p => Nat.blt p L.nt) = true) (hrd : J.get L.aY = some (.loop .ready)) (hY0 : L.aY < nx J)
  (h : TRd E L.nt (nx J) L.assign (fun | .normal => fun ρ₁ J₁ => J₁.get L.aY = some (.loop .ready) /\ TRd E L.nt (nx J) L.body (fun | .normal => fun _ J₂ => J₂.get L.aY = some (.loop .busy) /\ Post (J₂.set L.aY (.loop .ready)) | _ => fun _ _ => False) ρ₁ (J₁.set L.aY (.loop .busy)) | _ => fun _ _ => False) (Apa L.ps.toList args ρL) J) :
  YTo E L args J Post := by
 intro C w vs hi hs hg bm;obtain ⟨hY1,hY2,r,hlr,hTR,hsz,hp,has,hbo⟩ := hi;obtain ⟨c,r',h1,h2,h3⟩ := hs.obj _ _ hrd;rw [hlr] at h2;cases h2;have hc := hY2 c 0 h1;subst hc;obtain ⟨q1,tm',q0,q2,q3⟩ := Xg (nt := L.nt) hl hps hL hTR hsz bm
 have nj : (L.ps.toList.zip vs.toList).foldl (fun tmps (t,a) => tmps.setIfInBounds t a) r.tmps = (L.ps.zip vs).foldl (fun tmps (t,a) => tmps.setIfInBounds t a) r.tmps := by
  rw [← er_,Array.toList_zip]
 rw [nj] at q2 q3
 refine ⟨r,h3,by rw [hp]; simpa using q1,fun n => ?_⟩
 refine roundIn_of_wpIn (F := Fence.wide) trivial ?_;rw [has,hbo,hp]
 have st0 : SSt E C w ⟨tm',L.nt,[],J⟩ { tmps := (L.ps.zip vs).foldl (fun tmps (t,a) => tmps.setIfInBounds t a) r.tmps,defers := [] } := ⟨hs,hg,q2,q3,by unfold DR; trivial⟩
 refine wpIn_mono (h (C.stm L.aY).toNat n C w tm' _ q0 st0 nl) fun e a₁ w₁ hq => ?_
 obtain ⟨x₁,tm₁,ρ₁,J₁,C₁,hye,ht₁,hq₁,st₁,hB₁,e₁⟩ := hq;subst hye;cases x₁ with
 | ret => exact hq₁.elim
 | exit _ => exact hq₁.elim
 | normal =>
  obtain ⟨hrd₁,cd⟩ := hq₁;obtain ⟨c₁,r₁,j1,j2,j3,j4,j5⟩ := st₁.sim.turnLoop hrd₁ .busy
  have hr₁ : r₁ = r := by
   have := e₁.lr _ hY0;rw [j2,hlr] at this;exact dr_ this
  subst hr₁;have hc₁ : c₁ = (C.stm L.aY).toNat := hY2 c₁ 0 (e₁.loc _ hY0 _ j1);subst hc₁;refine ⟨_,run_beginRound j3 rfl,?_⟩;have st₂ : SSt E C₁ (w₁.putObj (C.stm L.aY).toNat (.loop (Dm r₁ .busy))) ⟨tm₁,L.nt,[],J₁.set L.aY (.loop .busy)⟩ a₁ :=
   ⟨j4,by show Fh _ (nx (J₁.set _ _)) _ _; rw [Ak]; exact st₁.glob.ext j5,by show TR _ (nx (J₁.set _ _)) _ _ _; rw [Ak]; exact st₁.tmps.ext j5,st₁.size,by show DR _ (nx (J₁.set _ _)) _ _ _; rw [Ak]; exact st₁.dfs.ext j5⟩
  refine wpIn_mono (cd (C.stm L.aY).toNat n C₁ _ tm₁ _ ht₁ st₂ (by rw [Ak]; exact hB₁)) fun e a₃ w₃ hq => ?_
  obtain ⟨x₃,tm₃,ρ₃,J₃,C₂,hye,ht₃,hq₃,st₃,hB₃,e₂⟩ := hq;subst hye;cases x₃ with
  | ret => exact hq₃.elim
  | exit _ => exact hq₃.elim
  | normal =>
   obtain ⟨hbu,fo⟩ := hq₃;obtain ⟨c₂,r₂,m1,m2,m3,m4,m5⟩ := st₃.sim.turnLoop hbu .ready
   have hr₂ : r₂ = r₁ := by
    have := e₂.lr _ hY0;rw [m2,j2] at this;exact dr_ this
   subst hr₂;have hc₂ : c₂ = (C.stm L.aY).toNat := hY2 c₂ 0 (e₁.loc _ hY0 _ (e₂.loc _ hY0 _ m1));subst hc₂;have cu := run_endRound (P := E.P) none m3;refine ⟨_,_,cu,rfl,C₂,_,fo,m4,?_⟩;rw [Ak];exact (((e₁.trans (j5.base hB₁)).trans e₂).trans (m5.base hB₃)).top hB₃
end Go.AM
