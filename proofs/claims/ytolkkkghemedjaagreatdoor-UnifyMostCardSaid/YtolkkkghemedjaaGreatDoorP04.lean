/- A part of the proof; shortened by program. -/
import Derived.RangeFuncIn
import Derived.RangeFuncLeaves
import Derived.TacticsIn
import Derived.OrdersIn
import Derived.RecoverIn
import Derived.Test.YtolkkkghemedjaaGreatDoorP03
set_option maxRecDepth 100000
set_option maxHeartbeats 4000000
set_option linter.unusedSimpArgs false
set_option linter.unusedVariables false
namespace Go.AM
open Go
def ltS (a b : Str) : Bool := Cw (a.map UInt8.toNat) (b.map UInt8.toNat)
section
variable {E : Env} {J : Ae} {U U' : Sto} {Rr : Rec} {t ty n : Nat} {x y : Operand}
theorem boolI {P : Program} (h : Xq P t = true) : ∃ ti,A4 P t = some ti /\ ti.desc = .bool := by
 unfold Xq at h
 split at h
 ·rename_i ti hti
  split at h
  ·rename_i hd; exact ⟨ti,hti,hd⟩
  ·cases h
 ·cases h
theorem As0 {a b : Bool} (hi : Xq E.P t = true) (hx : Ak E J x = some (.bool a)) (hy : Ak E J y = some (.bool b)) : A0 E Rr (.binOp .eql t x y ty) J U (.bool (a == b)) U := fun tm h => by
 obtain ⟨ti,h1,h2⟩ := boolI hi;simp only [opA,Az,h.opd hx,h.opd hy,Aba,h1,h2,Vy];cases a <;> cases b <;> rfl
theorem Zp {a b : Str} (hi : okI E.P t = true) (hx : Ak E J x = some (sV a)) (hy : Ak E J y = some (sV b)) : A0 E Rr (.binOp .geq t x y ty) J U (.bool (!ltS a b)) U := Aed hi hx hy rfl
theorem Ael {a b : Str} (hi : okI E.P t = true) (hx : Ak E J x = some (sV a)) (hy : Ak E J y = some (sV b)) (hl : a.length + b.length <= Nv) : A0 E Rr (.binOp .add t x y ty) J U (sV (a ++ b)) U := by
 refine Aed hi hx hy ?_
 have h1 : Nat.ble ((a.map UInt8.toNat).length + (b.map UInt8.toNat).length) Nv = true := by rw [bs_,bs_]; exact ap_ hl
 simp only [Rx,h1,cond_true,sV,cz_]
theorem As1 {l m : List AV} {a b : Key} (hi : okI E.P t = true) (hx : Ak E J x = some (.agg l)) (hy : Ak E J y = some (.agg m)) (hcx : Dk x = false) (hcy : Dk y = false) (h1 : Er E.P t (.agg l) = some a) (h2 : Er E.P t (.agg m) = some b) :
  A0 E Rr (.binOp .neq t x y ty) J U (.bool (!Key.eq a b)) U := fun tm h => by
 obtain ⟨ti,hti⟩ := Oe hi;simp only [opA,Az,h.opd hx,h.opd hy,hcx,hcy,Aba,hti,Lg,Bool.or_self,cond_false,Ry,h1,h2,Vy]
theorem Aof {kt sz : Nat} {agg : Bool} {z : AV} (hi : mpI E.P t = some (kt,z,sz,agg)) : ∃ ti et,A4 E.P t = some ti /\ ti.desc = .map kt et := by
 obtain ⟨ti,et,te,h1,h2,_⟩ := S4 hi;exact ⟨ti,et,h1,h2⟩
theorem Aq1 {α : Type} {enc : α -> AV} {m : SM α} {r kt sz : Nat} {agg : Bool} {z : AV} (hi : mpI E.P t = some (kt,z,sz,agg)) (hx : Ak E J x = some (.mp r)) (hm : Bf enc U r m) :
  A0 E Rr (.call ⟨.builtin .len,#[x],#[t]⟩) J U (.int .i64 (.ofNat m.length)) U := fun tm h => by
 obtain ⟨ti,et,h1,h2⟩ := Aof hi;obtain ⟨ver,hv⟩ := hm;simp only [opA,Az,h1,C8,h2,h.opd hx,opds,Pe,hv,Ai,B6,bs_]
theorem Aog {r kt sz : Nat} {agg : Bool} {z : AV} (hi : mpI E.P t = some (kt,z,sz,agg)) (hx : Ak E J x = some (.mp r)) : A0 E Rr (.binOp .eql t x (.const (.map none)) ty) J U (.bool false) U := fun tm h => by
 obtain ⟨ti,et,h1,h2⟩ := Aof hi;simp only [opA,Az,h.opd hx,Dk,Aba,h1,g_,Lg,cond_true];simp only [h2]
 rfl
theorem Aoh {kt sz : Nat} {agg : Bool} {z : AV} (hi : mpI E.P t = some (kt,z,sz,agg)) (hx : Ak E J x = some (.nil (.map none))) : A0 E Rr (.binOp .eql t x (.const (.map none)) ty) J U (.bool true) U := fun tm h => by
 obtain ⟨ti,et,h1,h2⟩ := Aof hi;simp only [opA,Az,h.opd hx,Dk,Aba,h1,g_,Lg,cond_true];simp only [h2]
 rfl
theorem Ami {α : Type} {enc : α -> AV} {m : SM α} {r kt sz ver : Nat} {agg : Bool} {z : AV} (hi : mpI E.P t = some (kt,z,sz,agg)) (hx : Ak E J x = some (.mp r)) (hm : U.get r = some (.map 9 (B6 enc m) ver)) :
  A0 E Rr (.call ⟨.builtin .clear,#[x],#[t]⟩) J U Au (U.set r (.map 9 [] (ver + 1))) := fun tm h => by
 obtain ⟨ti,et,h1,h2⟩ := Aof hi;simp only [opA,Az,h1,C8,h2,h.opd hx,opds,Pf,hm,Ai]
theorem Amj (a b : Int) : Yg a b = min a b := by
 unfold Yg;have := Eb (a := a) (b := b);rw [this]
 by_cases h : a <= b
 ·rw [decide_eq_true h,cond_true]; omega
 ·rw [decide_eq_false h,cond_false]; omega
theorem Amk (a b : Int) : Yh a b = max a b := by
 unfold Yh;have := Eb (a := b) (b := a);rw [this]
 by_cases h : b <= a
 ·rw [decide_eq_true h,cond_true]; omega
 ·rw [decide_eq_false h,cond_false]; omega
theorem Aiv {k : IntKind} {p q : Int} (hi : okI E.P t = true) {tys : Nat} (hx : Ak E J x = some (.int k p)) (hy : Ak E J y = some (.int k q)) : A0 E Rr (.call ⟨.builtin .max,#[x,y],#[t,tys]⟩) J U (.int k (max p q)) U := fun tm h => by
 obtain ⟨ti,hti⟩ := Oe hi;simp only [opA,Az,hti,C8,h.opd hx,h.opd hy,opds,Uu,Og,cond_true,Amk]
theorem Aoi {k : IntKind} {p q : Int} (hi : okI E.P t = true) {tys : Nat} (hx : Ak E J x = some (.int k p)) (hy : Ak E J y = some (.int k q)) : A0 E Rr (.call ⟨.builtin .min,#[x,y],#[t,tys]⟩) J U (.int k (min p q)) U := fun tm h => by
 obtain ⟨ti,hti⟩ := Oe hi;simp only [opA,Az,hti,C8,h.opd hx,h.opd hy,opds,Uu,Og,cond_true,Amj]
end
section
variable {E : Env} {J : Ae} {U U' : Sto} {Rr : Rec} {t ty n a i : Nat} {x y : Operand} {α : Type} {enc : α -> List AV} {sz by' : Nat} {l : List α}
theorem Py : ∀ {p q u v : List AV},u.length = q.length -> setAt (p ++ q ++ v) p.length u = some (p ++ u ++ v)
 | [],q,u,v,h => by
  simp only [bg_,cs_];exact go h
 | x :: p,q,u,v,h => by
  simp only [az_,at_,setAt,Py h]
 where
 go : ∀ {q u v : List AV},u.length = q.length -> setAt (q ++ v) 0 u = some (u ++ v)
  | [],[],v,_ => by cases v <;> rfl
  | y :: q,z :: u,v,h => by
   have := go (q := q) (u := u) (v := v) (by simpa using h)
   simp only [az_,setAt,this]
  | [],_ :: _,_,h => by simp at h
  | _ :: _,[],_,h => by simp at h
theorem Aoj (he : ∀ a,(enc a).length = sz) {b : α} (hi : i < l.length) (tl : List AV) : setAt (l.flatMap enc ++ tl) (i * sz) (enc b) = some ((l.set i b).flatMap enc ++ tl) := by
 have h1 : l = l.take i ++ l[i] :: l.drop (i + 1) := by rw [← aw_ hi,c_]
 have h2 : l.set i b = l.take i ++ b :: l.drop (i + 1) := List.set_eq_take_append_cons_drop ▸ by rw [if_pos hi]
 have h3 : ((l.take i).flatMap enc).length = i * sz := by rw [Dd he,bn_,gw_ (ef_ hi)]
 have h4 : l.flatMap enc ++ tl = (l.take i).flatMap enc ++ enc l[i] ++ ((l.drop (i + 1)).flatMap enc ++ tl) := by
  refine (congrArg (fun k => List.flatMap enc k ++ tl) h1).trans ?_
  simp only [ct_,ca_,cc_]
 rw [h4,h2,← h3,Py (by rw [he,he])]
 simp only [ct_,ca_,cc_]
theorem Cj {zz : Option (List AV)} {k : IntKind} {m : Nat} {cap : Option Nat} (hi : elI E.P t = some (sz,by',zz)) (hx : Ak E J x = some (.sr a 0 sz m cap)) (hy : Ak E J y = some (.int k (.ofNat i))) (hm : i < m) :
  A0 E Rr (.indexAddr t x y) J U (.pr a (i * sz)) U := by
 have h := S3 (Rr := Rr) (U := U) hi hx hy (m := m) rfl rfl hm
 have e : Afu (.sr a 0 sz m cap) (i * sz) = .pr a (i * sz) := by show AV.pr a (0 + i * sz) = _; rw [bq_]
 rwa [e] at h
theorem Jn {u : α} {v : AV} {agg : Bool} {tl : List AV} (he : ∀ a,(enc a).length = sz) (hi : ldI E.P t = some (sz,agg)) (hx : Ak E J x = some (.pr a (i * sz))) (hg : U.get a = some (.cells (l.flatMap enc ++ tl))) (hu : l[i]? = some u) (hv : ∀ r,Jc sz agg (enc u ++ r) = some v) :
  A0 E Rr (.load t x) J U v U := by
 refine Ad (cs := (l.flatMap enc ++ tl).drop (i * sz)) hi hx (by simp only [Bk,Sto.cells,hg]) ?_
 have hi := (aa_.1 hu).1
 have h0 : i * sz <= (l.flatMap enc).length := by rw [Dd he]; exact dk_ _ (ef_ hi)
 rw [cm_ h0,Xv he hu,cc_]; exact hv _
theorem Rf {u : α} {v : AV} {agg : Bool} {tl : List AV} (he : ∀ a,(enc a).length = sz) (hi : ldI E.P t = some (sz,agg)) (hx : Ak E J x = some (.pr a (i * sz))) (hy : Ak E J y = some v) (hc : v.cellsN sz = some (enc u)) (hg : U.get a = some (.cells (l.flatMap enc ++ tl))) (hl : i < l.length) :
  A0 E Rr (.store t x y) J U Au (U.set a (.cells ((l.set i u).flatMap enc ++ tl))) :=
 Aw hi hx hy hc (by simp only [Sto.cells,hg]) (Aoj he hl tl)
theorem Af8 {zz : Option (List AV)} {k : IntKind} {m b : Nat} {lo : Option Operand} (hel : elI E.P t = some (sz,by',zz)) (hx : Ak E J x = some (.sr a 0 sz m none)) (h1 : Gp E J lo = some (some (.int k (.ofNat b)))) (hb : b <= m) :
  A0 E Rr (.slice t x lo none none) J U (.sr a (b * sz) sz (m - b) none) U := fun tm h => by
 obtain ⟨ti,e,te,k1,k2,k3,k4,k5,k6⟩ := Od hel;subst k4
 have hbd : Ci m none (some (.int k (.ofNat b))) none none = some (b,m,none) := by
  have h2 : Nat.ble b m = true := ap_ hb;have h3 : Nat.ble m m = true := ap_ nl;simp only [Ci,Ik,h2,Lf,h3,cond_true,cl_,Il]
 have e0 : opdO E tm none = none := rfl;simp only [opA,Az,k1,k2,k3,h.opd hx,h.opdO h1,e0,Lu,bf_,hbd,Ai,bq_]
theorem Me {zz : Option (List AV)} {k : IntKind} {m b : Nat} {hi : Option Operand} {cap : Option Nat} (hel : elI E.P t = some (sz,by',zz)) (hx : Ak E J x = some (.sr a 0 sz m cap)) (h1 : Gp E J hi = some (some (.int k (.ofNat b)))) (hb : b <= m) :
  A0 E Rr (.slice t x none hi none) J U (.sr a 0 sz b (Il cap 0)) U := fun tm h => by
 obtain ⟨ti,e,te,k1,k2,k3,k4,k5,k6⟩ := Od hel;subst k4
 have hbd : Ci m cap none (some (.int k (.ofNat b))) none = some (0,b,Il cap 0) := by
  have h2 : Nat.ble b m = true := ap_ hb;have h3 : Nat.ble 0 b = true := ap_ (bh_ _);simp only [Ci,Ik,h3,Lf,h2,cond_true,cl_]
 have e0 : opdO E tm none = none := rfl;simp only [opA,Az,k1,k2,k3,h.opd hx,h.opdO h1,e0,Lu,bf_,hbd,Ai,ew_,ev_,ed_]
theorem Akp {z : List AV} : ∀ n,(rep z n).length = n * z.length
 | 0 => by simp [rep]
 | n + 1 => by simp only [rep,ao_,Akp n,fv_]; omega
theorem Acr {z tl : List AV} {m b : Nat} {cap : Option Nat} (he : ∀ a,(enc a).length = sz) (hel : elI E.P t = some (sz,by',some z)) (hz : Nat.beq z.length sz = true) (hx : Ak E J x = some (.sr a (b * sz) sz m cap)) (hg : U.get a = some (.cells (l.flatMap enc ++ tl))) (hl : b + m = l.length) :
  A0 E Rr (.call ⟨.builtin .clear,#[x],#[t]⟩) J U Au (U.set a (.cells ((l.take b).flatMap enc ++ (rep z m ++ tl)))) := fun tm h => by
 obtain ⟨ti,e,te,k1,k2,k3,k4,k5,k6⟩ := Od hel;subst k4
 have h2 : l.flatMap enc ++ tl = (l.take b).flatMap enc ++ (l.drop b).flatMap enc ++ tl := by rw [← ct_,c_]
 have h3 : ((l.take b).flatMap enc).length = b * te.size := by rw [Dd he,bn_]; congr 1; omega
 have h4 : (rep z m).length = ((l.drop b).flatMap enc).length := by rw [Akp,Dd he,cu_,ac_ hz]; congr 1; omega
 have h5 := Py (p := (l.take b).flatMap enc) (v := tl) h4;rw [h3,← h2,cc_] at h5;simp only [opA,Az,k1,C8,k2,k3,k6,hz,h.opd hx,opds,Adv,bf_,Sto.cells,hg,h5]
end
def Own (U : Sto) (N : Nat) {α : Type} (enc : α -> List AV) (sz : Nat) (l : List α) (v : AV) : Prop :=
 (l = [] /\ (v = .nil (.slice none 0 0) ∨ v = .sv [] sz 0 (some 0))) ∨ ∃ a tl,N <= a /\ a < nx U /\ v = .sr a 0 sz l.length none /\ U.get a = some (.cells (l.flatMap enc ++ tl))
section
variable {E : Env} {J : Ae} {U U' τ : Sto} {Rr : Rec} {t ty n a i N : Nat} {x y : Operand} {α : Type} {enc : α -> List AV} {sz by' : Nat} {l m : List α} {v : AV}
theorem Own.nil : Own U N enc sz ([] : List α) (.nil (.slice none 0 0)) := .inl ⟨rfl,.inl rfl⟩
theorem Own.emp : Own U N enc sz ([] : List α) (.sv [] sz 0 (some 0)) := .inl ⟨rfl,.inr rfl⟩
theorem Own.lenA (h : Own U N enc sz l v) : lenA v = some l.length /\ Yb v = true := by
 rcases h with ⟨rfl,rfl | rfl⟩ | ⟨a,tl,_,_,rfl,_⟩ <;> exact ⟨rfl,rfl⟩
theorem Own.mono (h : Own U N enc sz l v) (hn : nx U <= nx U') (hg : ∀ a tl,v = .sr a 0 sz l.length none -> N <= a -> a < nx U -> U.get a = some (.cells (l.flatMap enc ++ tl)) -> U'.get a = U.get a) : Own U' N enc sz l v := by
 rcases h with h | ⟨a,tl,h1,h2,h3,h4⟩
 ·exact .inl h
 ·exact .inr ⟨a,tl,h1,by omega,h3,(hg a tl h3 h1 h2 h4).trans h4⟩
theorem Own.app (he : ∀ a,(enc a).length = sz) (hN : N <= nx U) (h : Own U N enc sz l v) (m : List α) (bz : (l.length + m.length) * (by' + 1) <= sizeLim) :
  ∃ v' U',Bm U sz by' v m.length (m.flatMap enc) = some (v',U') /\ Own U' N enc sz (l ++ m) v' /\ Below N U U' /\
   (∀ b,b < nx U -> (∀ c,v = .sr c 0 sz l.length none -> b ≠ c) -> U'.get b = U.get b) := by
 cases m with
 | nil =>
  refine ⟨v,U,?_,by simpa using h,fj_,fun _ _ _ => rfl⟩
  simp only [cs_,Bm]
  rcases h with ⟨_,rfl | rfl⟩ | ⟨a,tl,_,_,rfl,_⟩ <;> rfl
 | cons b m =>
  have hb : Nat.ble ((l.length + (b :: m).length) * (by' + 1)) sizeLim = true := ap_ bz
  have fresh : ∀ (c : List α) (τ : Sto),N <= nx τ -> Own (τ.new (.cells (c.flatMap enc))) N enc sz c (.sr (nx τ) 0 sz c.length none) := fun c τ hτ =>
   .inr ⟨nx τ,[],hτ,by rw [Af]; omega,rfl,by rw [ab_,if_pos rfl,bi_]⟩
  rcases h with ⟨rfl,rfl | rfl⟩ | ⟨a,tl,h1,h2,rfl,h3⟩
  ·have hb' : Nat.ble ((m.length + 1) * (by' + 1)) sizeLim = true := ap_ (by simpa using bz)
   refine ⟨.sr (nx U) 0 sz (b :: m).length none,U.new (.cells ((b :: m).flatMap enc)),?_,fresh _ _ hN,⟨by rw [Af]; omega,fun c hc => by rw [ab_,if_neg Om]⟩,fun c hc _ => by rw [ab_,if_neg Om]⟩
   simp only [at_,Bm,Ja,bq_,hb',cond_true,Ai,bg_]
  ·have hb' : Nat.ble ((m.length + 1) * (by' + 1)) sizeLim = true := ap_ (by simpa using bz)
   have h0 : Nat.ble (m.length + 1) 0 = false := rfl
   refine ⟨.sr (nx U) 0 sz (b :: m).length none,U.new (.cells ((b :: m).flatMap enc)),?_,fresh _ _ hN,⟨by rw [Af]; omega,fun c hc => by rw [ab_,if_neg Om]⟩,fun c hc _ => by rw [ab_,if_neg Om]⟩
   simp only [at_,Bm,bf_,h0,gd_,cl_,cond_true,Ja,bq_,hb',Ai,bg_]
  ·have c8 : U.cells a = some (l.flatMap enc ++ tl) := by unfold Sto.cells; rw [h3]
   have ck : C7 (l.length * sz) ((l.flatMap enc ++ tl).drop 0) = some (l.flatMap enc) := by
    have := Fk (l := l.flatMap enc) (r := tl)
    rwa [Dd he] at this
   simp only [at_] at hb
   refine ⟨.sr (nx U) 0 sz (l ++ b :: m).length none,(U.kill a).new (.cells (l.flatMap enc ++ (b :: m).flatMap enc)),?_,?_,⟨by rw [Af,Bn]; omega,fun c hc => ?_⟩,fun c hc hne => ?_⟩
   ·simp only [at_,Bm,bf_,cond_true,c8,ck,Ja,hb,Ai,Bn,ao_]
   ·rw [← ct_]
    have := fresh (l ++ b :: m) (U.kill a) (by rw [Bn]; exact hN)
    rwa [Bn] at this
   ·rw [ab_,Bn,if_neg Om,cp_,if_neg Om]
   ·rw [ab_,Bn,if_neg Om,cp_,if_neg (hne a rfl)]
abbrev ea_ := @Own.app
theorem Own.fz (he : ∀ a,(enc a).length = sz) (h : Own U N enc sz l v) (hτ : ∀ a,N <= a -> τ.get a = none) (hu : AV.unds (nx τ) (l.flatMap enc) = true) : Fz U τ v (slV enc sz l) := by
 rcases h with ⟨rfl,rfl | rfl⟩ | ⟨a,tl,h1,_,rfl,h3⟩
 ·exact .nils (fun q hq => by cases hq)
 ·exact .sv (fun q hq => by cases hq) .nil
 ·have ck : C7 (l.length * sz) ((l.flatMap enc ++ tl).drop 0) = some (l.flatMap enc) := by
   have := Fk (l := l.flatMap enc) (r := tl)
   rwa [Dd he] at this
  exact .sr h3 (hτ a h1) ck (fb_ hu)
def Aiw (U : Sto) (N : Nat) {α : Type} (enc : α -> List AV) (sz : Nat) (l : List α) (v : AV) : Prop := v = .sv (l.flatMap enc) sz l.length (some l.length) ∨ Own U N enc sz l v
theorem Aiw.app (he : ∀ a,(enc a).length = sz) (hN : N <= nx U) (h : Aiw U N enc sz l v) (m : List α) (bz : (l.length + m.length) * (by' + 1) <= sizeLim) :
  ∃ v' U',Bm U sz by' v m.length (m.flatMap enc) = some (v',U') /\ Aiw U' N enc sz (l ++ m) v' /\ Below N U U' /\
   (∀ b,b < nx U -> (∀ c,v = .sr c 0 sz l.length none -> b ≠ c) -> U'.get b = U.get b) := by
 rcases h with rfl | h
 ·cases m with
  | nil => exact ⟨_,U,rfl,.inl (by rw [bi_]),fj_,fun _ _ _ => rfl⟩
  | cons b m =>
   have hb : Nat.ble ((l.length + (m.length + 1)) * (by' + 1)) sizeLim = true := ap_ bz
   have h0 : Nat.ble (l.length + (m.length + 1)) l.length = false := by
    cases hh : Nat.ble (l.length + (m.length + 1)) l.length with
    | true => exact absurd (aj_ hh) Om
    | false => rfl
   refine ⟨.sr (nx U) 0 sz (l ++ b :: m).length none,U.new (.cells ((l ++ b :: m).flatMap enc)),?_,.inr (.inr ⟨nx U,[],hN,by rw [Af]; omega,rfl,by rw [ab_,if_pos rfl,bi_]⟩),⟨by rw [Af]; omega,fun c hc => by rw [ab_,if_neg Om]⟩,fun c hc _ => by rw [ab_,if_neg Om]⟩
   simp only [at_,Bm,bf_,h0,gd_,cl_,cond_true,Ja,hb,Ai,ao_,ct_]
 ·obtain ⟨v',U',h1,h2,h3,h4⟩ := h.app he hN m bz;exact ⟨v',U',h1,.inr h2,h3,h4⟩
theorem Aiw.fz (he : ∀ a,(enc a).length = sz) (h : Aiw U N enc sz l v) (hτ : ∀ a,N <= a -> τ.get a = none) (hu : AV.unds (nx τ) (l.flatMap enc) = true) : Fz U τ v (slV enc sz l) := by
 rcases h with rfl | h
 ·exact .sv (fun q hq => by cases hq) (fb_ hu)
 ·exact h.fz he hτ hu
theorem WFS.none (hw : WFS U) {a : Nat} (h : nx U <= a) : U.get a = none := by
 cases hg : U.get a with
 | none => rfl
 | some O => exact absurd (hw a O hg).1 Om
theorem Vl (he : ∀ a,(enc a).length = sz) (U : Sto) (l : List α) : I9 U sz (slV enc sz l) l.length = some (l.flatMap enc) := by
 have := Fk (l := l.flatMap enc) (r := []);rw [Dd he,bi_] at this;exact this
end
def Aix (P : Program) (t : Nat) : Bool := match A4 P t with | some ti => (match ti.desc with | .int _ => true | _ => false) | none => false
section
variable {E : Env} {J : Ae} {U U' τ : Sto} {Rr : Rec} {t t2 ty n a i N : Nat} {x y : Operand} {sz by' : Nat} {v : AV} {A B : AO}
theorem Xx (hi : Oc E.P t = true) (hx : Ak E J x = some (.nil (.slice none 0 0))) : A0 E Rr (.call ⟨.builtin .cap,#[x],#[t]⟩) J U (.int .i64 (.ofNat 0)) U := fun tm h => by
 unfold Oc at hi
 split at hi
 ·rename_i ti hti
  split at hi
  ·rename_i e hd
   simp only [opA,Az,hti,C8,hd,h.opd hx,opds,Jk]
   rfl
  ·cases hi
 ·cases hi
theorem Akq {zz : Option (List AV)} {hi : Option Operand} {k : IntKind} (hel : elI E.P t = some (sz,by',zz)) (hx : Ak E J x = some (.nil (.slice none 0 0))) (h1 : Gp E J hi = some (some (.int k (.ofNat 0)))) :
  A0 E Rr (.slice t x none hi none) J U (.nil (.slice none 0 0)) U := fun tm h => by
 obtain ⟨ti,e,te,k1,k2,k3,k4,k5,k6⟩ := Od hel;have e0 : opdO E tm none = none := rfl;have hb : Ci 0 (some 0) none (some (.int k (.ofNat 0))) none = some (0,0,some 0) := rfl;simp only [opA,Az,k1,k2,k3,h.opd hx,h.opdO h1,e0,Lu,hb]
theorem Af9 {z : List AV} (hi : elI E.P t = some (sz,by',some z)) (hl : Nat.beq z.length sz = true) (h2 : Aix E.P t2 = true) (hx : Ak E J x = some (.nil (.slice none 0 0))) (hy : Ak E J y = some (.int .i64 (.ofNat (n + 1)))) (hn : (n + 1) * (by' + 1) <= sizeLim) :
  A0 E Rr (.call ⟨.builtin .append,#[x,y],#[t,t2]⟩) J U (.sr (nx U) 0 sz (n + 1) none) (U.new (.cells (rep z (n + 1)))) := fun tm h => by
 obtain ⟨ti,e,te,h1,hd,h3,h4,h5,h6⟩ := Od hi;subst h4 h5;have hb : Nat.ble ((n + 1) * (te.bytes + 1)) sizeLim = true := ap_ hn;unfold Aix at h2
 split at h2
 ·rename_i t2i ht2
  split at h2
  ·rename_i k hd2
   simp only [opA,Az,h1,C8,hd,h3,ht2,h6,hl,hd2,h.opd hx,h.opd hy,opds,Se,hb,cond_true,Bm,Ja,bq_,Ai,bg_]
  ·cases h2
 ·cases h2
theorem Ar5 : ((U.new A).new B).get (nx U) = some A := by rw [ab_,if_neg (by rw [Af]; omega),ab_,if_pos rfl]
theorem get2b : ((U.new A).new B).get (nx (U.new A)) = some B := by rw [ab_,if_pos rfl]
theorem Aga {cs : List AV} (h : U.get a = some (.cells cs)) : U.cells a = some cs := by unfold Sto.cells; rw [h]
end
def Wp (U τ : Sto) : Prop := ∀ a O,U.get a = some O -> τ.get a = some O
theorem Wp.refl {U : Sto} : Wp U U := fun _ _ h => h
theorem Wp.below {U τ : Sto} (hw : WFS U) (h : Below (nx U) U τ) : Wp U τ := fun a O ha => (h.2 a (hw a O ha).1).trans ha
def rdOk : Op -> Bool
 | .load .. => true
 | .lookup .. => true
 | _ => false
theorem Aml {U τ : Sto} (h : Wp U τ) {a : Nat} {vs : List AV} (hc : U.cells a = some vs) : τ.cells a = some vs := by
 unfold Sto.cells at hc ⊢
 split at hc
 ·rename_i us hg; rw [h _ _ hg]; exact hc
 ·cases hc
theorem Amm {U τ U₁ : Sto} {ti : TI} {x v : AV} (h : Wp U τ) (hs : L6 ti x U = some (v,U₁)) : L6 ti x τ = some (v,τ) := by
 unfold L6 at hs ⊢
 split at hs
 ·split at hs
  ·rename_i vs hvs
   split at hs
   ·rename_i u hu; cases hs; simp only [Aml h hvs,hu]
   ·cases hs
  ·cases hs
 ·split at hs
  ·rename_i u hu; cases hs; simp only [hu]
  ·cases hs
 ·cases hs
theorem Agb {U τ U₁ : Sto} {kt : Nat} {key : Option Key} {z m v : AV} {ok : Bool} (h : Wp U τ) (hs : Jw kt key z ok m U = some (v,U₁)) : Jw kt key z ok m τ = some (v,τ) := by
 unfold Jw at hs ⊢
 split at hs
 ·split at hs
  ·split at hs
   ·rename_i kt' es ver hg
    rw [h _ _ hg];simp only
    split at hs
    ·rename_i hb
     try simp only [hb]
     split at hs <;> rename_i hf <;> cases hs <;> simp only [hb,hf]
    ·cases hs
   ·cases hs
  ·cases hs; rfl
  ·cases hs
 ·cases hs
theorem Aok {E : Env} {U τ U₁ : Sto} {op : Op} {tm : Tr AV} {v : AV} (hr : rdOk op = true) (h : Wp U τ) (hs : Az E op tm U = some (v,U₁)) : ∃ τ₁,Az E op tm τ = some (v,τ₁) := by
 unfold rdOk at hr
 split at hr
 ·simp only [Az] at hs ⊢
  split at hs
  ·rename_i ti hti; exact ⟨τ,Amm h hs⟩
  ·cases hs
 ·simp only [Az] at hs ⊢
  split at hs
  ·rename_i ti hti
   split at hs
   ·rename_i kt et hd
    try simp only [hd]
    split at hs
    ·rename_i te hte
     try simp only [hd,hte]
     split at hs
     ·rename_i z hz
      try simp only [hd,hte,hz]
      exact ⟨τ,Agb h hs⟩
     ·cases hs
    ·cases hs
   ·cases hs
  ·cases hs
 ·cases hr
def Iw (E : Env) (m : Nat) : List Ann -> List Oper -> Bool -> Bool
 | a :: az,o :: os,late => (match a.cls with
  | .read => !late && Nat.ble a.hi m && rdOk o.op
  | _ => true) && Iw E m az os (late || Bz (Bl E o.op))
 | _,_,_ => true
theorem Ox {E : Env} {m : Nat} : ∀ {az : List Ann} {os : List Oper} {late : Bool},Iw E m az os late = true -> ∀ (j : Nat) (a : Ann) (o : Oper),az[j]? = some a -> os[j]? = some o -> a.cls = .read -> late = false /\ cnt E os j = 0 /\ a.hi <= m /\ rdOk o.op = true
 | a :: az,o :: os,late,h,0,a',o',ha,ho,hc => by
  simp at ha ho; subst ha ho
  simp only [Iw,hc,af_] at h
  exact ⟨by simpa using h.1.1.1,rfl,aj_ h.1.1.2,h.1.2⟩
 | a :: az,o :: os,late,h,j + 1,a',o',ha,ho,hc => by
  simp only [Iw,af_] at h
  obtain ⟨h1,h2,h3⟩ := Ox h.2 j a' o' (by simpa using ha) (by simpa using ho) hc
  simp only [bt_] at h1;refine ⟨h1.1,?_,h3⟩;simp only [cnt,h1.2,h2]
  simp
 | [],_,_,_,_,_,_,h,_,_ => by simp at h
 | _ :: _,[],_,_,_,_,_,_,h,_ => by simp at h
section
variable {E : Env} {nt B : Nat} {df : List (Nat × List AV)} {Q : Cu} {Rr : Rec} {J : Ae} {U : Sto}
def KDX (Q : Cu) (m : Nat) (U : Sto) : KD := fun J' U' eps _ => (∀ e ∈ eps.reverse.take (m + 1),Wp U e) /\ Q .normal J' U'
theorem Aq2 (m : Nat) {id : Nat} {ops : Array Oper} {anns : List Ann} (hm : E.P.follows .mixedOrders = true) (hR : Be E Rr) (ha : Ko E ops = some anns) (hp : Iw E m anns ops.toList false = true)
  (h : TD E nt Rr ops.toList ops.toList (KDX Q m U) J U [U] []) : T E nt df B (.region id ops true) Q J U := by
 intro C w tm a ht st hB;obtain ⟨c1,c2,c3,c4⟩ := K3 ha;obtain ⟨d,k1,k2,k3,J',log',k4,k5,k6,k7⟩ := h tm df [] ht trivial;refine wp_mono (Acj hm hR st c1 c2 c3 k1 fun j o t v ho hl hcl hg Uk hU => ?_) fun e a' w' he => ?_
 ·have c7 := H5 (E := E) (b := (Region.before ops).toList) (effs := Eh E ops.toList 0) ops.toList 0 j o (by simpa using ho)
  rw [← c4] at c7;simp only [bq_] at c7
  obtain ⟨_,q1,q2,q3⟩ := Ox hp j _ o c7 (by simpa using ho) hcl
  simp only [Kj] at q2
  have bh : Wp U Uk := by
   refine k6 Uk ?_;obtain ⟨i,hi⟩ := dj_.1 hU;rw [f_] at hi
   split at hi
   ·rename_i hlt
    rw [fa_] at hi;exact dj_.2 ⟨_,(List.getElem?_take_of_lt Om).trans hi⟩
   ·cases hi
  obtain ⟨log,eps,lex,g2,g3,g4,g5⟩ := Mc k1;simp only [eo_,bg_,dn_] at g2 g3;obtain ⟨x1,x2,x3,x4,x5⟩ := Ze lex
  obtain ⟨t',v',t₁,U₀,U₁,y1,y2,y3,y4,y5,y6⟩ := x5 j o (by simpa using ho)
  rw [g2] at hl;rw [hl] at y1; cases y1
  have h0 : U₀ = U := by
   rw [q1] at y3
   simpa using y3.symm
  subst h0
  have hne : Bz (Bl E o.op) = false := by rw [hcl]; rfl
  rcases y5 with ⟨z1,z2⟩ | ⟨z1,z2⟩
  ·rw [K0 hne] at z2; exact Aok q3 bh z2
  ·rw [z1] at hg; cases hg
 ·obtain ⟨y,hy,C',h1,h2,h3⟩ := he;rw [am_] at hy;subst hy;obtain ⟨⟨tm',nt',df',U'⟩,eps',dl'⟩ := d;simp only at k2 k3;subst k2 k3;exact ⟨.normal,tm',J',U',C',h1,k4,k7,h2,ax_ hB h3.next,h3.base hB⟩
theorem Te {o : AO} (hw : WFS U) : Wp U (U.new o) := Wp.below hw (Below.rfl'.new nl o)
def newQ (d : Nat) (z cs : List AV) (L J : Ae) (τ : Sto) : Cu
 | .normal => fun J' U' => Lw L J' /\ H7 J J' /\ Ae.at J' d = some (.pr (nx τ) 0) /\ U' = (τ.new (.cells z)).set (nx τ) (.cells cs)
 | _ => fun _ _ => False
theorem M6 [Aej E] {x y : Code} (d : Nat) (z cs : List AV) (L : Ae) (hu : AV.unds (nx U) cs = true) (hL : AV.unds (nx U) (L.map (·.2)) = true) (h : WFS U -> T E nt [] B x (newQ d z cs L J U) J U) (k : T E nt [] B y Q ((d,.pv cs) :: L ++ J) U) : T E nt [] B (.seq x y) Q J U := by
 intro C w tm a ht st hB;have hwf := st.sim.wfs;have fo : ∀ i u,Ae.at J i = some u -> AV.und (nx U) u = true := fun i u hu => R.und _ _ (st.tmps i u (ht i u hu))
 have hLu : ∀ (L : Ae),AV.unds (nx U) (L.map (·.2)) = true -> ∀ i u,Ae.at L i = some u -> AV.und (nx U) u = true := by
  intro L
  induction L with
  | nil => intro _ i u hh; cases hh
  | cons p r ih =>
   obtain ⟨j,v⟩ := p;intro hL i u hh;simp only [ck_,AV.unds,af_] at hL;simp only [Ae.at] at hh;cases hb : Nat.beq j i with
   | true => rw [hb] at hh; cases hh; exact hL.1
   | false => rw [hb] at hh; exact ih hL.2 i u hh
 refine Acm ((h hwf).mono fun e J' U' hq => ?_) C w tm a ht st hB
 cases e with
 | exit _ => exact hq.elim
 | ret => exact hq.elim
 | normal =>
  obtain ⟨h1,h2,h3,rfl⟩ := hq
  have hf : D5 ((U.new (.cells z)).set (nx U) (.cells cs)) U := ag_ hwf (by rw [Ac,Af]; exact eu_ _) fun b hb => by rw [a_,if_neg Om,ab_,if_neg Om]
  intro C₁ w₁ tm₁ a₁ ht₁ st₁ hB₁;refine wp_mono (k (C₁.keep U) w₁ _ a₁ (Ov _) (st₁.frz ht₁ hf fun i u hi => ?_) hB) fun e a' w' he => he.from (fc_ C₁ U B w₁)
  simp only [az_,Ae.at] at hi;cases hb : Nat.beq d i with
  | true =>
   rw [hb] at hi; cases hi;have := ac_ hb; subst this
   exact ⟨_,h3,.pr (vs := cs) (by rw [a_,if_pos rfl]) (hwf.none nl) (fb_ hu)⟩
  | false =>
   rw [hb] at hi;simp only [cond_false] at hi;rw [ga_] at hi;cases hc : Ae.at L i with
   | some u' => rw [hc] at hi; cases hi; exact ⟨_,h1.at i _ hc,.same (hLu L hL i _ hc)⟩
   | none => rw [hc] at hi; exact ⟨_,h2 i u hi,.same (fo i u hi)⟩
end
section
variable {E : Env} {nt B : Nat} {df : List (Nat × List AV)} {Q : Cu} {Rr : Rec} {ops r : List Oper} {K : KD} {J : Ae} {U τ : Sto} {eps : List Sto} {log : List (Ae × AV)}
theorem TD_opF {op : Op} {dst : Option Nat} {ty : Nat} {pos : String} {after : Array Edge} {v : AV} {U₁ : Sto} (he : Bz (Bl E op) = false) (hd : Ca nt dst = true) (h : A0 E Rr op J U v U₁)
  (k : TD E nt Rr ops r K (Dz dst v J) U eps ((J,v) :: log)) : TD E nt Rr ops ({ dst := dst,op := op,type := ty,pos := pos,after := after,guard := none } :: r) K J U eps log := Akm (b := false) he hd h k
theorem TD_opT {op : Op} {dst : Option Nat} {ty : Nat} {pos : String} {after : Array Edge} {v : AV} {U₁ : Sto} (he : Bz (Bl E op) = true) (hd : Ca nt dst = true) (h : A0 E Rr op J U v U₁)
  (k : TD E nt Rr ops r K (Dz dst v J) U₁ (U₁ :: eps) ((J,v) :: log)) : TD E nt Rr ops ({ dst := dst,op := op,type := ty,pos := pos,after := after,guard := none } :: r) K J U eps log := Akm (b := true) he hd h k
theorem TD_onF {o oj : Oper} {v : AV} {U₁ : Sto} {j d : Nat} {b want : Bool} (hg : o.guard = some (j,want)) (hj : ops[j]? = some oj) (hdj : oj.dst = some d) (hb : Ae.at J d = some (.bool b)) (hw : cond b want (!want) = true)
  (he : Bz (Bl E o.op) = false) (hd : Ca nt o.dst = true) (h : A0 E Rr o.op J U v U₁)
  (k : TD E nt Rr ops r K (Dz o.dst v J) U eps ((J,v) :: log)) : TD E nt Rr ops (o :: r) K J U eps log := Ow (e := false) hg hj hdj hb hw he hd h k
theorem M7 {o oj : Oper} {v : AV} {U₁ : Sto} {j d : Nat} {b want : Bool} (hg : o.guard = some (j,want)) (hj : ops[j]? = some oj) (hdj : oj.dst = some d) (hb : Ae.at J d = some (.bool b)) (hw : cond b want (!want) = true)
  (he : Bz (Bl E o.op) = true) (hd : Ca nt o.dst = true) (h : A0 E Rr o.op J U v U₁)
  (k : TD E nt Rr ops r K (Dz o.dst v J) U₁ (U₁ :: eps) ((J,v) :: log)) : TD E nt Rr ops (o :: r) K J U eps log := Ow (e := true) hg hj hdj hb hw he hd h k
theorem TD_offF {o oj : Oper} {j d : Nat} {b want : Bool} (hg : o.guard = some (j,want)) (hj : ops[j]? = some oj) (hdj : oj.dst = some d) (hb : Ae.at J d = some (.bool b)) (hw : cond b want (!want) = false)
  (he : Bz (Bl E o.op) = false) (hd : Ca nt o.dst = true)
  (k : TD E nt Rr ops r K (Dz o.dst Au J) U eps ((J,Au) :: log)) : TD E nt Rr ops (o :: r) K J U eps log := Rd (e := false) hg hj hdj hb hw he hd k
theorem Ln {o oj : Oper} {j d : Nat} {b want : Bool} (hg : o.guard = some (j,want)) (hj : ops[j]? = some oj) (hdj : oj.dst = some d) (hb : Ae.at J d = some (.bool b)) (hw : cond b want (!want) = false)
  (he : Bz (Bl E o.op) = true) (hd : Ca nt o.dst = true)
  (k : TD E nt Rr ops r K (Dz o.dst Au J) U (U :: eps) ((J,Au) :: log)) : TD E nt Rr ops (o :: r) K J U eps log := Rd (e := true) hg hj hdj hb hw he hd k
end
theorem Zq {N M : Nat} (h : N <= M) {es : List (Key × AV)} (k : Ih N es = true) : Ih M es = true := by
 unfold Ih at k ⊢;rw [da_] at k ⊢;exact fun x hx => AV.und_mono h x.2 (k x hx)
theorem Agc {N M : Nat} (h : N <= M) : ∀ {c : Option (Key × AV)},Ain N c = true -> Ain M c = true
 | none,_ => rfl
 | some x,k => AV.und_mono h x.2 k
theorem AO.und_mono {N M : Nat} (h : N <= M) : ∀ {O : AO},AO.und N O = true -> AO.und M O = true
 | .cells vs,k => AV.unds_mono h vs k
 | .map _ es _,k => Zq h k
 | .iter none _ _ _,_ => rfl
 | .iter (some r) _ _ _,k => Ce (al_ (F6 k) h)
 | .stamp _ _ _,k => Ce (al_ (F6 k) h)
 | .loop _,_ => rfl
theorem WFS.new {U : Sto} (hw : WFS U) {X : AO} (hX : AO.und (nx U + 1) X = true) (hI : Zg (U.new X) X) : WFS (U.new X) := by
 intro a O hg;rw [ab_] at hg;rw [Af]
 split at hg
 ·rename_i ha; cases hg; subst ha; exact ⟨bj_ _,hX,hI⟩
 ·obtain ⟨h1,h2,h3⟩ := hw a O hg;refine ⟨Nat.lt_succ_of_lt h1,AO.und_mono (eu_ _) h2,?_⟩;cases O with
  | iter m ver left cur =>
   cases m with
   | none => trivial
   | some r =>
    intro kt es hr;have hlt : r < nx U := F6 h2;rw [ab_,if_neg Om] at hr;obtain ⟨k1,k2⟩ := h3 kt es hr;rw [Af];exact ⟨Zq (eu_ _) k1,Agc (eu_ _) k2⟩
  | cells _ => trivial
  | map _ _ _ => trivial
  | stamp _ _ _ => trivial
  | loop _ => trivial
theorem D5.newMap {U τ : Sto} {kt ver : Nat} {es : List (Key × AV)} (hw : WFS U) (hb : Below (nx U) U τ) (hg : τ.get (nx U) = some (.map kt es ver)) (hn : nx U < nx τ) (hu : Ih (nx U + 1) es = true) : D5 τ (U.new (.map kt es ver)) := by
 refine ag_ (hw.new hu trivial) (by rw [Af]; omega) fun a ha => ?_
 rw [Af] at ha;rw [ab_]
 split
 ·rename_i h; subst h; exact hg
 ·exact hb.2 a Om
def aP (i j : Nat) : Ann := ⟨.pure,i,j⟩
def aR (i j : Nat) : Ann := ⟨.read,i,j⟩
def aE (i j : Nat) : Ann := ⟨.eff,i,j⟩
theorem sb {J J' : Ae} (h : H7 J' J := by repeat (first | exact .refl | refine .cons rfl ?_)) : H7 J' J := h
section
variable {E : Env} {nt B : Nat} {df : List (Nat × List AV)} {Q : Cu} {J : Ae} {U : Sto} {K : Ae -> Sto -> Prop}
theorem O1 {ops r : List Oper} {op : Op} {dst : Option Nat} {ty : Nat} {pos : String} {after : Array Edge} {v : AV} {U₁ : Sto} (h : A0 E (fun _ _ _ => none) op J U v U₁)
  (k : TO E nt df B ops r K (Dz dst v J) U₁) (hn : F7 op = true := by exact rfl) (hd : Ca nt dst = true := by exact rfl) : TO E nt df B ops ({ dst := dst,op := op,type := ty,pos := pos,after := after,guard := none } :: r) K J U := Zh noR hn hd h k
theorem OM {ops r : List Oper} {x : Operand} {dst : Option Nat} {ty : Nat} {pos : String} {after : Array Edge} {v : AV} (h : Ak E J x = some v)
  (k : TO E nt df B ops r K (Dz dst v J) U) (hd : Ca nt dst = true := by exact rfl) : TO E nt df B ops ({ dst := dst,op := .move x,type := ty,pos := pos,after := after,guard := none } :: r) K J U := Zh noR rfl hd (Al h) k
theorem OA {ops r : List Oper} {x : Operand} {dst : Option Nat} {ty : Nat} {pos : String} {after : Array Edge} {v : AV} (h : Ak E J x = some v)
  (k : TO E nt df B ops r K (Dz dst v J) U) (hd : Ca nt dst = true := by exact rfl) : TO E nt df B ops ({ dst := dst,op := .assign x,type := ty,pos := pos,after := after,guard := none } :: r) K J U := Zh noR rfl hd (Fi h) k
theorem Of {ops r : List Oper} {o oj : Oper} {j d : Nat} {b b' want : Bool} (hgb : b = b') (k : TO E nt df B ops r K (Dz o.dst Au J) U) (hg : o.guard = some (j,want) := by exact rfl) (hj : ops[j]? = some oj := by exact rfl) (hdj : oj.dst = some d := by exact rfl) (hb : Ae.at J d = some (.bool b) := by exact rfl) (hw : cond b' want (!want) = false := by exact rfl)
  (hd : Ca nt o.dst = true := by exact rfl) : TO E nt df B ops (o :: r) K J U := Ra hg hj hdj hb (by rw [hgb]; exact hw) hd k
theorem On {ops r : List Oper} {o oj : Oper} {v : AV} {U₁ : Sto} {j d : Nat} {b b' want : Bool} (hgb : b = b') (h : A0 E (fun _ _ _ => none) o.op J U v U₁) (k : TO E nt df B ops r K (Dz o.dst v J) U₁) (hg : o.guard = some (j,want) := by exact rfl) (hj : ops[j]? = some oj := by exact rfl) (hdj : oj.dst = some d := by exact rfl) (hb : Ae.at J d = some (.bool b) := by exact rfl) (hw : cond b' want (!want) = true := by exact rfl)
  (hn : F7 o.op = true := by exact rfl) (hd : Ca nt o.dst = true := by exact rfl) : TO E nt df B ops (o :: r) K J U := Zj hg hj hdj hb (by rw [hgb]; exact hw) noR hn hd h k
theorem Ou {ops r : List Oper} {o oj : Oper} {j d : Nat} {want : Bool} (k : TO E nt df B ops r K (Dz o.dst Au J) U) (hg : o.guard = some (j,want) := by exact rfl) (hj : ops[j]? = some oj := by exact rfl) (hdj : oj.dst = some d := by exact rfl) (hb : Ae.at J d = some Au := by exact rfl) (hd : Ca nt o.dst = true := by exact rfl) : TO E nt df B ops (o :: r) K J U := Aqw hg hj hdj hb hd k
theorem DF {Rr : Rec} {ops r : List Oper} {Kd : KD} {eps : List Sto} {log : List (Ae × AV)} {op : Op} {dst : Option Nat} {ty : Nat} {pos : String} {after : Array Edge} {v : AV} {U₁ : Sto} (h : A0 E Rr op J U v U₁)
  (k : TD E nt Rr ops r Kd (Dz dst v J) U eps ((J,v) :: log)) (he : Bz (Bl E op) = false := by exact rfl) (hd : Ca nt dst = true := by exact rfl) : TD E nt Rr ops ({ dst := dst,op := op,type := ty,pos := pos,after := after,guard := none } :: r) Kd J U eps log := Akm (b := false) he hd h k
theorem DT {Rr : Rec} {ops r : List Oper} {Kd : KD} {eps : List Sto} {log : List (Ae × AV)} {op : Op} {dst : Option Nat} {ty : Nat} {pos : String} {after : Array Edge} {v : AV} {U₁ : Sto} (h : A0 E Rr op J U v U₁)
  (k : TD E nt Rr ops r Kd (Dz dst v J) U₁ (U₁ :: eps) ((J,v) :: log)) (he : Bz (Bl E op) = true := by exact rfl) (hd : Ca nt dst = true := by exact rfl) : TD E nt Rr ops ({ dst := dst,op := op,type := ty,pos := pos,after := after,guard := none } :: r) Kd J U eps log := Akm (b := true) he hd h k
theorem Bb {fn : Func} {J' : Ae} {vs : List AV} {P : AV -> Prop} (hw : WFS U) (hr : Tb E J' U fn.results.toList = some vs) (h : P (Wa vs)) (hu : AV.und (nx U) (Wa vs) = true := by exact rfl) : Wo E fn (nx U) (fun v τ => P v /\ τ = U) J' U :=
 ⟨vs,hr,Wa vs,U,ag_ hw nl (fun _ _ => rfl),nl,.same hu,h,rfl⟩
theorem Dx {Rr : Rec} {ops r : List Oper} {Kd : KD} {eps : List Sto} {log : List (Ae × AV)} {o oj : Oper} {j d : Nat} {b want : Bool} (hg : o.guard = some (j,want)) (hj : ops[j]? = some oj) (hdj : oj.dst = some d) (hb : Ae.at J d = some (.bool b)) (hw : cond b want (!want) = false)
  (k : TD E nt Rr ops r Kd (Dz o.dst Au J) U eps ((J,Au) :: log)) (he : Bz (Bl E o.op) = false := by exact rfl) (hd : Ca nt o.dst = true := by exact rfl) : TD E nt Rr ops (o :: r) Kd J U eps log := Rd (e := false) hg hj hdj hb hw he hd k
theorem Dn {Rr : Rec} {ops r : List Oper} {Kd : KD} {eps : List Sto} {log : List (Ae × AV)} {o oj : Oper} {v : AV} {U₁ : Sto} {j d : Nat} {b want : Bool} (hg : o.guard = some (j,want)) (hj : ops[j]? = some oj) (hdj : oj.dst = some d) (hb : Ae.at J d = some (.bool b)) (hw : cond b want (!want) = true)
  (h : A0 E Rr o.op J U v U₁) (k : TD E nt Rr ops r Kd (Dz o.dst v J) U eps ((J,v) :: log)) (he : Bz (Bl E o.op) = false := by exact rfl) (hd : Ca nt o.dst = true := by exact rfl) : TD E nt Rr ops (o :: r) Kd J U eps log := Ow (e := false) hg hj hdj hb hw he hd h k
theorem Du {Rr : Rec} {ops r : List Oper} {Kd : KD} {eps : List Sto} {log : List (Ae × AV)} {o oj : Oper} {j d : Nat} {want : Bool} (k : TD E nt Rr ops r Kd (Dz o.dst Au J) U eps ((J,Au) :: log)) (hg : o.guard = some (j,want) := by exact rfl) (hj : ops[j]? = some oj := by exact rfl) (hdj : oj.dst = some d := by exact rfl) (hb : Ae.at J d = some Au := by exact rfl)
  (he : Bz (Bl E o.op) = false := by exact rfl) (hd : Ca nt o.dst = true := by exact rfl) : TD E nt Rr ops (o :: r) Kd J U eps log := Xw (e := false) hg hj hdj hb he hd k
end
section
open Go Go.Proofs
instance : Aej Ew := ⟨fun g cs h => by
 have h : glW g = some cs := h;unfold glW at h
 split at h
 ·cases h; rfl
 ·cases h⟩
theorem An {f : Nat} {fn : Func} {c : Code} {args : List AV} {U : Sto} {Post : AV -> Sto -> Prop} (hfn : Tryz.prog.funcs[f]? = some fn) (hc : fn.body = some c) (hle : Nat.ble args.length fn.ntmps = true)
  (h : WFS U -> AV.unds (nx U) args = true -> T Ew fn.ntmps [] (nx U) c (Aiq (Wo Ew fn (nx U) Post)) (E9 args 0) U) : Ao Ew f args U Post :=
 callTo hfn (Oh f fn hfn) hc hle h
end
section
open Go Go.Proofs
theorem Kr {p : Prop} (h : p := by kernel_rfl) : p := h
theorem SL {p : Prop} (h : p := by repeat (first | exact trivial | refine ⟨rfl,?_⟩)) : p := h
class Ld (t : Nat) (s : outParam Nat) (g : outParam Bool) : Prop where
 h : ldI Ew.P t = some (s,g) := by kernel_rfl
class Fd (t i : Nat) (o s : outParam Nat) (g : outParam Bool) : Prop where
 h : fdI Ew.P t i = some (o,s,g) := by kernel_rfl
class Sl (t : Nat) : Prop where
 h : Oc Ew.P t = true := by kernel_rfl
class Ok (t : Nat) : Prop where
 h : okI Ew.P t = true := by kernel_rfl
class El (t : Nat) (s b : outParam Nat) (z : outParam (Option (List AV))) : Prop where
 h : elI Ew.P t = some (s,b,z) := by kernel_rfl
class Zi (t : Nat) (z : outParam (List AV)) : Prop where
 h : zI Ew.P t = some z := by kernel_rfl
class Bd (t : Nat) (z : outParam (List AV)) (l : outParam (List (Nat × Nat))) : Prop where
 h : bdI Ew.P t = some (z,l) := by kernel_rfl
theorem stZ : Dy Ew.P 9 = true := by kernel_rfl
theorem ldC {t s : Nat} {g : Bool} [i : Ld t s g] : ldI Ew.P t = some (s,g) := i.h
theorem fdC {t i o s : Nat} {g : Bool} [k : Fd t i o s g] : fdI Ew.P t i = some (o,s,g) := k.h
theorem slC {t : Nat} [i : Sl t] : Oc Ew.P t = true := i.h
theorem okC {t : Nat} [i : Ok t] : okI Ew.P t = true := i.h
theorem elC {t s b : Nat} {z : Option (List AV)} [i : El t s b z] : elI Ew.P t = some (s,b,z) := i.h
theorem ziC {t : Nat} {z : List AV} [i : Zi t z] : zI Ew.P t = some z := i.h
theorem bdC {t : Nat} {z : List AV} {l : List (Nat × Nat)} [i : Bd t z l] : bdI Ew.P t = some (z,l) := i.h
section
variable {nt B : Nat} {df : List (Nat × List AV)} {Q : Cu} {J : Ae} {U : Sto} {K : Ae -> Sto -> Prop} {Rr : Rec}
def anO (E : Env) (ops : Array Oper) (f : List Ann -> Bool) : Bool := match Ko E ops with | some l => f l | none => false
theorem Aem {E : Env} {ops : Array Oper} {f : List Ann -> Bool} (h : anO E ops f = true) : ∃ l,Ko E ops = some l /\ f l = true := by
 unfold anO at h
 split at h
 ·exact ⟨_,by assumption,h⟩
 ·cases h
theorem XI {id : Nat} {ops : Array Oper} {l : List (Nat × List AV × Sto × AV × Sto)} (hk : Af4 Ew l) (h : TD Ew nt (Dl l) ops.toList ops.toList (KDI Q U) J U [U] []) (ha : anO Ew ops (fun _ => true) = true := by kernel_rfl) : T Ew nt df B (.region id ops true) Q J U := by
 obtain ⟨_,h1,_⟩ := Aem ha;exact Aq0 E8 (Da hk) h1 h
theorem X0 {id : Nat} {ops : Array Oper} (h : TD Ew nt (fun _ _ _ => none) ops.toList ops.toList (KD0 Q U) J U [U] []) (ha : anO Ew ops (fun _ => Akn Ew ops.toList) = true := by kernel_rfl) : T Ew nt df B (.region id ops true) Q J U := by
 obtain ⟨_,h1,h2⟩ := Aem ha;exact Aqy E8 h1 h2 h
theorem XS {id : Nat} {ops : Array Oper} {l : List (Nat × List AV × Sto × AV × Sto)} (hk : Af4 Ew l) (h : TD Ew nt (Dl l) ops.toList ops.toList (KDS Q) J U [U] []) (ha : anO Ew ops (fun a => Pw Ew a ops.toList 0) = true := by kernel_rfl) : T Ew nt df B (.region id ops true) Q J U := by
 obtain ⟨_,h1,h2⟩ := Aem ha;exact Aqz E8 (Da hk) h1 h2 h
theorem XX (m : Nat) {id : Nat} {ops : Array Oper} {l : List (Nat × List AV × Sto × AV × Sto)} (hk : Af4 Ew l) (h : TD Ew nt (Dl l) ops.toList ops.toList (KDX Q m U) J U [U] []) (ha : anO Ew ops (fun a => Iw Ew m a ops.toList false) = true := by kernel_rfl) : T Ew nt df B (.region id ops true) Q J U := by
 obtain ⟨_,h1,h2⟩ := Aem ha;exact Aq2 m E8 (Da hk) h1 h2 h
theorem TAn (n : Nat) {b : Bool} (q : Bool) {ops r r' : List Oper} {o : Oper} {t : Nat} {c x : Operand} 
  (hon : b = true -> TO Ew nt df B ops (r.take n) (fun J' U' => U' = U /\ H7 J J' /\ Ak Ew J' x = some (.bool q)) J U)
  (k : TO Ew nt df B ops r' K ((t,.bool (b && q)) :: J) U)
  (hr : r.drop n = o :: r' := by exact rfl) (hop : o.op = .pick c x (.const (.bool false)) := by exact rfl) (cn : o.dst = some t := by exact rfl) (h0 : Ak Ew J c = some (.bool b) := by exact rfl) (ht : Nat.blt t nt = true := by exact rfl) (hg : o.guard = none := by exact rfl)
  (ev : b = false -> TO Ew nt df B ops (r.take n) (fun J' U' => U' = U /\ H7 J J') J U := by intro hg; (repeat (first | refine Of hg ?_ | refine Ou ?_)); exact Ub ⟨rfl,sb⟩) : TO Ew nt df B ops r K J U :=
 Lx n b q h0 hr hop cn ht (Md hg) hon ev k
theorem TOr (n : Nat) {b : Bool} (q : Bool) {ops r r' : List Oper} {o : Oper} {t : Nat} {c x : Operand} 
  (hon : b = false -> TO Ew nt df B ops (r.take n) (fun J' U' => U' = U /\ H7 J J' /\ Ak Ew J' x = some (.bool q)) J U)
  (k : TO Ew nt df B ops r' K ((t,.bool (b || q)) :: J) U)
  (hr : r.drop n = o :: r' := by exact rfl) (hop : o.op = .pick c (.const (.bool true)) x := by exact rfl) (cn : o.dst = some t := by exact rfl) (h0 : Ak Ew J c = some (.bool b) := by exact rfl) (ht : Nat.blt t nt = true := by exact rfl) (hg : o.guard = none := by exact rfl)
  (ev : b = true -> TO Ew nt df B ops (r.take n) (fun J' U' => U' = U /\ H7 J J') J U := by intro hg; (repeat (first | refine Of hg ?_ | refine Ou ?_)); exact Ub ⟨rfl,sb⟩) : TO Ew nt df B ops r K J U :=
 Acn n b q h0 hr hop cn ht (Md hg) hon ev k
theorem Xf {ops r : List Oper} {Kd : KD} {eps : List Sto} {log : List (Ae × AV)} {o oj : Oper} {j d : Nat} {b want : Bool} (k : TD Ew nt Rr ops r Kd (Dz o.dst Au J) U eps ((J,Au) :: log)) (hg : o.guard = some (j,want) := by exact rfl) (hj : ops[j]? = some oj := by exact rfl) (hdj : oj.dst = some d := by exact rfl) (hb : Ae.at J d = some (.bool b) := by exact rfl) (hw : cond b want (!want) = false := by first | rfl | simp only [*] <;> rfl | simp [*] <;> fail)
  (he : Bz (Bl Ew o.op) = false := by exact rfl) (hd : Ca nt o.dst = true := by exact rfl) : TD Ew nt Rr ops (o :: r) Kd J U eps log := Dx hg hj hdj hb hw k he hd
theorem Xn {ops r : List Oper} {Kd : KD} {eps : List Sto} {log : List (Ae × AV)} {o oj : Oper} {v : AV} {U₁ : Sto} {j d : Nat} {b want : Bool} (h : A0 Ew Rr o.op J U v U₁) (k : TD Ew nt Rr ops r Kd (Dz o.dst v J) U eps ((J,v) :: log)) (hg : o.guard = some (j,want) := by exact rfl) (hj : ops[j]? = some oj := by exact rfl) (hdj : oj.dst = some d := by exact rfl) (hb : Ae.at J d = some (.bool b) := by exact rfl) (hw : cond b want (!want) = true := by first | rfl | simp only [*] <;> rfl | simp [*] <;> fail)
  (he : Bz (Bl Ew o.op) = false := by exact rfl) (hd : Ca nt o.dst = true := by exact rfl) : TD Ew nt Rr ops (o :: r) Kd J U eps log := Dn hg hj hdj hb hw h k he hd
end
theorem k_lss {Rr : Rec} {J : Ae} {U : Sto} {t ty : Nat} {x : Operand} {k : IntKind} {p q : Int} (hi : okI Ew.P t = true) (hx : Ak Ew J x = some (.int k p)) : A0 Ew Rr (.binOp .lss t x (.const (.int k q)) ty) J U (.bool (decide (p < q))) U := Q5 hi hx (by cases q <;> simp [Ak,ofV,Vw,Ai,hdV])
theorem k_leq {Rr : Rec} {J : Ae} {U : Sto} {t ty : Nat} {x : Operand} {k : IntKind} {p q : Int} (hi : okI Ew.P t = true) (hx : Ak Ew J x = some (.int k p)) : A0 Ew Rr (.binOp .leq t x (.const (.int k q)) ty) J U (.bool (decide (p <= q))) U := T9 hi hx (by cases q <;> simp [Ak,ofV,Vw,Ai,hdV])
theorem k_gtr {Rr : Rec} {J : Ae} {U : Sto} {t ty : Nat} {x : Operand} {k : IntKind} {p q : Int} (hi : okI Ew.P t = true) (hx : Ak Ew J x = some (.int k p)) : A0 Ew Rr (.binOp .gtr t x (.const (.int k q)) ty) J U (.bool (decide (q < p))) U := Aee hi hx (by cases q <;> simp [Ak,ofV,Vw,Ai,hdV])
theorem k_geq {Rr : Rec} {J : Ae} {U : Sto} {t ty : Nat} {x : Operand} {k : IntKind} {p q : Int} (hi : okI Ew.P t = true) (hx : Ak Ew J x = some (.int k p)) : A0 Ew Rr (.binOp .geq t x (.const (.int k q)) ty) J U (.bool (decide (q <= p))) U := Aif hi hx (by cases q <;> simp [Ak,ofV,Vw,Ai,hdV])
theorem k_eqi {Rr : Rec} {J : Ae} {U : Sto} {t ty : Nat} {x : Operand} {k : IntKind} {p q : Int} (hi : okI Ew.P t = true) (hx : Ak Ew J x = some (.int k p)) : A0 Ew Rr (.binOp .eql t x (.const (.int k q)) ty) J U (.bool (decide (p = q))) U := Mz hi hx (by cases q <;> simp [Ak,ofV,Vw,Ai,hdV])
theorem k_nei {Rr : Rec} {J : Ae} {U : Sto} {t ty : Nat} {x : Operand} {k : IntKind} {p q : Int} (hi : okI Ew.P t = true) (hx : Ak Ew J x = some (.int k p)) : A0 Ew Rr (.binOp .neq t x (.const (.int k q)) ty) J U (.bool (!decide (p = q))) U := Aig hi hx (by cases q <;> simp [Ak,ofV,Vw,Ai,hdV])
theorem Ez {nt B : Nat} {df : List (Nat × List AV)} {J J' : Ae} {U : Sto} {ops : List Oper} {x : Operand} {q : Bool} (h1 : H7 J J' := by repeat (first | exact .refl | refine .cons rfl ?_)) (h2 : Ak Ew J' x = some (.bool q) := by exact rfl) : TO Ew nt df B ops [] (fun J'' U'' => U'' = U /\ H7 J J'' /\ Ak Ew J'' x = some (.bool q)) J' U := Ub ⟨rfl,h1,h2⟩
theorem Cb {a b : Bool} (h : a = b := by first | rfl | simp only [*] <;> rfl | simp [*] <;> fail) : some (AV.bool a) = some (AV.bool b) := congrArg (fun b => some (AV.bool b)) h
theorem Oq {Rr : Rec} {op : Op} {J : Ae} {U : Sto} {v : AV} {U₁ : Sto} (h : A0 Ew Rr op J U v U₁ := by first | exact Al rfl | exact Fi rfl | exact Ad ldC rfl rfl rfl | exact Ad ldC rfl rfl (Bt (eT_len _)) | exact Aj fdC rfl rfl | exact Jm slC rfl | exact Aih rfl rfl | exact Ax elC (fun _ => rfl) rfl rfl (by assumption) | exact Dg (q := 1) okC rfl rfl Om | exact F4 rfl | exact k_lss okC rfl | exact Q5 okC rfl rfl | exact k_nei okC rfl | exact Aig okC rfl rfl | exact k_gtr okC rfl | exact Aee okC rfl rfl | exact k_eqi okC rfl | exact Mz okC rfl rfl | exact k_geq okC rfl | exact Aif okC rfl rfl | exact Aob bdC rfl rfl | exact Akc rfl rfl | exact Bg rfl rfl Bo | exact Ex rfl | exact Al9 rfl | exact Aqx stZ rfl | exact Ud (q := []) okC rfl rfl | exact Ud okC rfl rfl | exact B8 rfl (by first | rfl | simp only [*] <;> rfl | simp [*] <;> fail) rfl | exact A7 rfl (by first | rfl | simp only [*] <;> rfl | simp [*] <;> fail) rfl | fail) : A0 Ew Rr op J U v U₁ := h
theorem G {P Q : Prop} (k : P) (h : P -> Q := by first | exact Acm | exact Ub | exact Cm | exact fun k => O1 Oq k | exact Aio | exact Akh | exact Aip | exact fun k => Fa ldC rfl rfl rfl k | exact fun k => Fa ldC rfl (A1 (eT_len _)) rfl k | exact fun k => Dh ziC ldC rfl (fun _ => rfl) rfl rfl rfl rfl k | exact An5 | exact fun k => DF Oq k | exact fun k => DT Oq k | exact Dq | exact fun k => Xf k | exact fun k => Xn Oq k | exact fun k => Du k | fail) : Q := h k
theorem Gn {b b' : Bool} (hg : b = b') {P Q : Prop} (k : P) (h : P -> Q := by first | exact fun k => On hg Oq k | exact fun k => Of hg k | exact fun k => Ou k | exact Ub | fail) : Q := h k
theorem Gs {P Q : Prop} (h : P -> Q := by first | exact Acm | exact Ub | exact Cm | exact fun k => O1 Oq k | exact Aio | exact Akh | exact Aip | exact fun k => Fa ldC rfl rfl rfl k | exact fun k => Fa ldC rfl (A1 (eT_len _)) rfl k | exact fun k => Dh ziC ldC rfl (fun _ => rfl) rfl rfl rfl rfl k | exact An5 | exact fun k => DF Oq k | exact fun k => DT Oq k | exact Dq | exact fun k => Xf k | exact fun k => Xn Oq k | exact fun k => Du k | fail) : P -> Q := h
theorem G2 {P Q R1 : Prop} (k : P) (h1 : R1 -> Q := by exact Gs) (h2 : P -> R1 := by exact Gs) : Q := h1 (h2 k)
theorem G3 {P Q R1 R2 : Prop} (k : P) (h1 : R1 -> Q := by exact Gs) (h2 : R2 -> R1 := by exact Gs) (h3 : P -> R2 := by exact Gs) : Q := h1 (h2 (h3 k))
theorem G4 {P Q R1 R2 R3 : Prop} (k : P) (h1 : R1 -> Q := by exact Gs) (h2 : R2 -> R1 := by exact Gs) (h3 : R3 -> R2 := by exact Gs) (h4 : P -> R3 := by exact Gs) : Q := h1 (h2 (h3 (h4 k)))
theorem G5 {P Q R1 R2 R3 R4 : Prop} (k : P) (h1 : R1 -> Q := by exact Gs) (h2 : R2 -> R1 := by exact Gs) (h3 : R3 -> R2 := by exact Gs) (h4 : R4 -> R3 := by exact Gs) (h5 : P -> R4 := by exact Gs) : Q := h1 (h2 (h3 (h4 (h5 k))))
theorem G6 {P Q R1 R2 R3 R4 R5 : Prop} (k : P) (h1 : R1 -> Q := by exact Gs) (h2 : R2 -> R1 := by exact Gs) (h3 : R3 -> R2 := by exact Gs) (h4 : R4 -> R3 := by exact Gs) (h5 : R5 -> R4 := by exact Gs) (h6 : P -> R5 := by exact Gs) : Q := h1 (h2 (h3 (h4 (h5 (h6 k)))))
theorem G7 {P Q R1 R2 R3 R4 R5 R6 : Prop} (k : P) (h1 : R1 -> Q := by exact Gs) (h2 : R2 -> R1 := by exact Gs) (h3 : R3 -> R2 := by exact Gs) (h4 : R4 -> R3 := by exact Gs) (h5 : R5 -> R4 := by exact Gs) (h6 : R6 -> R5 := by exact Gs) (h7 : P -> R6 := by exact Gs) : Q := h1 (h2 (h3 (h4 (h5 (h6 (h7 k))))))
theorem G8 {P Q R1 R2 R3 R4 R5 R6 R7 : Prop} (k : P) (h1 : R1 -> Q := by exact Gs) (h2 : R2 -> R1 := by exact Gs) (h3 : R3 -> R2 := by exact Gs) (h4 : R4 -> R3 := by exact Gs) (h5 : R5 -> R4 := by exact Gs) (h6 : R6 -> R5 := by exact Gs) (h7 : R7 -> R6 := by exact Gs) (h8 : P -> R7 := by exact Gs) : Q := h1 (h2 (h3 (h4 (h5 (h6 (h7 (h8 k)))))))
theorem G9 {P Q R1 R2 R3 R4 R5 R6 R7 R8 : Prop} (k : P) (h1 : R1 -> Q := by exact Gs) (h2 : R2 -> R1 := by exact Gs) (h3 : R3 -> R2 := by exact Gs) (h4 : R4 -> R3 := by exact Gs) (h5 : R5 -> R4 := by exact Gs) (h6 : R6 -> R5 := by exact Gs) (h7 : R7 -> R6 := by exact Gs) (h8 : R8 -> R7 := by exact Gs) (h9 : P -> R8 := by exact Gs) : Q := h1 (h2 (h3 (h4 (h5 (h6 (h7 (h8 (h9 k))))))))
theorem G10 {P Q R1 R2 R3 R4 R5 R6 R7 R8 R9 : Prop} (k : P) (h1 : R1 -> Q := by exact Gs) (h2 : R2 -> R1 := by exact Gs) (h3 : R3 -> R2 := by exact Gs) (h4 : R4 -> R3 := by exact Gs) (h5 : R5 -> R4 := by exact Gs) (h6 : R6 -> R5 := by exact Gs) (h7 : R7 -> R6 := by exact Gs) (h8 : R8 -> R7 := by exact Gs) (h9 : R9 -> R8 := by exact Gs) (h10 : P -> R9 := by exact Gs) : Q := h1 (h2 (h3 (h4 (h5 (h6 (h7 (h8 (h9 (h10 k)))))))))
theorem G11 {P Q R1 R2 R3 R4 R5 R6 R7 R8 R9 R10 : Prop} (k : P) (h1 : R1 -> Q := by exact Gs) (h2 : R2 -> R1 := by exact Gs) (h3 : R3 -> R2 := by exact Gs) (h4 : R4 -> R3 := by exact Gs) (h5 : R5 -> R4 := by exact Gs) (h6 : R6 -> R5 := by exact Gs) (h7 : R7 -> R6 := by exact Gs) (h8 : R8 -> R7 := by exact Gs) (h9 : R9 -> R8 := by exact Gs) (h10 : R10 -> R9 := by exact Gs) (h11 : P -> R10 := by exact Gs) : Q := h1 (h2 (h3 (h4 (h5 (h6 (h7 (h8 (h9 (h10 (h11 k))))))))))
theorem G12 {P Q R1 R2 R3 R4 R5 R6 R7 R8 R9 R10 R11 : Prop} (k : P) (h1 : R1 -> Q := by exact Gs) (h2 : R2 -> R1 := by exact Gs) (h3 : R3 -> R2 := by exact Gs) (h4 : R4 -> R3 := by exact Gs) (h5 : R5 -> R4 := by exact Gs) (h6 : R6 -> R5 := by exact Gs) (h7 : R7 -> R6 := by exact Gs) (h8 : R8 -> R7 := by exact Gs) (h9 : R9 -> R8 := by exact Gs) (h10 : R10 -> R9 := by exact Gs) (h11 : R11 -> R10 := by exact Gs) (h12 : P -> R11 := by exact Gs) : Q := h1 (h2 (h3 (h4 (h5 (h6 (h7 (h8 (h9 (h10 (h11 (h12 k)))))))))))
section
variable {nt : Nat} {J : Ae} {U : Sto} {Rr : Rec} {ops r : List Oper} {Kd : KD} {eps : List Sto} {log : List (Ae × AV)} {o oj : Oper} {j d : Nat} {b want : Bool}
theorem Wx (k : TD Ew nt Rr ops r Kd (Dz o.dst Au J) U eps ((J,Au) :: log)) (hg : o.guard = some (j,want) := by exact rfl) (hj : ops[j]? = some oj := by exact rfl) (hdj : oj.dst = some d := by exact rfl) (hb : Ae.at J d = some (.bool b) := by exact rfl) (he : Bz (Bl Ew o.op) = false := by exact rfl) (hd : Ca nt o.dst = true := by exact rfl) (w : cond b want (!want) = false) : TD Ew nt Rr ops (o :: r) Kd J U eps log := Dx hg hj hdj hb w k he hd
theorem Wn {v : AV} {U₁ : Sto} (h : A0 Ew Rr o.op J U v U₁) (k : TD Ew nt Rr ops r Kd (Dz o.dst v J) U eps ((J,v) :: log)) (hg : o.guard = some (j,want) := by exact rfl) (hj : ops[j]? = some oj := by exact rfl) (hdj : oj.dst = some d := by exact rfl) (hb : Ae.at J d = some (.bool b) := by exact rfl) (he : Bz (Bl Ew o.op) = false := by exact rfl) (hd : Ca nt o.dst = true := by exact rfl) (w : cond b want (!want) = true) : TD Ew nt Rr ops (o :: r) Kd J U eps log := Dn hg hj hdj hb w h k he hd
end
abbrev Cv (f : Nat) (a : List AV) (U : Sto) (x : AV) : Prop := Ao Ew f a U fun v τ => v = x /\ τ = U
end
structure Pr where
 a : Str
 b : Str
 deriving DecidableEq
structure Hp where
 label : Str
 floating : Bool
 text : List Str
structure Fr where
 label : Str
 thm : Bool
 hyps : List Hp
 apart : List Pr
 text : List Str
 dummies : List Hp
 wide : List Pr
 proof : List Str
structure Db where
 consts : List Str
 vars : List Str
 frames : List Fr
inductive Ah where
 | node (label : Str) (kids : List Ah)
structure Sb where
 label : Str
 tree : Ah
structure Pt where
 symbol : Str
 sort : Str
 arg : Int
structure Rl where
 label : Str
 sort : Str
 parts : List Pt
 var : Bool
structure Gr where
 sorts : List Str
 rules : List Rl
abbrev Aq (l : List Str) : AV := slV (fun s => [sV s]) 1 l
def eP (p : Pr) : List AV := [sV p.a,sV p.b]
def eH (h : Hp) : List AV := [sV h.label,.bool h.floating,Aq h.text]
def eF (f : Fr) : List AV := [sV f.label,.bool f.thm,slV eH 3 f.hyps,slV eP 2 f.apart,Aq f.text,slV eH 3 f.dummies,slV eP 2 f.wide,Aq f.proof]
def dbV (d : Db) : AV := .agg [Aq d.consts,Aq d.vars,slV eF 8 d.frames]
mutual
def eT : Ah -> List AV
 | .node l ks => [sV l,.sv (eTs ks) 2 ks.length none]
def eTs : List Ah -> List AV
 | [] => []
 | t :: r => eT t ++ eTs r
end
theorem Agd : ∀ l : List Ah,eTs l = l.flatMap eT
 | [] => by simp [eTs]
 | t :: r => by simp [eTs,Agd r]
theorem Cc (l : Str) (ks : List Ah) : eT (.node l ks) = [sV l,slV eT 2 ks] := by simp [eT,slV,Agd]
theorem eT_len (t : Ah) : (eT t).length = 2 := by cases t; simp [eT]
def Ap (t : Ah) : AV := .agg (eT t)
def eS (s : Sb) : List AV := sV s.label :: eT s.tree
theorem eS_len (s : Sb) : (eS s).length = 3 := by simp [eS,eT_len]
def ePt (p : Pt) : List AV := [sV p.symbol,sV p.sort,iV p.arg]
def eR (r : Rl) : List AV := [sV r.label,sV r.sort,slV ePt 3 r.parts,.bool r.var]
def grV (g : Gr) : AV := .agg [Aq g.sorts,slV eR 4 g.rules]
mutual
theorem Ah.ind' {P : Ah -> Prop} (h : ∀ l ks,(∀ t ∈ ks,P t) -> P (.node l ks)) : ∀ t,P t
 | .node l ks => h l ks (Ah.indL' h ks)
theorem Ah.indL' {P : Ah -> Prop} (h : ∀ l ks,(∀ t ∈ ks,P t) -> P (.node l ks)) : ∀ (ks : List Ah),∀ t ∈ ks,P t
 | [],t,ht => by simp at ht
 | k :: r,t,ht => by
  have h1 := Ah.ind' h k;have h2 := Ah.indL' h r
  rcases aq_.1 ht with hh | hh
  ·rw [hh]; exact h1
  ·exact h2 t hh
end
mutual
def Lz : Ah -> Int -> Int
 | .node _ ks,n => M8 ks (n - 1)
def M8 : List Ah -> Int -> Int
 | [],n => n
 | t :: r,n => if 0 <= n then M8 r (Lz t n) else n
end
theorem Amn (t : Ah) (r : List Ah) (n : Int) : M8 (t :: r) n = if 0 <= n then M8 r (Lz t n) else n := by rw [M8]
mutual
theorem Akr : ∀ (t : Ah) (n : Int),0 <= n -> -1 <= Lz t n /\ Lz t n <= n - 1
 | .node _ ks,n,h => by unfold Lz; have := Aks ks (n - 1) Om; omega
theorem Aks : ∀ (l : List Ah) (n : Int),-1 <= n -> -1 <= M8 l n /\ M8 l n <= n
 | [],n,h => by unfold M8; omega
 | t :: r,n,h => by
  unfold M8
  split
  ·have h1 := Akr t n (by assumption)
   have h2 := Aks r (Lz t n) h1.1;omega
  ·omega
end
theorem Age {l : List Ah} {n : Int} (h : n < 0) : M8 l n = n := by
 cases l with
 | nil => unfold M8; rfl
 | cons t r => unfold M8; rw [if_neg Om]
theorem Agf {N : Nat} : ∀ {l m : List AV},AV.unds N l = true -> AV.unds N m = true -> AV.unds N (l ++ m) = true
 | [],m,_,h => h
 | x :: l,m,h,k => by simp only [az_,AV.unds,af_] at h ⊢; exact ⟨h.1,Agf h.2 k⟩
mutual
theorem Gh {N : Nat} : ∀ t : Ah,AV.unds N (eT t) = true
 | .node l ks => by simp only [eT,AV.unds,AV.und,sV,Zr ks,cl_]
theorem Zr {N : Nat} : ∀ l : List Ah,AV.unds N (eTs l) = true
 | [] => rfl
 | t :: r => by simp only [eTs]; exact Agf (Gh t) (Zr r)
end
theorem Zs {N : Nat} (t : Ah) : AV.und N (Ap t) = true := Gh t
mutual
def Tf : Ah -> Bool
 | .node _ ks => decide (ks.length < 4611686018427387904) && Rg ks
def Rg : List Ah -> Bool
 | [] => true
 | t :: r => Tf t && Rg r
end
theorem Zt : ∀ {l : List Ah},Rg l = true -> ∀ t ∈ l,Tf t = true
 | [],_,t,ht => by simp at ht
 | a :: r,h,t,ht => by
  simp only [Rg,af_] at h
  rcases aq_.1 ht with hh | hh
  ·rw [hh]; exact h.1
  ·exact Zt h.2 t hh
theorem Aiy {l : Str} {ks : List Ah} (h : Tf (.node l ks) = true) : ks.length < 4611686018427387904 /\ ∀ t ∈ ks,Tf t = true := by
 simp only [Tf,af_,decide_eq_true_eq] at h;exact ⟨h.1,Zt h.2⟩
section
variable {E : Env} {nt B : Nat} {df : List (Nat × List AV)} {Q : Cu} {J : Ae} {U : Sto}
theorem Aol {id : Nat} {ops : Array Oper} {r : List Oper} {x : Operand} {d ty : Nat} {pos : String} {after : Array Edge} {a ver : Nat} {m : Option Nat} {left : List (Key × AV)} {cur : Option (Key × AV)}
  (ek : ops.toList = { dst := some d,op := .next x false,type := ty,pos := pos,after := after,guard := none } :: r) (hd : Nat.blt d nt = true)
  (hx : Ak E J x = some (.it a)) (hg : U.get a = some (.iter m ver left cur)) (hv : Xo U m ver = true)
  (h0 : left = [] -> TO E nt df B ops.toList r (fun J U => Q .normal J U) ((d,.tup [.bool false]) :: J) (U.set a (.iter m ver [] none)))
  (h1 : ∀ p,p ∈ Fu left -> TO E nt df B ops.toList r (fun J U => Q .normal J U) ((d,.tup [.bool true,Qd p.1.1,p.1.2]) :: J) (U.set a (.iter m ver p.2 (some p.1)))) : T E nt df B (.region id ops false) Q J U := by
 intro C w tm act ht st hB;have hX := Br st.glob st.tmps x;rw [ht.opd hx] at hX
 have ho : ops[0]? = some { dst := some d,op := .next x false,type := ty,pos := pos,after := after,guard := none } := by rw [← bb_,ek]; rfl
 have hsz : ops.size = r.length + 1 := by rw [← bx_,ek]; rfl
 obtain ⟨y,w₁,bx,bh,co⟩ := Y2 (P := E.P) (ty := ty) st.sim hX hg hv
 have fh : (execOp act.eval { dst := some d,op := .next x false,type := ty,pos := pos,after := after,guard := none }).run E.P w = .ok (.value y) w₁ := by
  simp [execOp,bx]
 refine wp_region ?_;rw [hsz,dl_,d_];simp only [wpOps,ho]
 rw [if_pos (by unfold Region.wanted; rfl)]
 refine .inl ?_;unfold Oper.wp;rw [fh,Oper.upon_value]
 have hr : ∀ j,j < r.length -> r[j]? = ops[0 + 1 + j]? := fun j _ => by
  rw [← bb_,ek,show 0 + 1 + j = j + 1 by omega]; rfl
 have fin : ∀ (v : AV) (left' : List (Key × AV)) (cur' : Option (Key × AV)),TO E nt df B ops.toList r (fun J U => Q .normal J U) ((d,v) :: J) (U.set a (.iter m ver left' cur')) -> Sim E.P C w₁ (U.set a (.iter m ver left' cur')) -> R C (nx U) w₁ v y ->
   wpOps E.P ops (Ol E nt df B Q C w) (List.range' (0 + 1) r.length) (act.put (some d) y) w₁ := by
  intro v left' cur' hto hs' hv'
  obtain ⟨tm',htm,cd⟩ := Dc (nt := nt) (dst := some d) (by exact hd) ht v
  have dz : Ext C (nx U) w C (nx (U.set a (.iter m ver left' cur'))) w₁ := by rw [Ac]; exact bh
  have st' := st.put (x := y) hs' dz (by rw [Ac]; exact hv') htm
  have := hto C w₁ tm' _ cd st' (by rw [Ac]; exact hB) ops (0 + 1) (Ol E nt df B Q C w) [] rfl hr fun C' w' a' tm'' J' U' q1 q2 q3 q4 q5 =>
   ⟨.normal,tm'',J',U',C',rfl,q1,q2,q3,q4,(dz.base hB).trans q5⟩
  rwa [bi_] at this
 rcases co with ⟨h,hs',hv'⟩ | ⟨p,hp,hs',hv'⟩
 ·exact fin _ _ _ (h0 h) hs' hv'
 ·exact fin _ _ _ (h1 p hp) hs' hv'
variable {Rr : Rec}
theorem Agg {t r kt kt' sz ver : Nat} {agg : Bool} {z : AV} {x : Operand} {es : List (Key × AV)} (hi : mpI E.P t = some (kt',z,sz,agg)) (hx : Ak E J x = some (.mp r)) (hm : U.get r = some (.map kt es ver)) :
  A0 E Rr (.range t x) J U (.it (nx U)) (U.new (.iter (some r) ver es none)) := fun tm h => by
 obtain ⟨ti,et,h1,h2⟩ := Aof hi;simp only [opA,Az,h1,h2,h.opd hx,Adu,hm]
theorem Agh {x : Operand} {a r ver kt : Nat} {left es : List (Key × AV)} {k : Key} {v : AV} (hx : Ak E J x = some (.it a)) (hg : U.get a = some (.iter (some r) ver left (some (k,v)))) (hm : U.get r = some (.map kt es ver)) :
  A0 E Rr (.entry x) J U (.tup [Qd k,v]) U := fun tm h => by
 simp only [opA,Az,h.opd hx,Yf,hg,hm,bf_,cond_true]
end
theorem Rh {α : Type} {enc : α -> AV} : ∀ {m : SM α} {p : (Key × AV) × List (Key × AV)},p ∈ Fu (B6 enc m) -> ∃ q,q ∈ Fu m /\ p = ((kS q.1.1,enc q.1.2),B6 enc q.2)
 | [],p,h => by simp [B6,Fu] at h
 | x :: m,p,h => by
  simp only [B6,ck_,Fu,aq_,cr_] at h
  rcases h with rfl | ⟨y,hy,rfl⟩
  ·exact ⟨(x,m),by simp [Fu],rfl⟩
  ·obtain ⟨q,h1,rfl⟩ := Rh (m := m) hy
   exact ⟨(q.1,x :: q.2),by simp only [Fu,aq_,cr_]; exact .inr ⟨q,h1,rfl⟩,rfl⟩
theorem Pz {α : Type} : ∀ {l : List α} {p : α × List α},p ∈ Fu l -> p.1 ∈ l /\ (∀ x,x ∈ l ↔ x = p.1 ∨ x ∈ p.2) /\ p.2.length + 1 = l.length
 | [],p,h => by simp [Fu] at h
 | x :: m,p,h => by
  simp only [Fu,aq_,cr_] at h
  rcases h with rfl | ⟨q,hq,rfl⟩
  ·exact ⟨ar_ ..,fun y => aq_,rfl⟩
  ·obtain ⟨h1,h2,h3⟩ := Pz hq
   refine ⟨ak_ _ h1,fun y => ?_,by simp only [at_]; omega⟩
   simp only [aq_,h2]
   constructor
   ·rintro (h | h | h)
    ·exact .inr (.inl h)
    ·exact .inl h
    ·exact .inr (.inr h)
   ·rintro (h | h | h)
    ·exact .inr (.inl h)
    ·exact .inl h
    ·exact .inr (.inr h)
end Go.AM
namespace Go.AM
open Go
theorem Ec {a b : Nat} {x y : List Nat} : Cw (a :: x) (b :: y) = true ↔ a < b ∨ (a = b /\ Cw x y = true) := by
  simp only [Cw];cases h : Nat.blt a b with
  | true => simp only [cond_true,true_iff]; exact .inl (by simpa [Nat.blt_eq] using h)
  | false =>
    have h' : ¬ a < b := fun hh => by rw [show Nat.blt a b = true from by rw [Nat.blt_eq]; exact hh] at h; cases h
    cases h2 : Nat.beq a b with
    | true => have := ac_ h2; subst this; simp
    | false => have : a ≠ b := fun hh => by subst hh; rw [bf_] at h2; cases h2
               simp only [cond_false,bo_,false_iff]; rintro (hh | ⟨hh,_⟩) <;> contradiction
theorem Zu : ∀ a : List Nat,Cw a a = false
  | [] => rfl
  | x :: a => by
    cases h : Cw (x :: a) (x :: a) with
    | false => rfl
    | true => rcases Ec.1 h with h | ⟨_,h⟩
              · omega
              · rw [Zu a] at h; cases h
theorem Tg : ∀ {a b c : List Nat},Cw a b = true -> Cw b c = true -> Cw a c = true
 | a,b,[],_,h2 => by cases b <;> simp [Cw] at h2
 | a,[],c :: z,h1,_ => by cases a <;> simp [Cw] at h1
 | [],_ :: _,_ :: _,_,_ => rfl
 | a :: x,b :: y,c :: z,h1,h2 => by
  rcases Ec.1 h1 with g1 | ⟨g0,g1⟩ <;> rcases Ec.1 h2 with g2 | ⟨g3,g2⟩
  ·exact Ec.2 (.inl Om)
  ·exact Ec.2 (.inl Om)
  ·exact Ec.2 (.inl Om)
  ·exact Ec.2 (.inr ⟨by omega,Tg g1 g2⟩)
theorem Zv : ∀ {a b : List Nat},Cw a b = false -> Cw b a = false -> a = b
 | [],[],_,_ => rfl
 | [],_ :: _,h,_ => by simp [Cw] at h
 | _ :: _,[],_,h => by simp [Cw] at h
 | a :: x,b :: y,h1,h2 => by
  have g1 : ¬ (a < b ∨ (a = b /\ Cw x y = true)) := fun hh => by rw [Ec.2 hh] at h1; cases h1
  have g2 : ¬ (b < a ∨ (b = a /\ Cw y x = true)) := fun hh => by rw [Ec.2 hh] at h2; cases h2
  have e : a = b := by omega
  subst e;rw [Zv (bw_.2 fun hh => g1 (.inr ⟨rfl,hh⟩)) (bw_.2 fun hh => g2 (.inr ⟨rfl,hh⟩))]
theorem Ar6 (a b : Str) : Key.lt (kS a) (kS b) = ltS a b := rfl
theorem Aen (a : Str) : ltS a a = false := Zu _
theorem Acs {a b c : Str} (h : ltS a b = true) (k : ltS b c = true) : ltS a c = true := Tg h k
theorem Akt {a b : Str} (h : ltS a b = false) (k : ltS b a = false) : a = b := Fb.1 (Zv h k)
section
variable {α : Type}
def SM.Srt (m : SM α) : Prop := m.Pairwise fun p q => ltS p.1 q.1 = true
theorem SM.Srt.nil : SM.Srt ([] : SM α) := List.Pairwise.nil
theorem SM.get_none_of {m : SM α} {s : Str} (h : ∀ p ∈ m,p.1 ≠ s) : m.get s = none := by
 induction m with
 | nil => rfl
 | cons p m ih =>
  obtain ⟨k,v⟩ := p;simp only [SM.get];rw [if_neg (fun hh => h (k,v) (ar_ ..) hh.symm)]
  exact ih fun q hq => h q (ak_ _ hq)
theorem SM.Srt.head {k : Str} {v : α} {m : SM α} (h : SM.Srt ((k,v) :: m)) {s : Str} (hs : ltS k s = false) (hne : s ≠ k) : SM.get ((k,v) :: m) s = none := by
 refine SM.get_none_of fun p hp hh => ?_
 rcases aq_.1 hp with rfl | hp
 ·exact hne hh.symm
 ·have := (bm_.1 h).1 p hp;rw [hh] at this; rw [this] at hs; cases hs
theorem SM.Srt.ext : ∀ {m n : SM α},SM.Srt m -> SM.Srt n -> (∀ s,m.get s = n.get s) -> m = n
 | [],[],_,_,_ => rfl
 | [],(k,v) :: n,_,_,h => by have := h k; simp [SM.get] at this
 | (k,v) :: m,[],_,_,h => by have := h k; simp [SM.get] at this
 | (k,v) :: m,(k',v') :: n,hm,hn,h => by
  have e : k = k' := by
   by_cases hk : k = k'
   ·exact hk
   ·cases h1 : ltS k k' with
    | false =>
     cases h2 : ltS k' k with
     | false => exact Akt h1 h2
     | true =>
      have := h k'; rw [hm.head h1 (fi_ hk)] at this
      simp [SM.get] at this
    | true =>
     have h2 : ltS k' k = false := bw_.2 fun hh => by have := Acs h1 hh; rw [Aen] at this; cases this
     have := h k; rw [hn.head h2 hk] at this
     simp [SM.get] at this
  subst e
  have e2 : v = v' := by have := h k; simpa [SM.get] using this
  subst e2
  have := SM.Srt.ext (bm_.1 hm).2 (bm_.1 hn).2 fun s => by
   by_cases hs : s = k
   ·subst hs
    have g : ∀ {q : SM α},SM.Srt ((s,v) :: q) -> q.get s = none := fun hq => SM.get_none_of fun p hp hh => by
     have := (bm_.1 hq).1 p hp; rw [hh,Aen] at this; cases this
    rw [g hm,g hn]
   ·have := h s; simp only [SM.get,if_neg hs] at this; exact this
  rw [this]
theorem SM.Srt.set : ∀ {m : SM α} {s : Str} {x : α},SM.Srt m -> SM.Srt (m.set s x)
 | [],_,_,_ => List.Pairwise.nil
 | (k,v) :: m,s,x,h => by
  have mem : ∀ {m : SM α} {p : Str × α},p ∈ m.set s x -> ∃ q ∈ m,q.1 = p.1 := by
   intro m
   induction m with
   | nil => intro p hp; cases hp
   | cons r m ih =>
    intro p hp;obtain ⟨k,v⟩ := r;simp only [SM.set] at hp
    split at hp
    ·rcases aq_.1 hp with rfl | hp
     ·exact ⟨_,ar_ ..,rfl⟩
     ·exact ⟨p,ak_ _ hp,rfl⟩
    ·rcases aq_.1 hp with rfl | hp
     ·exact ⟨_,ar_ ..,rfl⟩
     ·obtain ⟨q,h1,h2⟩ := ih hp; exact ⟨q,ak_ _ h1,h2⟩
  simp only [SM.set]
  split
  ·exact bm_.2 ⟨fun p hp => (bm_.1 h).1 p hp,(bm_.1 h).2⟩
  ·refine bm_.2 ⟨fun p hp => ?_,SM.Srt.set (bm_.1 h).2⟩
   obtain ⟨q,h1,h2⟩ := mem hp;rw [← h2]; exact (bm_.1 h).1 q h1
theorem SM.Srt.ins : ∀ {m : SM α} {s : Str} {x : α},SM.Srt m -> m.get s = none -> SM.Srt (m.ins s x)
 | [],_,_,_,_ => dz_ _ _
 | (k,v) :: m,s,x,h,hn => by
  have mem : ∀ {m : SM α} {p : Str × α},p ∈ m.ins s x -> p = (s,x) ∨ p ∈ m := by
   intro m
   induction m with
   | nil => intro p hp; exact .inl (am_.1 hp)
   | cons r m ih =>
    intro p hp;obtain ⟨k,v⟩ := r;simp only [SM.ins] at hp
    split at hp
    ·rcases aq_.1 hp with rfl | hp
     ·exact .inl rfl
     ·exact .inr hp
    ·rcases aq_.1 hp with rfl | hp
     ·exact .inr (ar_ ..)
     ·exact (ih hp).imp id (ak_ _)
  have hne : s ≠ k := fun hh => by subst hh; simp [SM.get] at hn
  cases hl : ltS s k with
  | true =>
   have e : SM.ins ((k,v) :: m) s x = (s,x) :: (k,v) :: m := by simp only [SM.ins,Ar6,hl,if_true]
   rw [e];refine bm_.2 ⟨fun p hp => ?_,h⟩
   rcases aq_.1 hp with rfl | hp
   ·exact hl
   ·exact Acs hl ((bm_.1 h).1 p hp)
  | false =>
   have e : SM.ins ((k,v) :: m) s x = (k,v) :: SM.ins m s x := by simp [SM.ins,Ar6,hl]
   rw [e]
   have hk : ltS k s = true := by
    cases hh : ltS k s with
    | true => rfl
    | false => exact absurd (Akt hl hh) hne
   refine bm_.2 ⟨fun p hp => ?_,SM.Srt.ins (bm_.1 h).2 (by simpa [SM.get,hne] using hn)⟩
   rcases mem hp with rfl | hp
   ·exact hk
   ·exact (bm_.1 h).1 p hp
theorem SM.Srt.put {m : SM α} {s : Str} {x : α} (h : SM.Srt m) : SM.Srt (m.put s x) := by
 unfold SM.put
 split
 ·exact h.set
 ·rename_i hn; exact h.ins hn
def SM.over (n m : SM α) : SM α := n.foldl (fun m p => m.put p.1 p.2) m
theorem SM.Srt.over : ∀ {n m : SM α},SM.Srt m -> SM.Srt (SM.over n m)
 | [],_,h => h
 | p :: n,m,h => SM.Srt.over (n := n) (m := m.put p.1 p.2) h.put
def SM.Key1 (m : SM α) : Prop := m.Pairwise fun p q => p.1 ≠ q.1
theorem SM.Srt.key1 {m : SM α} (h : SM.Srt m) : SM.Key1 m := h.imp fun {p q} hh => fun e => by rw [e,Aen] at hh; cases hh
theorem SM.get_over : ∀ {n m : SM α} {s : Str},SM.Key1 n -> (SM.over n m).get s = (n.get s).or (m.get s)
 | [],_,_,_ => by simp [SM.over,SM.get]
 | (k,v) :: n,m,s,h => by
  have ih := SM.get_over (n := n) (m := m.put k v) (s := s) (bm_.1 h).2
  show (SM.over n (m.put k v)).get s = _
  rw [ih,ci_];simp only [SM.get]
  by_cases hs : s = k
  ·subst hs;rw [SM.get_none_of fun p hp hh => (bm_.1 h).1 p hp hh.symm]; simp
  ·simp [hs]
theorem Zw : ∀ {m : SM α} {p : (Str × α) × SM α},SM.Key1 m -> p ∈ Fu m -> SM.Key1 p.2 /\ p.2.get p.1.1 = none /\ ∀ s,m.get s = if s = p.1.1 then some p.1.2 else p.2.get s
 | [],p,_,h => by simp [Fu] at h
 | (k,v) :: m,p,hk,h => by
  simp only [Fu,aq_,cr_] at h;obtain ⟨h1,h2⟩ := bm_.1 hk
  rcases h with rfl | ⟨q,hq,rfl⟩
  ·exact ⟨h2,SM.get_none_of fun p hp hh => h1 p hp hh.symm,fun s => rfl⟩
  ·obtain ⟨g1,g2,g3⟩ := Zw h2 hq;obtain ⟨m1,m2,_⟩ := Pz hq;have hne : k ≠ q.1.1 := h1 q.1 m1;refine ⟨bm_.2 ⟨fun p hp => h1 p ((m2 p).2 (.inr hp)),g1⟩,?_,fun s => ?_⟩
   ·simp only [SM.get]; rw [if_neg (fi_ hne)]; exact g2
   ·simp only [SM.get,g3 s]
    by_cases hs : s = k
    ·subst hs; simp [hne]
    ·simp [hs]
end
end Go.AM
namespace Go.AM
open Go
def ItV (U : Sto) : Prop := ∀ c r ver left cur,U.get c = some (.iter (some r) ver left cur) -> ∀ kt es ver',U.get r = some (.map kt es ver') -> ver <= ver'
theorem Sim.itv {P : Program} {C : Ctx} {w : World} {U : Sto} (h : Sim P C w U) : ItV U := fun c r ver left cur hg kt es ver' hr => by
 have ho := h.obj c _ hg;obtain ⟨_,_,_,_,_,_,_,_,k3⟩ := ho;exact (k3 _ _ _ hr).1
theorem T_itv {E : Env} {nt B : Nat} {df : List (Nat × List AV)} {Q : Cu} {J : Ae} {U : Sto} {c : Code} (h : ItV U -> T E nt df B c Q J U) : T E nt df B c Q J U := fun C w tm a ht st hB => h st.sim.itv C w tm a ht st hB
theorem WFS.setMap {U : Sto} (hw : WFS U) (hi : ItV U) {r kt ver ver' : Nat} {es es' : List (Key × AV)} (hm : U.get r = some (.map kt es ver)) (hu : Ih (nx U) es' = true) (hv : ver < ver' ∨ (ver' = ver /\ es' = es)) : WFS (U.set r (.map kt es' ver')) := by
 intro a O hg;rw [a_] at hg;rw [Ac]
 split at hg
 ·rename_i ha; cases hg; subst ha; exact ⟨(hw _ _ hm).1,hu,trivial⟩
 ·obtain ⟨h1,h2,h3⟩ := hw a O hg;refine ⟨h1,h2,?_⟩;cases O with
  | iter m v left cur =>
   cases m with
   | none => trivial
   | some q =>
    intro kt2 es2 hr;rw [a_] at hr
    split at hr
    ·rename_i hq
     subst hq
     rcases hv with hv | ⟨rfl,rfl⟩
     ·have := hi a q v left cur hg _ _ _ hm;cases hr; omega
     ·cases hr; rw [Ac]; exact h3 _ _ hm
    ·rw [Ac]; exact h3 _ _ hr
  | cells _ => trivial
  | map _ _ _ => trivial
  | stamp _ _ _ => trivial
  | loop _ => trivial
theorem D5.setMap {U τ : Sto} (hw : WFS U) (hi : ItV U) {r kt ver ver' : Nat} {es es' : List (Key × AV)} (hm : U.get r = some (.map kt es ver)) (hu : Ih (nx U) es' = true) (hv : ver < ver' ∨ (ver' = ver /\ es' = es))
  (hn : nx U <= nx τ) (hg : ∀ c,c < nx U -> c ≠ r -> τ.get c = U.get c) (hr : τ.get r = some (.map kt es' ver')) : D5 τ (U.set r (.map kt es' ver')) := by
 refine ag_ (hw.setMap hi hm hu hv) (by rw [Ac]; exact hn) fun c hc => ?_
 rw [Ac] at hc;rw [a_]
 split
 ·rename_i h; subst h; exact hr
 ·rename_i h; exact hg c hc (by intro hh; exact h Om)
theorem Aeo (s : Str) : Key.eq (kS s) (kS s) = true := by rw [Aco]; simp
theorem Acu {k : Key} (hk : Key.eq k k = true) {v z : AV} : ∀ {es : List (Key × AV)},De k es = none -> Np k v (Mm k z es) = Mm k v es
 | [],_ => by
  simp only [Mm,Np,hk,cond_true]
 | (k',v') :: r,h => by
  simp only [De] at h;cases h1 : Key.eq k k' with
  | true => rw [h1] at h; cases h
  | false =>
   rw [h1] at h;simp only [Mm];cases h2 : Key.lt k k' with
   | true => simp only [cond_true,Np,hk]
   | false => simp only [cond_false,Np,h1]; rw [Acu hk h]
section
variable {E : Env} {J : Ae} {U : Sto} {Rr : Rec} {t ty n r a : Nat} {x y w : Operand} {α : Type} {enc : α -> AV} {m : SM α} {s : Str}
def Ri (enc : α -> AV) (z : AV) (m : SM α) (s : Str) : List (Key × AV) := match m.get s with | some _ => B6 enc m | none => Mm (kS s) z (B6 enc m)
theorem Agi {z : AV} {sz ver : Nat} {agg : Bool} (h9 : Dy E.P 9 = true) (hi : mpI E.P t = some (9,z,sz,agg)) (hx : Ak E J x = some (.mp r)) (hm : U.get r = some (.map 9 (B6 enc m) ver)) (hy : Ak E J y = some (sV s)) :
  A0 E Rr (.mapEntry t x y) J U (.tup [((m.get s).map enc).getD z,.stp (nx U)]) ((U.set r (.map 9 (Ri enc z m s) (ver + 1))).new (.stamp r (ver + 1) (kS s))) := fun tm h => by
 obtain ⟨ti,et,te,h1,h2,h3,h4,h5,h6⟩ := S4 hi;simp only [opA,Az,h1,h2,h3,h4,h.opd hx,h.opd hy,keyS h9,Pd,hm,bf_,Ai,Hu,Ri];cases m.get s <;> rfl
theorem Abr {z : AV} {sz ver : Nat} {agg : Bool} {v : α} (hi : mpI E.P t = some (9,z,sz,agg)) (hx : Ak E J x = some (.mp r)) (hy : Ak E J y = some (.stp a)) (hw : Ak E J w = some (enc v)) (hf : ∀ te : TI,te.size = sz -> te.isAgg = agg -> Nu te (enc v) = true)
  (ha : U.get a = some (.stamp r ver (kS s))) (hm : U.get r = some (.map 9 (Ri enc z m s) ver)) : A0 E Rr (.entryStore t x y w) J U Au (U.set r (.map 9 (B6 enc (m.put s v)) (ver + 1))) := fun tm h => by
 obtain ⟨ti,et,te,h1,h2,h3,h4,h5,h6⟩ := S4 hi
 have e1 : ∃ u,De (kS s) (Ri enc z m s) = some u := by
  unfold Ri
  split
  ·rename_i u hu; rw [Hu,hu]; exact ⟨_,rfl⟩
  ·rename_i hu
   have : ∀ es,De (kS s) (Mm (kS s) z es) = some z ∨ ∃ u,De (kS s) es = some u := by
    intro es
    induction es with
    | nil => left; simp [Mm,De,Aeo]
    | cons p r ih =>
     obtain ⟨k',v'⟩ := p;simp only [Mm];cases h2 : Key.lt (kS s) k' with
     | true => left; simp [De,Aeo]
     | false =>
      simp only [cond_false,De];cases h1 : Key.eq (kS s) k' with
      | true => exact .inr ⟨v',rfl⟩
      | false => exact ih
   rcases this (B6 enc m) with h | ⟨u,h⟩
   ·exact ⟨_,h⟩
   ·rw [Hu,hu] at h; cases h
 have e2 : Np (kS s) (enc v) (Ri enc z m s) = B6 enc (m.put s v) := by
  unfold Ri SM.put
  split
  ·rename_i u hu; rw [Zn]; try rw [hu]
  ·rename_i hu; rw [Acu (Aeo s) (by rw [Hu,hu]; rfl),Zo]; try rw [hu]
 obtain ⟨u,e1⟩ := e1;simp only [opA,Az,h1,h2,h3,h.opd hx,h.opd hy,h.opd hw,Lh,ha,hm,bf_,hf te h5 h6,cl_,Ai,e1,e2]
theorem Jd {parts : Array (Nat × Operand)} {z cs : List AV} {sz len : Nat} {agg : Bool} {ps : List (Nat × Nat × AV)} (hz : (match A4 E.P t with | some ti => ti.zero | none => none) = some z) (hi : arI E.P t = some (len,sz,agg))
  (hp : Rb E J sz parts.toList = some ps) (hf : Qc z ps = some cs) : A0 E Rr (.build t parts) J U (.agg cs) U := fun tm h => by
 unfold arI at hi
 split at hi
 ·rename_i ti hti
  rw [hti] at hz;simp only at hz
  split at hi
  ·rename_i nn e he
   split at hi
   ·rename_i te hte
    simp only [ad_,bc_] at hi;obtain ⟨k1,k2,k3⟩ := hi;subst k1 k2;simp only [opA,Az,hti,hz,he,hte,Td h hp,Lt,hf]
   ·cases hi
  ·cases hi
 ·cases hi
theorem Amo {sz m : Nat} {agg : Bool} {k : IntKind} {cs : List AV} {v : AV} (hi : arI E.P t = some (m,sz,agg)) (hx : Ak E J x = some (.agg cs)) (hy : Ak E J y = some (.int k (.ofNat n)))
  (hn : n < m) (hv : Jc sz agg (cs.drop (n * sz)) = some v) : A0 E Rr (.index t x y) J U v U := fun tm h => by
 unfold arI at hi
 split at hi
 ·rename_i ti hti
  split at hi
  ·rename_i nn e he
   split at hi
   ·rename_i te hte
    simp only [ad_,bc_] at hi;obtain ⟨k1,k2,k3⟩ := hi;subst k1 k2 k3
    have hb : Nat.blt n nn = true := by simpa using hn
    simp only [opA,Az,hti,he,hte,h.opd hx,h.opd hy,Io,hb,cond_true,Hr,hv]
   ·cases hi
  ·cases hi
 ·cases hi
end
def M9 : Op -> Bool
 | .defer _ => true
 | _ => false
def Agj (ro : Option Nat) : Fence := { Fence.wide with round := ro }
theorem As2 {ro : Option Nat} {n : Nat} {P : Program} {f : FuncId} {args : Array Value} {w : World} {R : Ending -> World -> Prop} (h : Calls P f args w R) : CallsIn (Agj ro) n P f args w R :=
 (callsIn_wide (n := n)).2 h
theorem rowsR {ro : Option Nat} {n : Nat} {P : Program} {row : String} {args : Array Value} {w : World} {R : Value -> World -> Prop} (h : Rows P row args w R) : RowsIn (Agj ro) n P row args w R :=
 fun c cs _ => let ⟨v,w',r,s⟩ := h c cs; ⟨v,w',r,stepsIn_wide.2 s⟩
theorem Oy {ro : Option Nat} {n : Nat} {P : Program} {o : Oper} {a : Act} {w : World} {next : Act -> World -> Prop} {Q : Exit -> Act -> World -> Prop} (hd : M9 o.op = false) (h : o.wp P a w next Q) :
  o.wpIn (Agj ro) n P a w next Q := by
 refine ⟨fun _ _ => trivial,?_⟩
 rw [Oper.semAt_eq _ _ _ (fun c hc => by rw [hc] at hd; cases hd)]
 unfold Oper.wp at h
 generalize (execOp a.eval o).run P w = r at h
 cases r with
 | ok x w' =>
  cases x with
  | value v => exact h
  | skip => exact h
  | defer d => exact h
  | enter f args => exact ⟨fun hh => (by cases hh),As2 h⟩
  | row row args => exact ⟨fun hh => (by cases hh),rowsR h⟩
  | round _ _ _ _ _ => exact h.elim
  | _ => exact h.elim
 | halt x w' =>
  cases x with
  | panic v => exact h
  | _ => exact h.elim
def Zx (l : List Oper) : Bool := l.all fun o => !M9 o.op
section
variable {E : Env} {Rr : Rec} {C : Ctx} {w : World}
end
def Aq3 (E : Env) (tm : Tr AV) (aY : Nat) (op : Op) : Option (List AV) := match op with
 | .call c => match c.callee with
  | .value v => match opd E tm v with
   | .yl a => cond (Nat.beq a aY) (some (opds E tm c.args.toList)) none
   | _ => none
  | _ => none
 | _ => none
def oneY (E : Env) (ops : List Oper) (Hy : List AV -> Sto -> Option (Bool × Sto)) (aY : Nat) (o : Oper) (R : Rec) (s : St) : Option St :=
 match Co ops o s.tm with
 | some true => match Aq3 E s.tm aY o.op with
  | some args => match Hy args s.sto with
   | some (b,U) => match Jx o.dst s.tm s.nt (.bool b) with
    | some tm => some ⟨tm,s.nt,s.df,U⟩
    | none => none
   | none => none
  | none => Nq E ops o R s
 | _ => Nq E ops o R s
def Aku (E : Env) (ops : List Oper) (Hy : List AV -> Sto -> Option (Bool × Sto)) (aY : Nat) (R : Rec) : List Oper -> St -> Option St
 | [],s => some s
 | o :: r,s => match oneY E ops Hy aY o R s with
  | some s' => Aku E ops Hy aY R r s'
  | none => none
structure RF where
 aY : Nat
 tm : Tr AV
 nt : Nat
 ps : Array Tmp
 assign : Code
 body : Code
def Ha (L : RF) (C : Ctx) (N : Nat) (w : World) : Prop :=
 L.aY < N /\ (∀ c o,C.loc L.aY = some (c,o) -> c = (C.stm L.aY).toNat) /\ ∃ r,C.lr L.aY = some r /\ TR C N w L.tm r.tmps /\ r.tmps.size = L.nt /\ r.params = L.ps /\ r.assign = L.assign /\ r.body = L.body
theorem Ha.ext {L : RF} {C : Ctx} {N : Nat} {w : World} {C' : Ctx} {N' : Nat} {w' : World} (h : Ha L C N w) (e : Ext C N w C' N' w') : Ha L C' N' w' := by
 obtain ⟨h1,h2,r,h3,h4,h5,h6⟩ := h
 exact ⟨al_ h1 e.next,fun c o hc => by rw [e.stm _ h1]; exact h2 c o (e.loc _ h1 _ hc),r,(e.lr _ h1).trans h3,h4.ext e,h5,h6⟩
section
variable {E : Env} {Rr : Rec} {C : Ctx} {w : World} {L : RF} {Hy : List AV -> Sto -> Option (Bool × Sto)}
def hookY (E : Env) (R : Rec) (Hy : List AV -> Sto -> Option (Bool × Sto)) (aY : Nat) (ops : List Oper) (s : St) : Out :=
 match Zx ops with
 | true => match Aku E ops Hy aY R ops s with
  | some s' => some [(.normal,s')]
  | none => none
 | false => none
end
section
variable {E : Env} {C C' C₁ C₂ : Ctx} {N N' N₁ N₂ : Nat} {w w' w₁ w₂ w₃ w₄ : World} {l : Nat}
theorem Ext.turnNew (e : Ext C N w C₁ N₁ w₁) (t : Hs w₁ w₂ l) (hl : ¬ C₁.own l) (hge : w.heap.size <= l) : Ext C N w C₁ N₁ w₂ where
 next := e.next
 size := by rw [t.size]; exact e.size
 keep b hb ho := by
  obtain ⟨k1,k2⟩ := e.keep b hb ho
  exact ⟨k1,by rw [t.other b Om,k2]⟩
 loc := e.loc
 stm := e.stm
 lr := e.lr
 bsz a ha c o hc := by rw [t.csize]; exact e.bsz a ha c o hc
 res := ⟨e.res.1,fun b hb => by rw [t.other b (fun he => hl (.inl (by rw [e.res.1]; exact he ▸ hb))),e.res.2 b hb]⟩
 os := ⟨t.os.1.trans e.os.1,t.os.2.trans e.os.2⟩
end
def Ctx.setLoop (C : Ctx) (a : Nat) (n : Int) (r : Loop) : Ctx := { C with stm := fun b => if b = a then n else C.stm b,lr := fun b => if b = a then some r else C.lr b }
section
variable {P : Program} {C : Ctx} {w w' : World} {U : Sto}
theorem Sim.setLoop (h : Sim P C w U) (n : Int) (r : Loop) : Sim P (C.setLoop (nx U) n r) w U /\ Ext C (nx U) w (C.setLoop (nx U) n r) (nx U) w := by
 have hne : ∀ {a},a < nx U -> ¬ a = nx U := fun h => by omega
 have e : Ext C (nx U) w (C.setLoop (nx U) n r) (nx U) w := ⟨nl,nl,fun b _ ho => ⟨ho,rfl⟩,fun _ _ _ h => h,
  fun a ha => by simp [Ctx.setLoop,hne ha],fun a ha => by simp [Ctx.setLoop,hne ha],fun _ _ _ _ _ => rfl,⟨rfl,fun _ _ => rfl⟩,rfl,rfl⟩
 exact ⟨⟨fun a X hg => (h.obj a X hg).ext e (h.bound a X hg) rfl (fun _ _ _ => rfl) fun x _ kt es' v' hg' => ⟨kt,es',v',hg',nl,fun _ => ⟨rfl,fun _ _ _ => rfl⟩⟩,
  h.bound,h.dom,h.inj,h.lt,h.rlt,h.rdis⟩,e⟩
theorem Sim.newLoop (h : Sim P C w U) {r : Loop} (hr : Hg r .ready = r) (p : Pu w w' (.loop r)) :
  Sim P ((C.setLoop (nx U) (w.heap.size : Int) r).add (nx U) w.heap.size 0) w' (U.new (.loop .ready)) /\
  Ext C (nx U) w ((C.setLoop (nx U) (w.heap.size : Int) r).add (nx U) w.heap.size 0) (nx U + 1) w' := by
 obtain ⟨h1,e1⟩ := h.setLoop (w.heap.size : Int) r
 obtain ⟨h2,e2⟩ := h1.new p (.loop .ready) rfl fun _ => ⟨w.heap.size,r,by simp [Ctx.add],by simp [Ctx.add,Ctx.setLoop],by rw [hr]; exact p.here⟩
 exact ⟨h2,e1.trans e2⟩
theorem Sim.turnLoop (h : Sim P C w U) {a : Nat} {st : LS} (hg : U.get a = some (.loop st)) (st' : LS) :
  ∃ c r,C.loc a = some (c,0) /\ C.lr a = some r /\ w.heap[c]? = some (.loop (Hg r st)) /\
   Sim P C (w.putObj c (.loop (Hg r st'))) (U.set a (.loop st')) /\ Ext C (nx U) w C (nx U) (w.putObj c (.loop (Hg r st'))) := by
 obtain ⟨c,r,h1,h2,h3⟩ := h.obj a _ hg;have hlt := (ba_.1 h3).1;have p : Wr w (w.putObj c (.loop (Hg r st'))) c (.loop (Hg r st')) := ⟨World.putObj_size,World.putObj_heap_same hlt,fun b hb => World.putObj_heap_other hb,rfl,rfl⟩
 have hsz : csize (w.putObj c (.loop (Hg r st'))) c = csize w c := by unfold csize; rw [p.here,h3]
 obtain ⟨k1,k2⟩ := h.upd h1 p hsz hg (.loop st') rfl (fun kt es v hh => by cases hh) fun _ => ⟨c,r,h1,h2,p.here⟩
 exact ⟨c,r,h1,h2,h3,k1,k2⟩
end
def Zy (E : Env) (R : Rec) : Code -> St -> Out
 | .skip,s => some [(.normal,s)]
 | .exit id,s => some [(.exit id,s)]
 | .ret,s => some [(.ret,s)]
 | .region _ ops false,s => match Zx ops.toList with
  | true => match Jy E ops.toList R ops.toList s with
   | some s' => some [(.normal,s')]
   | none => none
  | false => none
 | .seq a b,s => match Zy E R a s with
  | some l => Qe (Zy E R b) l
  | none => none
 | .cond c a b,s => match opd E s.tm c with
  | .bool true => Zy E R a s
  | .bool false => Zy E R b s
  | _ => none
 | .block id a,s => match Zy E R a s with | some l => some (H2 id l) | none => none
 | _,_ => none
section
variable {E : Env} {Rr : Rec}
end
def As3 (nt : Nat) : List Nat -> List AV -> Tr AV -> Option (Tr AV)
 | [],[],tm => some tm
 | [p],[x],tm => Jx (some p) tm nt x
 | _,_,_ => none
def Akv (U : Sto) (a : Nat) : Bool := match U.get a with | some (.loop .ready) => true | _ => false
def As4 (U : Sto) (a : Nat) : Bool := match U.get a with | some (.loop .busy) => true | _ => false
def As5 (E : Env) (R : Rec) (L : RF) (args : List AV) (U : Sto) : Option (Bool × Sto) :=
 match Akv U L.aY with
 | true => match As3 L.nt L.ps.toList args L.tm with
  | some tm' => match Zy E R L.assign ⟨tm',L.nt,[],U⟩ with
   | some [(.normal,s₁)] => match Akv s₁.sto L.aY with
    | true => match Zy E R L.body ⟨s₁.tm,s₁.nt,s₁.df,s₁.sto.set L.aY (.loop .busy)⟩ with
     | some [(x,s₂)] => match As4 s₂.sto L.aY with
      | true => match x with
       | .normal => some (true,s₂.sto.set L.aY (.loop .ready))
       | .ret => some (false,s₂.sto.set L.aY (.loop (.done .ret)))
       | .exit id => some (false,s₂.sto.set L.aY (.loop (.done (.exit id))))
      | false => none
     | _ => none
    | false => none
   | _ => none
  | none => none
 | false => none
section
variable {E : Env} {Rr : Rec}
theorem Aom {C : Ctx} {N : Nat} {w : World} {x : AV} {vs : Array Value} (h : RL C N w [x] vs.toList) : ∃ v,vs = #[v] /\ R C N w x v := by
 obtain ⟨l⟩ := vs
 match l,h with
 | [],h => unfold RL at h; exact h.elim
 | [v],h => unfold RL at h; exact ⟨v,rfl,h.1⟩
 | _ :: _ :: _,h => unfold RL at h; have := h.2; unfold RL at this; exact this.elim
end
def callY (E : Env) (lf : Nat) (R : Rec) (fn : Func) (Hy : List AV -> Sto -> Option (Bool × Sto)) (aY : Nat) (args : List AV) (U : Sto) : Res :=
 match fn.body with
 | some c => match Nat.ble args.length fn.ntmps with
  | true => match Vj E lf R ⟨fun _ => some (fun ops => hookY E R Hy aY ops.toList),fun _ _ _ _ _ => none⟩ c ⟨Fq args 0 .e,fn.ntmps,[],U⟩ with
   | some l => endsH E fn l
   | none => none
  | false => none
 | none => none
def As6 (E : Env) (lf : Nat) (R : Rec) (b : Nat) (f : Operand) (ps : Array Tmp) (assign body : Code) (s : St) : Out :=
 match opd E s.tm f with
 | .fn (.func k) [] cap => match E.P.funcs[k]? with
  | some fn => B9 (nx s.sto) fun aD => B9 (aD + 1) fun aY =>
   match callY E lf R fn (As5 E R ⟨aY,s.tm,s.nt,ps,assign,body⟩) aY (.yl aY :: cap) (s.sto.bump.new (.loop .ready)) with
   | some (_,U) => match U.get aY with
    | some (.loop st) => match st with
     | .ready => some [(.normal,⟨s.tm,s.nt,(Fo,[.yl aD,.yl b]) :: s.df,U.kill aY⟩)]
     | .done x => match x with
      | .normal => none
      | .ret => some [(.ret,⟨s.tm,s.nt,(Fo,[.yl aD,.yl b]) :: s.df,U.kill aY⟩)]
      | .exit id => some [(.exit id,⟨s.tm,s.nt,(Fo,[.yl aD,.yl b]) :: s.df,U.kill aY⟩)]
     | .busy => none
    | _ => none
   | none => none
  | none => none
 | _ => none
def finM (E : Env) (b : Nat) (rs : List ResultVar) (x : XE × St) : Res :=
 match x with
 | (.exit _,_) => none
 | (_,s) => match Vz E.P s.tm s.sto rs with
  | some vs => match s.df with
   | [] => some (Wa vs,s.sto)
   | [(k,[.yl _,.yl b'])] => cond (Nat.beq k Fo && Nat.beq b' b) (some (Wa vs,s.sto)) none
   | _ => none
  | none => none
def endsM (E : Env) (b : Nat) (fn : Func) (l : List (XE × St)) : Res :=
 match Qw (l.map (finM E b fn.results.toList)) with
 | some rs => Yj rs
 | none => none
def bodyM (E : Env) (lf : Nat) (R : Rec) (fn : Func) (args : List AV) (U : Sto) : Res :=
 match fn.body with
 | some c => match Nat.ble args.length fn.ntmps with
  | true => B9 (nx U) fun b => match Vj E lf R ⟨fun _ => none,As6 E lf R b⟩ c ⟨Fq args 0 .e,fn.ntmps,[],U.bump⟩ with
   | some l => endsM E b fn l
   | none => none
  | false => none
 | none => none
def Gi (b B : Nat) (C : Ctx) (N : Nat) (w : World) : Prop := b < N /\ (C.stm b).toNat = B /\ B <= w.heap.size
theorem Gi.ext {b B : Nat} {C : Ctx} {N : Nat} {w : World} {C' : Ctx} {N' : Nat} {w' : World} (h : Gi b B C N w) (e : Ext C N w C' N' w') : Gi b B C' N' w' :=
 ⟨al_ h.1 e.next,by rw [e.stm b h.1]; exact h.2.1,ax_ h.2.2 e.size⟩
section
variable {E : Env} {Rr : Rec}
end
section
variable {E : Env} {nt B : Nat} {Q Q' : Cu} {J J' : Ae} {U U' : Sto}
def TRd (E : Env) (nt B : Nat) (c : Code) (Q : Cu) (J : Ae) (U : Sto) : Prop :=
 ∀ (l₀ n : Nat) (C : Ctx) (w : World) (tm : Tr AV) (a : Act),Has tm J -> SSt E C w ⟨tm,nt,[],U⟩ a -> B <= nx U -> c.wpIn (Agj (some l₀)) n E.P (Ol E nt [] B Q C w) a w
theorem Aon (h : Q .normal J U) : TRd E nt B .skip Q J U := fun l₀ n C w tm a ht st hB => wpIn_skip ⟨.normal,tm,J,U,C,rfl,ht,h,st,hB,by_ _ _ _⟩
theorem Aep {x y : Code} (h : TRd E nt B x (Nl (TRd E nt B y Q) Q) J U) : TRd E nt B (.seq x y) Q J U := by
 intro l₀ n C w tm a ht st hB;refine wpIn_seq (wpIn_mono (h l₀ n C w tm a ht st hB) fun e a' w' he => ?_)
 obtain ⟨x',tm',J',U',C',h1,h2,h3,h4,hB',h5⟩ := he;subst h1;cases x' with
 | normal => exact wpIn_mono (h3 l₀ n C' w' tm' a' h2 h4 hB') fun e a'' w'' he => he.from h5
 | exit id => exact ⟨.exit id,tm',J',U',C',rfl,h2,h3,h4,hB',h5⟩
 | ret => exact ⟨.ret,tm',J',U',C',rfl,h2,h3,h4,hB',h5⟩
theorem Aoo {c : Operand} {x y : Code} {b : Bool} (hc : Ak E J c = some (.bool b)) (h1 : b = true -> TRd E nt B x Q J U) (h2 : b = false -> TRd E nt B y Q J U) : TRd E nt B (.cond c x y) Q J U := by
 intro l₀ n C w tm a ht st hB;have hv := Br st.glob st.tmps c;rw [ht.opd hc] at hv;unfold R at hv;cases b with
 | true => exact wpIn_cond_true hv (h1 rfl l₀ n C w tm a ht st hB)
 | false => exact wpIn_cond_false hv (h2 rfl l₀ n C w tm a ht st hB)
theorem Uf {id : Nat} {c : Code} (h : TRd E nt B c (Ua id Q) J U) : TRd E nt B (.block id c) Q J U := by
 intro l₀ n C w tm a ht st hB;refine wpIn_block (wpIn_mono (h l₀ n C w tm a ht st hB) fun e a' w' he => ?_)
 obtain ⟨x',tm',J',U',C',h1,h2,h3,h4,hB',h5⟩ := he;subst h1;cases x' with
 | normal => exact ⟨.normal,tm',J',U',C',rfl,h2,h3,h4,hB',h5⟩
 | ret => exact ⟨.ret,tm',J',U',C',rfl,h2,h3,h4,hB',h5⟩
 | exit j =>
  simp only [Ua] at h3
  by_cases hj : j = id
  ·subst hj;rw [bf_] at h3;simp only [Jl,Exit.inBlock,if_true];exact ⟨.normal,tm',J',U',C',rfl,h2,h3,h4,hB',h5⟩
  ·have hb : Nat.beq j id = false := by cases hb : Nat.beq j id with | true => exact absurd (ac_ hb) hj | false => rfl
   rw [hb] at h3;simp only [Jl,Exit.inBlock,if_neg hj];exact ⟨.exit j,tm',J',U',C',rfl,h2,h3,h4,hB',h5⟩
theorem Zz {P : Program} {ro : Option Nat} {n : Nat} {arr : Array Oper} {QQ : Exit -> Act -> World -> Prop} (mm : ¬ LetsOut QQ) : ∀ (l : List Nat) (a : Act) (w : World),(∀ i ∈ l,∀ o,arr[i]? = some o -> M9 o.op = false) -> wpOps P arr QQ l a w -> wpOpsIn (Agj ro) n P arr QQ l a w
 | [],a,w,_,h => h
 | i :: l,a,w,hd,h => by
  simp only [wpOps] at h;simp only [wpOpsIn];have ih := Zz (P := P) (ro := ro) (n := n) (arr := arr) mm l;have hd' : ∀ i ∈ l,∀ o,arr[i]? = some o -> M9 o.op = false := fun j hj => hd j (ak_ _ hj)
  split at h
  ·rename_i he; rw [he]; exact ih a w hd' h
  ·rename_i o he
   rw [he];simp only
   split at h
   ·rename_i hw
    rw [if_pos hw]
    rcases h with h | ⟨_,h⟩
    ·exact Oper.wpIn_mono (fun a w hk => ih a w hd' hk) (Oy (hd i (ar_ ..) o he) h)
    ·exact absurd h mm
   ·rename_i hw
    rw [if_neg hw];exact ⟨fun _ _ => trivial,ih _ w hd' h⟩
theorem Amp {C : Ctx} {w : World} {df : List (Nat × List AV)} : ¬ LetsOut (Ol E nt df B Q C w) := fun ⟨a,w',x,tm',J',U',C',h,_⟩ => by cases x <;> cases h
theorem Fc {id : Nat} {ops : Array Oper} (hn : Zx ops.toList = true) (h : TO E nt [] B ops.toList ops.toList (fun J U => Q .normal J U) J U) : TRd E nt B (.region id ops false) Q J U := by
 intro l₀ n C w tm a ht st hB;refine wpIn_region ?_;rw [dl_,← bx_];refine Zz Amp _ a w (fun i _ o ho => ?_) ?_
 ·have hm : o ∈ ops.toList := by
   obtain ⟨h2,h3⟩ := ba_.1 ho;rw [← h3]; exact Array.getElem_mem_toList h2
  have := da_.1 hn o hm
  simpa using this
 ·have := h C w tm a ht st hB ops 0 (Ol E nt [] B Q C w) [] rfl (fun j _ => by simp) fun C' w' a' tm' J' U' h1 h2 h3 h4 h5 => ⟨.normal,tm',J',U',C',rfl,h1,h2,h3,h4,h5⟩
  rwa [bi_] at this
end
def YTo (E : Env) (L : RF) (args : List AV) (U : Sto) (Post : Sto -> Prop) : Prop :=
 ∀ (C : Ctx) (w : World) (vs : Array Value),Ha L C (nx U) w -> Sim E.P C w U -> Gc C (nx U) w E -> RL C (nx U) w args vs.toList ->
  ∃ r,w.heap[(C.stm L.aY).toNat]? = some (.loop (Hg r .ready)) /\ vs.size = r.params.size /\ ∀ n,RoundIn Fence.wide n E.P (C.stm L.aY).toNat r.fn ((r.params.zip vs).foldl (fun tmps (t,a) => tmps.setIfInBounds t a) r.tmps) r.assign r.body w fun e w' =>
   e = .returned (.bool true) /\ ∃ C' U',Post U' /\ Sim E.P C' w' U' /\ Ext C (nx U) w C' (nx U') w'
def Aop : List Nat -> List AV -> Ae -> Ae
 | p :: ps,x :: xs,J => Aop ps xs ((p,x) :: J)
 | _,_,J => J
theorem Vm {C : Ctx} {N : Nat} {w : World} {nt : Nat} : ∀ {ps : List Nat} {args : List AV} {vs : List Value} {tm : Tr AV} {J : Ae} {tmps : Array Value},args.length = ps.length -> ps.all (fun p => Nat.blt p nt) = true -> Has tm J -> TR C N w tm tmps -> tmps.size = nt -> RL C N w args vs ->
  vs.length = ps.length /\ ∃ tm',Has tm' (Aop ps args J) /\ TR C N w tm' ((ps.zip vs).foldl (fun tmps (t,a) => tmps.setIfInBounds t a) tmps) /\ ((ps.zip vs).foldl (fun tmps (t,a) => tmps.setIfInBounds t a) tmps).size = nt
 | [],[],[],tm,J,tmps,_,_,ht,hT,hs,_ => ⟨rfl,tm,ht,hT,hs⟩
 | [],[],_ :: _,_,_,_,_,_,_,_,_,h => by unfold RL at h; exact h.elim
 | [],_ :: _,_,_,_,_,h,_,_,_,_,_ => by cases h
 | _ :: _,[],_,_,_,_,h,_,_,_,_,_ => by cases h
 | _ :: _,_ :: _,[],_,_,_,_,_,_,_,_,h => by unfold RL at h; exact h.elim
 | p :: ps,x :: xs,v :: vs,tm,J,tmps,hl,hb,ht,hT,hs,hr => by
  unfold RL at hr;simp only [dy_,af_] at hb;obtain ⟨tm1,h1,h2⟩ := Dc (nt := nt) (dst := some p) hb.1 ht x;obtain ⟨k1,k2,_⟩ := TR.put (a := { tmps := tmps,defers := [] }) hT hs h1 hr.1
  have o7 : (({ tmps := tmps,defers := [] } : Act).put (some p) v).tmps = tmps.setIfInBounds p v := by simp [Act.put]
  rw [o7] at k1 k2
  obtain ⟨q1,tm',q2,q3,q4⟩ := Vm (by simpa using hl) hb.2 h2 k1 k2 hr.2
  exact ⟨by simp [q1],tm',q2,q3,q4⟩
theorem Aiz {E : Env} {L : RF} {JL : Ae} {args : List AV} {U : Sto} {Post : Sto -> Prop} (hL : Has L.tm JL) (hl : args.length = L.ps.toList.length) (hps : L.ps.toList.all (fun p => Nat.blt p L.nt) = true) (hrd : U.get L.aY = some (.loop .ready)) (hY0 : L.aY < nx U)
  (h : TRd E L.nt (nx U) L.assign (fun | .normal => fun J₁ U₁ => U₁.get L.aY = some (.loop .ready) /\ TRd E L.nt (nx U) L.body (fun | .normal => fun _ U₂ => U₂.get L.aY = some (.loop .busy) /\ Post (U₂.set L.aY (.loop .ready)) | _ => fun _ _ => False) J₁ (U₁.set L.aY (.loop .busy)) | _ => fun _ _ => False) (Aop L.ps.toList args JL) U) :
  YTo E L args U Post := by
 intro C w vs hi hs hg bj;obtain ⟨hY1,hY2,r,hlr,hTR,hsz,hp,has,hbo⟩ := hi;obtain ⟨c,r',h1,h2,h3⟩ := hs.obj _ _ hrd;rw [hlr] at h2;cases h2;have hc := hY2 c 0 h1;subst hc;obtain ⟨q1,tm',q0,q2,q3⟩ := Vm (nt := L.nt) hl hps hL hTR hsz bj
 have o8 : (L.ps.toList.zip vs.toList).foldl (fun tmps (t,a) => tmps.setIfInBounds t a) r.tmps = (L.ps.zip vs).foldl (fun tmps (t,a) => tmps.setIfInBounds t a) r.tmps := by
  rw [← ey_,Array.toList_zip]
 rw [o8] at q2 q3
 refine ⟨r,h3,by rw [hp]; simpa using q1,fun n => ?_⟩
 refine roundIn_of_wpIn (F := Fence.wide) trivial ?_;rw [has,hbo,hp]
 have st0 : SSt E C w ⟨tm',L.nt,[],U⟩ { tmps := (L.ps.zip vs).foldl (fun tmps (t,a) => tmps.setIfInBounds t a) r.tmps,defers := [] } := ⟨hs,hg,q2,q3,by unfold DR; trivial⟩
 refine wpIn_mono (h (C.stm L.aY).toNat n C w tm' _ q0 st0 nl) fun e a₁ w₁ hq => ?_
 obtain ⟨x₁,tm₁,J₁,U₁,C₁,hye,ht₁,hq₁,st₁,hB₁,e₁⟩ := hq;subst hye;cases x₁ with
 | ret => exact hq₁.elim
 | exit _ => exact hq₁.elim
 | normal =>
  obtain ⟨hrd₁,cj⟩ := hq₁;obtain ⟨c₁,r₁,j1,j2,j3,j4,j5⟩ := st₁.sim.turnLoop hrd₁ .busy
  have hr₁ : r₁ = r := by
   have := e₁.lr _ hY0;rw [j2,hlr] at this;exact cf_ this
  subst hr₁;have hc₁ : c₁ = (C.stm L.aY).toNat := hY2 c₁ 0 (e₁.loc _ hY0 _ j1);subst hc₁;refine ⟨_,run_beginRound j3 rfl,?_⟩;have st₂ : SSt E C₁ (w₁.putObj (C.stm L.aY).toNat (.loop (Hg r₁ .busy))) ⟨tm₁,L.nt,[],U₁.set L.aY (.loop .busy)⟩ a₁ :=
   ⟨j4,by show Gc _ (nx (U₁.set _ _)) _ _; rw [Ac]; exact st₁.glob.ext j5,by show TR _ (nx (U₁.set _ _)) _ _ _; rw [Ac]; exact st₁.tmps.ext j5,st₁.size,by show DR _ (nx (U₁.set _ _)) _ _ _; rw [Ac]; exact st₁.dfs.ext j5⟩
  refine wpIn_mono (cj (C.stm L.aY).toNat n C₁ _ tm₁ _ ht₁ st₂ (by rw [Ac]; exact hB₁)) fun e a₃ w₃ hq => ?_
  obtain ⟨x₃,tm₃,J₃,U₃,C₂,hye,ht₃,hq₃,st₃,hB₃,e₂⟩ := hq;subst hye;cases x₃ with
  | ret => exact hq₃.elim
  | exit _ => exact hq₃.elim
  | normal =>
   obtain ⟨hbu,f0⟩ := hq₃;obtain ⟨c₂,r₂,m1,m2,m3,m4,m5⟩ := st₃.sim.turnLoop hbu .ready
   have hr₂ : r₂ = r₁ := by
    have := e₂.lr _ hY0;rw [m2,j2] at this;exact cf_ this
   subst hr₂;have hc₂ : c₂ = (C.stm L.aY).toNat := hY2 c₂ 0 (e₁.loc _ hY0 _ (e₂.loc _ hY0 _ m1));subst hc₂;have jd := run_endRound (P := E.P) none m3;refine ⟨_,_,jd,rfl,C₂,_,f0,m4,?_⟩;rw [Ac];exact (((e₁.trans (j5.base hB₁)).trans e₂).trans (m5.base hB₃)).top hB₃
def TIt (E : Env) (L : RF) (nt B : Nat) (c : Code) (Q : Cu) (J : Ae) (U : Sto) : Prop :=
 ∀ (C : Ctx) (w : World) (tm : Tr AV) (a : Act),Ha L C B w -> Has tm J -> SSt E C w ⟨tm,nt,[],U⟩ a -> B <= nx U -> c.wp E.P (Ol E nt [] B Q C w) a w
section
variable {E : Env} {L : RF} {nt B : Nat} {Q Q' : Cu} {J J' : Ae} {U U' : Sto}
theorem Ek {c : Code} (h : T E nt [] B c Q J U) : TIt E L nt B c Q J U := fun C w tm a _ ht st hB => h C w tm a ht st hB
theorem TIt.mono {c : Code} (h : TIt E L nt B c Q J U) (hQ : ∀ x J U,Q x J U -> Q' x J U) : TIt E L nt B c Q' J U := fun C w tm a hi ht st hB => wp_mono (h C w tm a hi ht st hB) fun e a' w' he => he.mono hQ
theorem Je (h : Q .normal J U) : TIt E L nt B .skip Q J U := Ek (Aio h)
theorem Z0 {n : Nat} (h : Q (.exit n) J U) : TIt E L nt B (.exit n) Q J U := Ek (Aip h)
theorem Akw (h : Q .ret J U) : TIt E L nt B .ret Q J U := Ek (An5 h)
theorem Akx {c : Code} (h : WFS U -> TIt E L nt B c Q J U) : TIt E L nt B c Q J U := fun C w tm a hi ht st hB => h st.sim.wfs C w tm a hi ht st hB
theorem Cd {x y : Code} (h : TIt E L nt B x (Nl (TIt E L nt B y Q) Q) J U) : TIt E L nt B (.seq x y) Q J U := by
 intro C w tm a hi ht st hB;refine wp_seq (wp_mono (h C w tm a hi ht st hB) fun e a' w' he => ?_)
 obtain ⟨x',tm',J',U',C',h1,h2,h3,h4,hB',h5⟩ := he;subst h1;cases x' with
 | normal => exact wp_mono (h3 C' w' tm' a' (hi.ext h5) h2 h4 hB') fun e a'' w'' he => he.from h5
 | exit id => exact ⟨.exit id,tm',J',U',C',rfl,h2,h3,h4,hB',h5⟩
 | ret => exact ⟨.ret,tm',J',U',C',rfl,h2,h3,h4,hB',h5⟩
theorem Jf {c : Operand} {x y : Code} {b : Bool} (hc : Ak E J c = some (.bool b)) (h1 : b = true -> TIt E L nt B x Q J U) (h2 : b = false -> TIt E L nt B y Q J U) : TIt E L nt B (.cond c x y) Q J U := by
 intro C w tm a hi ht st hB;have hv := Br st.glob st.tmps c;rw [ht.opd hc] at hv;unfold R at hv;cases b with
 | true => exact wp_cond_true hv (h1 rfl C w tm a hi ht st hB)
 | false => exact wp_cond_false hv (h2 rfl C w tm a hi ht st hB)
theorem Kl {id : Nat} {c : Code} (h : TIt E L nt B c (Ua id Q) J U) : TIt E L nt B (.block id c) Q J U := by
 intro C w tm a hi ht st hB;refine wp_block (wp_mono (h C w tm a hi ht st hB) fun e a' w' he => ?_)
 obtain ⟨x',tm',J',U',C',h1,h2,h3,h4,hB',h5⟩ := he;subst h1;cases x' with
 | normal => exact ⟨.normal,tm',J',U',C',rfl,h2,h3,h4,hB',h5⟩
 | ret => exact ⟨.ret,tm',J',U',C',rfl,h2,h3,h4,hB',h5⟩
 | exit j =>
  simp only [Ua] at h3
  by_cases hj : j = id
  ·subst hj;rw [bf_] at h3;simp only [Jl,Exit.inBlock,if_true];exact ⟨.normal,tm',J',U',C',rfl,h2,h3,h4,hB',h5⟩
  ·have hb : Nat.beq j id = false := by cases hb : Nat.beq j id with | true => exact absurd (ac_ hb) hj | false => rfl
   rw [hb] at h3;simp only [Jl,Exit.inBlock,if_neg hj];exact ⟨.exit j,tm',J',U',C',rfl,h2,h3,h4,hB',h5⟩
theorem Aoq {c : Code} (I : Nat -> Ae -> Sto -> Prop) (n : Nat) (h0 : ∃ J',Lw J' J /\ I n J' U)
  (hs : ∀ n J U,I n J U -> TIt E L nt B c (Nl (fun J' U' => ∃ m J'',m < n /\ Lw J'' J' /\ I m J'' U') Q) J U) : TIt E L nt B (.loop c) Q J U := by
 have key : ∀ (n : Nat) (J : Ae) (U : Sto),I n J U -> ∀ (C : Ctx) (w : World) (tm : Tr AV) (a : Act),Ha L C B w -> Has tm J -> SSt E C w ⟨tm,nt,[],U⟩ a -> B <= nx U -> ∀ (b : Frame) (k : List Item) (cs : List Frame),
   ∃ e a' w',Ol E nt [] B Q C w e a' w' /\ Arrives E.P (lone (b.at a (.code c :: .inLoop c :: k)) cs w) b k cs e a' w' := by
  intro n
  induction n using Nat.strongRecOn with
  | _ n ih =>
   intro J U hI C w tm a hi ht st hB b k cs;obtain ⟨e,a₁,w₁,hq,br⟩ := hs n J U hI C w tm a hi ht st hB b (.inLoop c :: k) cs;obtain ⟨x',tm',J',U',C',h1,h2,h3,h4,hB',h5⟩ := hq;subst h1;cases x' with
   | normal =>
    obtain ⟨m,J'',hm,b8,hI'⟩ := h3;obtain ⟨e₂,a₂,w₂,hq₂,harr₂⟩ := ih m hm J'' U' hI' C' w₁ tm' a₁ (hi.ext h5) (h2.subL b8) h4 hB' b k cs;exact ⟨e₂,a₂,w₂,hq₂.from h5,.of_steps (Steps.trans br (.one step_inLoop)) harr₂⟩
   | exit id => exact ⟨.exit id,a₁,w₁,⟨_,tm',J',U',C',rfl,h2,h3,h4,hB',h5⟩,.pass (x := .inLoop c) rfl (fun _ _ => .inl (by simp)) br⟩
   | ret => exact ⟨.ret,a₁,w₁,⟨_,tm',J',U',C',rfl,h2,h3,h4,hB',h5⟩,.pass (x := .inLoop c) rfl (fun _ _ => .inl (by simp)) br⟩
 intro C w tm a hi ht st hB b k cs;obtain ⟨J',b8,hI⟩ := h0;obtain ⟨e,a',w',hq,br⟩ := key n J' U hI C w tm a hi (ht.subL b8) st hB b k cs;exact ⟨e,a',w',hq,.of_steps (.one step_loop) br⟩
theorem Ug {α : Type} {c : Code} (JI : α -> Ae) (P : α -> Sto -> Prop) (μ : α -> Nat) (a₀ : α) (h0 : Lw (JI a₀) J) (h1 : P a₀ U)
  (hs : ∀ a U,P a U -> TIt E L nt B c (Nl (fun J' U' => ∃ a',μ a' < μ a /\ Lw (JI a') J' /\ P a' U') Q) (JI a) U) : TIt E L nt B (.loop c) Q J U := by
 refine Aoq (fun n J U => ∃ a,n = μ a /\ J = JI a /\ P a U) (μ a₀) ⟨JI a₀,h0,a₀,rfl,rfl,h1⟩ ?_
 rintro n J U ⟨a,rfl,rfl,hp⟩;refine (hs a U hp).mono fun x J' U' hq => ?_
 cases x with
 | normal => obtain ⟨a',g1,g2,g3⟩ := hq; exact ⟨μ a',JI a',g1,g2,a',rfl,rfl,g3⟩
 | exit id => exact hq
 | ret => exact hq
def TOI (E : Env) (L : RF) (nt B : Nat) (ops r : List Oper) (K : Ae -> Sto -> Prop) (J : Ae) (U : Sto) : Prop :=
 ∀ (C : Ctx) (w : World) (tm : Tr AV) (a : Act),Ha L C B w -> Has tm J -> SSt E C w ⟨tm,nt,[],U⟩ a -> B <= nx U -> ∀ (arr : Array Oper) (i n : Nat) (QQ : Exit -> Act -> World -> Prop),arr.toList = ops -> (∀ j,j < r.length -> r[j]? = arr[i + j]?) ->
  (∀ C' w' a' tm' J' U',Has tm' J' -> K J' U' -> SSt E C' w' ⟨tm',nt,[],U'⟩ a' -> B <= nx U' -> Ext C B w C' B w' -> QQ .normal a' w') -> wpOpsIn Fence.wide n E.P arr QQ (List.range' i r.length) a w
variable {K : Ae -> Sto -> Prop} {ops r : List Oper}
theorem K4 {id : Nat} {ops : Array Oper} (h : TOI E L nt B ops.toList ops.toList (fun J U => Q .normal J U) J U) : TIt E L nt B (.region id ops false) Q J U := by
 intro C w tm a hi ht st hB;refine (wpIn_wide (n := 0)).1 (wpIn_region ?_);rw [dl_,← bx_]
 exact h C w tm a hi ht st hB ops 0 0 (Ol E nt [] B Q C w) rfl (fun j _ => by simp) fun C' w' a' tm' J' U' h1 h2 h3 h4 h5 => ⟨.normal,tm',J',U',C',rfl,h1,h2,h3,h4,h5⟩
theorem P0 (h : K J U) : TOI E L nt B ops [] K J U := by
 intro C w tm a hi ht st hB arr i n QQ _ _ hQ;simp only [cs_,go_,wpOpsIn];exact hQ C w a tm J U ht h st hB (by_ _ _ _)
theorem Aeq {o : Oper} {Rr : Rec} (hR : Be E Rr) (hn : M9 o.op = false) {J₁ : Ae} {U₁ : Sto}
  (h : ∀ tm,Has tm J -> ∃ tm',Nq E ops o Rr ⟨tm,nt,[],U⟩ = some ⟨tm',nt,[],U₁⟩ /\ Has tm' J₁) (k : TOI E L nt B ops r K J₁ U₁) : TOI E L nt B ops (o :: r) K J U := by
 intro C w tm a hi ht st hB arr i n QQ br hr hQ;obtain ⟨tm',h1,h2⟩ := h tm ht
 have ho : arr[i]? = some o := by have := hr 0 (by simp); simpa using this.symm
 simp only [at_,d_,wpOpsIn,ho]
 have h1' : Nq E arr.toList o Rr ⟨tm,nt,[],U⟩ = some ⟨tm',nt,[],U₁⟩ := by rw [br]; exact h1
 have := Q4 (K := wpOpsIn Fence.wide n E.P arr QQ (List.range' (i + 1) r.length)) (Q := QQ) hR st h1' fun C' w' a' st' e' =>
  k C' w' tm' a' (hi.ext (e'.base hB)) h2 st' (ax_ hB e'.next) arr (i + 1) n QQ br (fun j hj => by have := hr (j + 1) (by simpa using hj); simp only [be_] at this; rw [this]; congr 1; omega)
   fun C2 w2 a2 tm2 J2 U2 q1 q2 q3 qB q4 => hQ C2 w2 a2 tm2 J2 U2 q1 q2 q3 qB ((e'.base hB).trans q4)
 rcases this with ⟨h2,h3⟩ | ⟨h2,h3⟩
 ·rw [if_pos h2]; exact Oy (ro := none) hn h3
 ·rw [if_neg (by rw [h2]; simp)]; exact ⟨fun _ _ => trivial,h3⟩
theorem Rj {op : Op} (h : F7 op = true) : M9 op = false := by cases op <;> first | rfl | cases h
theorem D8 {op : Op} {dst : Option Nat} {ty : Nat} {pos : String} {after : Array Edge} {Rr : Rec} {v : AV} {U₁ : Sto} (hR : Be E Rr) (hn : F7 op = true) (hd : Ca nt dst = true) (h : A0 E Rr op J U v U₁)
  (k : TOI E L nt B ops r K (Dz dst v J) U₁) : TOI E L nt B ops ({ dst := dst,op := op,type := ty,pos := pos,after := after,guard := none } :: r) K J U := by
 refine Aeq hR (Rj hn) (fun tm ht => ?_) k
 obtain ⟨tm',h1,h2⟩ := Dc (dst := dst) hd ht v;refine ⟨tm',?_,h2⟩;rw [Pp (s := ⟨tm,nt,[],U⟩) rfl hn];simp only [h tm ht,h1]
theorem Ai0 {o oj : Oper} {Rr : Rec} {v : AV} {U₁ : Sto} {j d : Nat} {b want : Bool} (hg : o.guard = some (j,want)) (hj : ops[j]? = some oj) (hdj : oj.dst = some d) (hb : Ae.at J d = some (.bool b)) (hw : cond b want (!want) = true)
  (hR : Be E Rr) (hn : F7 o.op = true) (hd : Ca nt o.dst = true) (h : A0 E Rr o.op J U v U₁) (k : TOI E L nt B ops r K (Dz o.dst v J) U₁) : TOI E L nt B ops (o :: r) K J U := by
 refine Aeq hR (Rj hn) (fun tm ht => ?_) k
 obtain ⟨tm',h1,h2⟩ := Dc (dst := o.dst) hd ht v;refine ⟨tm',?_,h2⟩
 rw [Pp (s := ⟨tm,nt,[],U⟩) (by rw [Gf ht hg hj hdj hb,hw]) hn]
 simp only [h tm ht,h1]
theorem Xy {o oj : Oper} {j d : Nat} {b want : Bool} (hn : F7 o.op = true) (hg : o.guard = some (j,want)) (hj : ops[j]? = some oj) (hdj : oj.dst = some d) (hb : Ae.at J d = some (.bool b)) (hw : cond b want (!want) = false)
  (hd : Ca nt o.dst = true) (k : TOI E L nt B ops r K (Dz o.dst Au J) U) : TOI E L nt B ops (o :: r) K J U := by
 refine Aeq dr_ (Rj hn) (fun tm ht => ?_) k
 obtain ⟨tm',h1,h2⟩ := Dc (dst := o.dst) hd ht Au;refine ⟨tm',?_,h2⟩;unfold Nq;rw [Gf ht hg hj hdj hb,hw];simp only [h1]
theorem Uh {o : Oper} {f : Operand} {args : Array Operand} {tys : Array Nat} {vs : List AV} {Post : Sto -> Prop} (hg : ∀ tm,Has tm J -> Co ops o tm = some true) (hop : o.op = .call ⟨.value f,args,tys⟩) (hd : Ca nt o.dst = true) (hf : Ak E J f = some (.yl L.aY)) (ha : Ky E J args.toList = some vs)
  (hy : YTo E L vs U Post) (k : ∀ U',Post U' -> nx U <= nx U' -> TOI E L nt B ops r K (Dz o.dst (.bool true) J) U') : TOI E L nt B ops (o :: r) K J U := by
 intro C w tm a hi ht st hB arr i n QQ br hr hQ
 have ho : arr[i]? = some o := by have := hr 0 (by simp); simpa using this.symm
 simp only [at_,d_,wpOpsIn,ho]
 have hw : Region.wanted o (yielded arr a.tmps) = true := Ge st.tmps (by rw [br]; exact hg tm ht)
 rw [if_pos hw]
 have hnd : M9 o.op = false := by rw [hop]; rfl
 have hV := Br st.glob st.tmps f;rw [ht.opd hf] at hV;unfold R at hV;obtain ⟨hV,_⟩ := hV;have hA := Dw st.glob st.tmps args.toList;rw [ht.opds ha] at hA
 have hA' : RL C (nx U) w vs (args.map a.eval).toList := by simp only [cb_]; exact hA
 have hi' : Ha L C (nx U) w := hi.ext ((by_ C B w).top hB);obtain ⟨r',ep,hsz,jf⟩ := hy C w _ hi' st.sim st.glob hA';have hyl := run_yield (P := E.P) (args := args.map a.eval) ep hsz
 have bx : (execOp a.eval o).run E.P w = .ok (.round (C.stm L.aY).toNat r'.fn ((r'.params.zip (args.map a.eval)).foldl (fun tmps (t,a) => tmps.setIfInBounds t a) r'.tmps) r'.assign r'.body) w := by
  simp [execOp,hop,resolve,hV,Deferred.ofValue,invoke]
  simpa [Hg] using hyl
 refine ⟨fun _ _ => trivial,?_⟩
 rw [Oper.semAt_eq _ _ _ (fun c hc => by rw [hc] at hnd; cases hnd),bx,Oper.uponIn_round]
 refine ⟨fun hh => (by cases hh),(jf (n - 1)).mono fun e w' he => ?_⟩
 obtain ⟨rfl,C',U',hp,k1,k2⟩ := he;obtain ⟨tm',h1,h2⟩ := Dc (nt := nt) (dst := o.dst) hd ht (.bool true)
 have st' := st.put (x := .bool true) k1 k2 (by unfold R; rfl) h1
 exact k U' hp k2.next C' w' tm' _ (hi.ext (k2.base hB)) h2 st' (ax_ hB k2.next) arr (i + 1) n QQ br (fun j hj => by have := hr (j + 1) (by simpa using hj); simp only [be_] at this; rw [this]; congr 1; omega)
  fun C2 w2 a2 tm2 J2 U2 q1 q2 q3 qB q4 => hQ C2 w2 a2 tm2 J2 U2 q1 q2 q3 qB ((k2.base hB).trans q4)
end
def K5 (E : Env) (L : RF) (f : Nat) (args : List AV) (U : Sto) (Post : Sto -> Prop) : Prop :=
 ∀ (C : Ctx) (w : World) (vs : Array Value),Ha L C (nx U) w -> Sim E.P C w U -> Gc C (nx U) w E -> RL C (nx U) w args vs.toList ->
  Calls E.P f vs w fun
   | .returned _,w' => ∃ U' C',Post U' /\ Sim E.P C' w' U' /\ Ext C (nx U) w C' (nx U') w'
   | _,_ => False
theorem Ai1 {E : Env} {L : RF} {f : Nat} {fn : Func} {c : Code} {args : List AV} {U : Sto} {Post : Sto -> Prop} (hfn : E.P.funcs[f]? = some fn) (hc : fn.body = some c) (hle : Nat.ble args.length fn.ntmps = true) (dm : fn.results = #[])
  (h : WFS U -> AV.unds (nx U) args = true -> TIt E L fn.ntmps (nx U) c (Aiq fun _ U' => Post U') (E9 args 0) U) : K5 E L f args U Post := by
 intro C w vs hi hs hg bj;refine calls_of_wp_defers hfn hc ?_;have hle := aj_ hle;have st := Oj (E := E) (fn := fn) hs hg bj hle
 have ht : Has (Fq args 0 .e) (E9 args 0) := fun i v hv => by
  rw [E6];rw [Iv] at hv
  split at hv
  ·rename_i hi; rw [if_pos hi]; exact hv
  ·cases hv
 refine wp_mono (h hs.wfs (RL.unds _ _ bj) C w _ _ hi ht st nl) fun e a' w' he => ?_
 obtain ⟨x,tm',J',U₁,C',h1,h2,h3,h4,hB,h5⟩ := he;subst h1;have fin : Post U₁ -> Leaves E.P fn a'.tmps (fun
   | .returned _,w' => ∃ U' C',Post U' /\ Sim E.P C' w' U' /\ Ext C (nx U) w C' (nx U') w'
   | _,_ => False) a'.defers .returning w' := by
  intro hx
  have hds : a'.defers = [] := by
   have hd := h4.dfs;cases hds : a'.defers with
   | nil => rfl
   | cons d ds => rw [hds] at hd; unfold DR at hd; exact hd.elim
  have r1 : Tb E J' U₁ fn.results.toList = some [] := by rw [dm]; rfl
  obtain ⟨x,k1,k2⟩ := C6 (fn := fn) h4.sim h4.tmps (Oo h2 r1);rw [hds];exact ⟨x,k1,U₁,C',hx,h4.sim,h5.top hB⟩
 cases x with
 | normal => exact fin h3
 | ret => exact fin h3
 | exit id => exact h3.elim
section
variable {E : Env} {nt B b : Nat} {Q Q' : Cu} {J J' : Ae} {U : Sto}
theorem Agk {df0 : List (Nat × List AV)} {C : Ctx} {w : World} {tm : Tr AV} {a : Act} {Bs k : Nat} {f : Operand} {ps : Array Tmp} {assign body : Code} {cap : List AV} {kfn : Func} {Post : Sto -> Prop} (hi : Gi b Bs C (nx U) w) (ht : Has tm J) (st : SSt E C w ⟨tm,nt,df0,U⟩ a)
  (hf : Ak E J f = some (.fn (.func k) [] cap)) (f6 : E.P.funcs[k]? = some kfn) (cy : (kfn.name == "runtime.NumGoroutine") = false) (cj : kfn.body.isNone = false)
  (hit : ∀ tm,Has tm J -> K5 E ⟨nx U + 1,tm,nt,ps,assign,body⟩ k (.yl (nx U + 1) :: cap) (U.bump.new (.loop .ready)) (fun U' => U'.get (nx U + 1) = some (.loop .ready) /\ Post U')) :
  (Code.rangeFunc f ps assign body).wp E.P (fun e a' w' => e = .normal /\ ∃ U' C' aD,Post U' /\ SSt E C' w' ⟨tm,nt,(Fo,[.yl aD,.yl b]) :: df0,U'.kill (nx U + 1)⟩ a' /\ Ext C (nx U) w C' (nx (U'.kill (nx U + 1))) w') a w := by
 have hV := Br st.glob st.tmps f;rw [ht.opd hf] at hV;unfold R at hV;obtain ⟨p0,lb,hV,hp0,hlb⟩ := hV
 have o9 : p0 = #[] := by
  have := hp0.length
  simp at this
  exact dx_ this.symm
 subst o9;refine (wpIn_wide (n := 1)).1 (wpIn_rangeFunc fun fn _ => ?_)
 obtain ⟨rc,hrc⟩ : ∃ rc : Loop,rc = { state := .ready,pending := none,fn,tmps := a.tmps,params := ps,assign,body,defers := w.heap.size } := ⟨_,rfl⟩
 have pb : Hg rc .ready = rc := by rw [hrc]; rfl
 obtain ⟨W0,hW0⟩ : ∃ W0,w.alloc (.deferred (some [])) = W0 := ⟨_,rfl⟩;obtain ⟨W1,hW1⟩ : ∃ W1,W0.alloc (.loop rc) = W1 := ⟨_,rfl⟩
 have hp1 : Pu w W0 (.deferred (some [])) := by rw [← hW0]; exact gg_ rfl ⟨rfl,rfl⟩
 have hp2 : Pu W0 W1 (.loop rc) := by rw [← hW1]; exact gg_ rfl ⟨rfl,rfl⟩
 have f7 := hp1.size;have hsz1 := hp2.size;obtain ⟨s1,e1⟩ := st.sim.push hp1;obtain ⟨s2,e2⟩ := s1.bump (w.heap.size : Int);obtain ⟨s3,e3⟩ := s2.newLoop pb hp2;rw [← A8] at e2
 have hnx : nx (U.bump.new (.loop .ready)) = nx U + 1 + 1 := by rw [Af,A8]
 have e5 := (e1.trans e2).trans e3;rw [← Af U.bump (.loop .ready)] at e5
 generalize hC4 : (((C.addStm (nx U) (w.heap.size : Int)).setLoop (nx U.bump) (W0.heap.size : Int) rc).add (nx U.bump) W0.heap.size 0) = C4 at s3 e5
 have mq : C4.stm (nx U) = (w.heap.size : Int) := by rw [← hC4]; simp [Ctx.add,Ctx.setLoop,Ctx.addStm,A8]
 have ir : C4.stm (nx U + 1) = ((w.heap.size + 1 : Nat) : Int) := by rw [← hC4]; simp [Ctx.add,Ctx.setLoop,A8,f7]
 have mw : C4.lr (nx U + 1) = some rc := by rw [← hC4]; simp [Ctx.add,Ctx.setLoop,A8]
 have f8 : C4.loc (nx U + 1) = some (w.heap.size + 1,0) := by rw [← hC4]; simp [Ctx.add,A8,f7]
 have hnD : ¬ C4.own w.heap.size := fun hh => by
  rcases hh with hh | ⟨x,o,hh⟩
  ·have hh' : C.res w.heap.size := by rw [← e5.res.1]; exact hh
   have := st.sim.rlt _ hh'; omega
  ·by_cases hx : x = nx U + 1
   ·subst hx; rw [f8] at hh; have := congrArg (fun o => o.map Prod.fst) hh; simp at this
   ·have : x < nx U := by
     obtain ⟨O,hO,_⟩ := s3.dom x _ hh;have hb := s3.bound x O hO;rw [hnx] at hb
     by_cases hx2 : x = nx U
     ·subst hx2;rw [ab_,A8,if_neg Om,Cy] at hO;have := st.sim.bound _ _ hO; omega
     ·omega
    have := st.sim.lt x _ _ (e5.loc x this _ hh); omega
 have jg : W1.heap[w.heap.size]? = some (.deferred (some [])) := by rw [hp2.other _ Om]; exact hp1.here
 have hli : Ha ⟨nx U + 1,tm,nt,ps,assign,body⟩ C4 (nx (U.bump.new (.loop .ready))) W1 := by
  refine ⟨by rw [hnx]; show nx U + 1 < _; omega,fun c o hc => ?_,rc,mw,?_,?_,?_,?_,?_⟩
  ·have hc : C4.loc (nx U + 1) = some (c,o) := hc;rw [f8] at hc; cases hc; show _ = (C4.stm (nx U + 1)).toNat; rw [ir]; rfl
  ·have : TR C (nx U) w tm rc.tmps := by rw [hrc]; exact st.tmps
   exact this.ext e5
  ·rw [hrc]; exact st.size
  ·rw [hrc]
  ·rw [hrc]
  ·rw [hrc]
 have bj : RL C4 (nx (U.bump.new (.loop .ready))) W1 (.yl (nx U + 1) :: cap) (#[Value.func (.yield (w.heap.size + 1)) #[] #[]] ++ lb).toList := by
  simp only [db_,az_,bg_];unfold RL;refine ⟨?_,RL.ext e5 _ _ hlb⟩;unfold R;rw [ir,hnx]
  exact ⟨rfl,by omega⟩
 have bo := hit tm ht C4 W1 _ hli s3 (st.glob.ext e5) bj
 have jj : ∀ args w,(callFunc k args).run E.P w = .ok (.enter k args) w := fun args w => by
  have g2' : kfn.name ≠ "runtime.NumGoroutine" := by simpa using cy
  have g3' : kfn.body ≠ none := fun hh => by rw [hh] at cj; cases cj
  simp [callFunc,f6,g2',g3']
 refine ⟨w.heap.size + 1,[{ target := .collected w.heap.size,args := #[] }],W1,{ target := .fn (.func k) lb,args := #[.func (.yield (w.heap.size + 1)) #[] #[]] },W1,k,
  #[.func (.yield (w.heap.size + 1)) #[] #[]] ++ lb,W1,?_,?_,fun _ _ => trivial,?_,fun hh => (by cases hh),?_⟩
 ·rw [← hW1,← hW0,hrc]; exact run_enterLoop_outer _ _ _ _ _
 ·simp only [resolve,hV]
  simp [go_sem]
 ·simp [invoke,go_sem,jj]
 ·refine (callsIn_wide).2 (bo.mono fun e w₃ he => ?_)
  cases e with
  | returned x =>
   obtain ⟨U',C₃,⟨hgl,f0⟩,k1,k2⟩ := he
   have dp := (k2.stm (nx U) (by rw [hnx]; omega)).trans mq
   have pd := (k2.lr (nx U + 1) (by rw [hnx]; omega)).trans mw
   obtain ⟨hn4,hk4⟩ := k2.keep w.heap.size Om hnD;have hd3 := hk4.trans jg;obtain ⟨c,r,g1,g2,g3⟩ := k1.obj _ _ hgl;rw [pd] at g2;cases g2
   have hcl := k2.loc _ (by rw [hnx]; omega) _ g1
   rw [f8] at hcl;cases hcl;obtain ⟨m1,m2⟩ := k1.kill (nx U + 1)
   have hnL : ¬ (C₃.del (nx U + 1)).own (w.heap.size + 1) := fun hh => by
    rcases hh with hh | ⟨x,o,hh⟩
    ·exact k1.rdis _ _ _ g1 hh
    ·by_cases hx : x = nx U + 1
     ·simp [Ctx.del,hx] at hh
     ·simp [Ctx.del,hx] at hh
      exact hx (k1.inj _ _ _ _ _ hh g1)
   have pf : ¬ (C₃.del (nx U + 1)).own w.heap.size := fun hh => hn4 (by
    rcases hh with hh | ⟨x,o,hh⟩
    ·exact .inl hh
    ·by_cases hx : x = nx U + 1
     ·simp [Ctx.del,hx] at hh
     ·simp [Ctx.del,hx] at hh; exact .inr ⟨x,o,hh⟩)
   have t : Hs w₃ (w₃.putObj (w.heap.size + 1) (.loop { Hg rc .ready with state := .exhausted })) (w.heap.size + 1) := Hs.put g3 rfl rfl;have e6 := ((e5.trans k2).trans m2).turnNew t hnL Om;rw [← Bn U' (nx U + 1)] at e6
   have gb : SSt E (C₃.del (nx U + 1)) (w₃.putObj (w.heap.size + 1) (.loop { Hg rc .ready with state := .exhausted })) ⟨tm,nt,(Fo,[.yl (nx U),.yl b]) :: df0,U'.kill (nx U + 1)⟩ { a with defers := [{ target := .collected w.heap.size,args := #[] }] ++ a.defers } := by
    refine ⟨m1.turn t hnL,st.glob.ext e6,st.tmps.ext e6,st.size,?_⟩
    show DR _ _ _ _ ({ target := Target.collected w.heap.size,args := #[] } :: a.defers)
    unfold DR;refine ⟨.inr ⟨rfl,nx U,b,rfl,⟨?_,?_,?_⟩,?_,?_,?_⟩,st.dfs.ext e6⟩
    ·show nx U < nx (U'.kill _); rw [Bn]; have := k2.next; rw [hnx] at this; omega
    ·show b < nx (U'.kill _); rw [Bn]; have := k2.next; rw [hnx] at this; have := hi.1; omega
    ·show (C₃.stm b).toNat <= (C₃.stm (nx U)).toNat
     have hb6 := e6.stm b hi.1;have hb6 : C₃.stm b = C.stm b := hb6;rw [dp,hb6,hi.2.1]; exact hi.2.2
    ·show _ = ({ target := .collected (C₃.stm (nx U)).toNat,args := #[] } : Deferred); rw [dp]; rfl
    ·show ¬ (C₃.del _).own (C₃.stm (nx U)).toNat; rw [dp]; exact pf
    ·show (w₃.putObj _ _).heap[(C₃.stm (nx U)).toNat]? = _
     rw [dp];exact (t.other w.heap.size Om).trans hd3
   have jd := run_endLoop (P := E.P) g3 (by simp [Hg])
   exact ⟨none,_,jd,⟨rfl,U',_,nx U,f0,gb,e6⟩⟩
  | panicked _ => exact he.elim
  | outgrown => exact he.elim
def Aky (E : Env) (nt b : Nat) (B : Nat) (Q : Cu) (C : Ctx) (w : World) : Exit -> Act -> World -> Prop := fun e a' w' =>
 ∃ x tm' J' U' C' df,Jl x = e /\ Has tm' J' /\ Q x J' U' /\ SSt E C' w' ⟨tm',nt,df,U'⟩ a' /\ (df = [] ∨ ∃ aD,df = [(Fo,[.yl aD,.yl b])]) /\ B <= nx U' /\ Ext C B w C' B w'
theorem Aky.from {C C₀ : Ctx} {w w₀ : World} {e : Exit} {a : Act} {w' : World} (h : Aky E nt b B Q C w e a w') (hx : Ext C₀ B w₀ C B w) : Aky E nt b B Q C₀ w₀ e a w' := by
 obtain ⟨x,tm',J',U',C',df,h1,h2,h3,h4,h5,hB,h6⟩ := h;exact ⟨x,tm',J',U',C',df,h1,h2,h3,h4,h5,hB,hx.trans h6⟩
def TM (E : Env) (nt b B : Nat) (c : Code) (Q : Cu) (J : Ae) (U : Sto) : Prop :=
 ∀ (Bs : Nat) (C : Ctx) (w : World) (tm : Tr AV) (a : Act),Gi b Bs C B w -> Has tm J -> SSt E C w ⟨tm,nt,[],U⟩ a -> B <= nx U -> c.wp E.P (Aky E nt b B Q C w) a w
theorem Z1 {x y : Code} (h : T E nt [] B x (Nl (TM E nt b B y Q) Q) J U) : TM E nt b B (.seq x y) Q J U := by
 intro Bs C w tm a hi ht st hB;refine wp_seq (wp_mono (h C w tm a ht st hB) fun e a' w' he => ?_)
 obtain ⟨x',tm',J',U',C',h1,h2,h3,h4,hB',h5⟩ := he;subst h1;cases x' with
 | normal => exact wp_mono (h3 Bs C' w' tm' a' (hi.ext h5) h2 h4 hB') fun e a'' w'' he => he.from h5
 | exit id => exact ⟨.exit id,tm',J',U',C',[],rfl,h2,h3,h4,.inl rfl,hB',h5⟩
 | ret => exact ⟨.ret,tm',J',U',C',[],rfl,h2,h3,h4,.inl rfl,hB',h5⟩
def Aq4 (E : Env) (nt b B : Nat) (f : Operand) (ps : Array Tmp) (assign body y : Code) (Q : Cu) (J : Ae) (U : Sto) : Prop :=
 ∃ (k : Nat) (cap : List AV) (kfn : Func) (Post : Sto -> Prop), Ak E J f = some (.fn (.func k) [] cap) /\ E.P.funcs[k]? = some kfn /\ (kfn.name == "runtime.NumGoroutine") = false /\ kfn.body.isNone = false /\
  (∀ tm,Has tm J -> K5 E ⟨nx U + 1,tm,nt,ps,assign,body⟩ k (.yl (nx U + 1) :: cap) (U.bump.new (.loop .ready)) (fun U' => U'.get (nx U + 1) = some (.loop .ready) /\ Post U')) /\
  ∀ U' aD,Post U' -> nx U <= nx U' -> T E nt [(Fo,[.yl aD,.yl b])] B y Q J (U'.kill (nx U + 1))
theorem Acv {id : Nat} {f : Operand} {ps : Array Tmp} {assign body x y : Code} (h : T E nt [] B x (Nl (Aq4 E nt b B f ps assign body y Q) Q) J U) : TM E nt b B (.seq (.seq x (.block id (.rangeFunc f ps assign body))) y) Q J U := by
 intro Bs C w tm a hi ht st hB;refine wp_seq (wp_seq (wp_mono (h C w tm a ht st hB) fun e a' w' he => ?_))
 obtain ⟨x',tm',J',U',C',h1,h2,h3,h4,hB',h5⟩ := he;subst h1;cases x' with
 | exit id => exact ⟨.exit id,tm',J',U',C',[],rfl,h2,h3,h4,.inl rfl,hB',h5⟩
 | ret => exact ⟨.ret,tm',J',U',C',[],rfl,h2,h3,h4,.inl rfl,hB',h5⟩
 | normal =>
  obtain ⟨k,cap,kfn,Post,hf,f6,cy,cj,hit,hy⟩ := h3;have hi' : Gi b Bs C' (nx U') w' := (hi.ext h5).ext ((by_ C' B w').top hB');refine wp_block (wp_mono (Agk hi' h2 h4 hf f6 cy cj hit) fun e a₂ w₂ he => ?_)
  obtain ⟨rfl,U₂,C₂,aD,hp,st',e'⟩ := he;have hn : nx U' <= nx (U₂.kill (nx U' + 1)) := e'.next;have hB₂ : B <= nx (U₂.kill (nx U' + 1)) := ax_ hB' hn
  refine wp_mono (hy U₂ aD hp (by rw [Bn] at hn; exact hn) C₂ w₂ tm' a₂ h2 st' hB₂) fun e a'' w'' he => ?_
  obtain ⟨x,tm₃,J₃,U₃,C₃,g1,g2,g3,g4,gB,g5⟩ := he;exact ⟨x,tm₃,J₃,U₃,C₃,_,g1,g2,g3,g4,.inr ⟨aD,rfl⟩,gB,h5.trans ((e'.base hB').trans g5)⟩
theorem Ar7 {f : Nat} {fn : Func} {c : Code} {args : List AV} {Post : AV -> Sto -> Prop} (hfn : E.P.funcs[f]? = some fn) (cy : (fn.name == "runtime.NumGoroutine") = false) (hc : fn.body = some c) (hle : Nat.ble args.length fn.ntmps = true)
  (h : WFS U -> AV.unds (nx U) args = true -> TM E fn.ntmps (nx U) (nx U + 1) c (Aiq (Wo E fn (nx U) Post)) (E9 args 0) U.bump) : Ao E f args U Post := by
 intro C w vs hs hg bj
 refine ⟨⟨fn,hfn,cy,by rw [hc]; rfl⟩,?_⟩
 have hle := aj_ hle;obtain ⟨s1,e1⟩ := hs.bump (w.heap.size : Int);rw [← A8] at e1;refine (callsIn_wide (n := 1)).1 (callsIn_of_wp_marks hfn hc trivial ((wpIn_wide (n := 1)).2 ?_))
 have hi : Gi (nx U) w.heap.size (C.addStm (nx U) (w.heap.size : Int)) (nx U + 1) w := ⟨by omega,by simp [Ctx.addStm],nl⟩
 have ht : Has (Fq args 0 .e) (E9 args 0) := fun i v hv => by
  rw [E6];rw [Iv] at hv
  split at hv
  ·rename_i hi; rw [if_pos hi]; exact hv
  ·cases hv
 have st := Oj (E := E) (fn := fn) s1 (hg.ext e1) (RL.ext e1 _ _ bj) hle
 refine wp_mono (h hs.wfs (RL.unds _ _ bj) w.heap.size _ w _ _ hi ht st (by rw [A8]; exact nl)) fun e a' w' he => ?_
 obtain ⟨x,tm',J',U₁,C',df,h1,h2,h3,h4,hdf,hB,h5⟩ := he;subst h1;rw [A8] at e1;have bh : Ext C (nx U) w C' (nx U + 1) w' := e1.trans h5;have hi5 : Gi (nx U) w.heap.size C' (nx U + 1) w' := hi.ext h5;have fin : Wo E fn (nx U) Post J' U₁ -> LeavesInM Fence.wide 1 E.P fn a'.tmps (fun
   | .returned x,w' => ∃ v U' C',Post v U' /\ Sim E.P C' w' U' /\ Ext C (nx U) w C' (nx U') w' /\ R C' (nx U') w' v x
   | _,_ => False) a'.defers .returning w' := by
  intro hx;obtain ⟨vs₁,r1,v',U',r2,r3,r4,r5⟩ := hx
  rcases hdf with rfl | ⟨aD,rfl⟩
  ·have hds : a'.defers = [] := by
    have hd := h4.dfs;cases hds : a'.defers with
    | nil => rfl
    | cons d ds => rw [hds] at hd; unfold DR at hd; exact hd.elim
   rw [hds]
   show LeavesIn _ _ _ _ _ _ [] .returning _
   obtain ⟨y,k1,k2⟩ := C6 (fn := fn) h4.sim h4.tmps (Oo h2 r1);exact ⟨y,k1,v',U',_,r5,h4.sim.frz r2,((bh.base nl).trans (fc_ C' U' _ w')).top r3,r4.R h4.sim k2⟩
  ·have hd := h4.dfs
   obtain ⟨d,hds⟩ : ∃ d,a'.defers = [d] /\ DR C' (nx U₁) w' [(Fo,[.yl aD,.yl (nx U)])] [d] := by
    cases hds : a'.defers with
    | nil => rw [hds] at hd; unfold DR at hd; exact hd.elim
    | cons d ds =>
     rw [hds] at hd;cases ds with
     | nil => exact ⟨d,rfl,hd⟩
     | cons d' ds' => unfold DR at hd; have := hd.2; unfold DR at this; exact this.elim
   obtain ⟨hds,hd⟩ := hds;unfold DR at hd;obtain ⟨hd,_⟩ := hd
   rcases hd with ⟨h0,_⟩ | ⟨_,a1,b1,h1,⟨g2,g3,g4⟩,g5,g6,g7⟩
   ·exact absurd rfl h0
   ·simp only [cq_,AV.yl.injEq,and_true] at h1;obtain ⟨rfl,rfl⟩ := h1;rw [hds,g5]
    refine ⟨by simp,.inl ⟨_,_,rfl,run_takeDeferred g7,?_⟩⟩
    show LeavesIn _ _ _ _ _ _ [] .returning _
    have t : Hs w' (w'.putObj (C'.stm aD).toNat (.deferred none)) (C'.stm aD).toNat := Hs.put g7 rfl rfl
    have hge : w.heap.size <= (C'.stm aD).toNat := by rw [← hi5.2.1]; exact g4
    have st2 : Sim E.P C' _ U₁ := h4.sim.turn t g6;have tm2 : TR C' (nx U₁) _ tm' a'.tmps := fun i v hv => R.turn t _ _ (h4.tmps i v hv)
    obtain ⟨y,k1,k2⟩ := C6 (fn := fn) st2 tm2 (Oo h2 r1);exact ⟨y,k1,v',U',_,r5,st2.frz r2,(((bh.turnNew t g6 hge).base nl).trans (fc_ C' U' _ _)).top r3,r4.R st2 k2⟩
 cases x with
 | normal => exact fin h3
 | ret => exact fin h3
 | exit id => exact h3.elim
end
section
variable {E : Env} {J : Ae} {U U' τ : Sto} {N : Nat} {α : Type} {enc enc' : α -> List AV} {sz by' : Nat} {l : List α} {v : AV}
theorem Own.app1 (he : ∀ a,(enc a).length = sz) (hN : N <= nx U) (h : Own U N enc sz l v) (b : α) (bz : (l.length + 1) * (by' + 1) <= sizeLim) :
  ∃ U',Bm U sz by' v 1 (enc b) = some (.sr (nx U) 0 sz (l.length + 1) none,U') /\ U'.get (nx U) = some (.cells ((l ++ [b]).flatMap enc)) /\ nx U' = nx U + 1 /\ Own U' N enc sz (l ++ [b]) (.sr (nx U) 0 sz (l.length + 1) none) /\
   (∀ a,a < nx U -> (∀ c,v = .sr c 0 sz l.length none -> a ≠ c) -> U'.get a = U.get a) := by
 obtain ⟨v',U',h1,h2,h3,h4⟩ := h.app (by' := by') he hN [b] (by simpa using bz)
 have hb : Nat.ble ((l.length + 1) * (by' + 1)) sizeLim = true := ap_ bz
 have h1' : Bm U sz by' v 1 (enc b) = some (v',U') := by simpa using h1
 have key : v' = .sr (nx U) 0 sz (l.length + 1) none /\ U'.get (nx U) = some (.cells ((l ++ [b]).flatMap enc)) /\ nx U' = nx U + 1 := by
  rcases h with ⟨rfl,rfl | rfl⟩ | ⟨a,tl,k1,k2,rfl,k3⟩
  ·have hb' : Nat.ble ((0 + 1) * (by' + 1)) sizeLim = true := hb
   simp only [Bm,Ja,hb',cond_true,Ai,bg_,ad_,bc_] at h1';obtain ⟨rfl,rfl⟩ := h1'
   exact ⟨rfl,by rw [ab_,if_pos rfl]; simp,Af _ _⟩
  ·have hb' : Nat.ble ((0 + 1) * (by' + 1)) sizeLim = true := hb
   have h0 : Nat.ble (0 + 1) 0 = false := rfl;simp only [Bm,bf_,h0,gd_,cl_,cond_true,Ja,hb',Ai,bg_,ad_,bc_] at h1';obtain ⟨rfl,rfl⟩ := h1'
   exact ⟨rfl,by rw [ab_,if_pos rfl]; simp,Af _ _⟩
  ·have c8 : U.cells a = some (l.flatMap enc ++ tl) := by unfold Sto.cells; rw [k3]
   have ck : C7 (l.length * sz) ((l.flatMap enc ++ tl).drop 0) = some (l.flatMap enc) := by
    have := Fk (l := l.flatMap enc) (r := tl)
    rwa [Dd he] at this
   simp only [Bm,bf_,cond_true,c8,ck,Ja,hb,Ai,Bn,ad_,bc_] at h1';obtain ⟨rfl,rfl⟩ := h1'
   exact ⟨rfl,by rw [ab_,Bn,if_pos rfl,ct_]; simp,by rw [Af,Bn]⟩
 obtain ⟨rfl,e2,e3⟩ := key;exact ⟨U',h1',e2,e3,h2,h4⟩
theorem FzL.app : ∀ {a b c d : List AV},FzL U τ a b -> FzL U τ c d -> FzL U τ (a ++ c) (b ++ d)
 | _,_,_,_,.nil,h => h
 | _,_,_,_,.cons h1 h2,h => .cons h1 (h2.app h)
theorem FzL.flat (h : ∀ a,FzL U τ (enc a) (enc' a)) : ∀ l : List α,FzL U τ (l.flatMap enc) (l.flatMap enc')
 | [] => .nil
 | a :: l => by simp only [ca_]; exact (h a).app (FzL.flat h l)
theorem Own.fzE (he : ∀ a,(enc a).length = sz) (h : Own U N enc sz l v) (hτ : ∀ a,N <= a -> τ.get a = none) (hu : ∀ a,FzL U τ (enc a) (enc' a)) : Fz U τ v (slV enc' sz l) := by
 rcases h with ⟨rfl,rfl | rfl⟩ | ⟨a,tl,h1,_,rfl,h3⟩
 ·exact .nils (fun q hq => by cases hq)
 ·exact .sv (fun q hq => by cases hq) .nil
 ·have ck : C7 (l.length * sz) ((l.flatMap enc ++ tl).drop 0) = some (l.flatMap enc) := by
   have := Fk (l := l.flatMap enc) (r := tl)
   rwa [Dd he] at this
  exact .sr h3 (hτ a h1) ck (FzL.flat hu l)
end
section
open Go Go.Proofs
def L0 : Rec := fun _ _ _ => none
theorem H9 (E : Env) : Be E L0 := fun _ _ _ _ _ _ _ _ _ _ _ h => by cases h
def Ai2 : Tr AV := Tr.put 7 .e 6 (some (.nil .nilIface))
def sL : Code -> Code | .seq a _ => a | c => c
def sR : Code -> Code | .seq _ b => b | c => c
def Ar8 (fn : Func) : Code := match fn.body with | some c => c | none => .skip
noncomputable def Ui : Code := sR (Ar8 Tryz.f57)
noncomputable def Ai3 : Code := sL (Ar8 Tryz.f57)
theorem Ai4 : Tryz.f57.body = some (.seq Ai3 Ui) := by kernel_rfl
noncomputable def Qa : Oper := match Ai3 with | .region _ ops _ => ops.getD 0 default | _ => default
theorem Acw : Ai3 = .region 0 #[Qa] false := by kernel_rfl
theorem Akz : Qa.op = .call { callee := .builtin .recover,args := #[],argTypes := #[] } := by kernel_rfl
theorem Agl : Qa.dst = some 6 := by kernel_rfl
theorem Z2 : Qa.guard = none := by kernel_rfl
noncomputable def Ar9 : Tr AV := match Fp Ew 1 L0 Ui ⟨Ai2,19,[],⟨.e,0⟩⟩ with
 | some [(_,s)] => s.tm
 | _ => .e
theorem As7 (U : Sto) : Fp { Ew with P := Tryz.prog,gl := fun _ => none,hold := fun _ => none } 1 L0 Ui ⟨Ai2,19,[],U⟩ = some [(.normal,⟨Ar9,19,[],U⟩)] := by kernel_rfl
theorem run57 (U : Sto) : Fp Ew 1 L0 Ui ⟨Ai2,19,[],U⟩ = some [(.normal,⟨Ar9,19,[],U⟩)] := by kernel_rfl
theorem As8 {C : Ctx} {w : World} {U : Sto} {x : AV} {vs : Array Value} (hs : Sim Ew.P C w U) (hg : Gc C (nx U) w Ew) (bj : RL C (nx U) w [x] vs.toList) :
  CallsDIn Fence.wide 0 Ew.P 57 vs .returning w fun
   | .returned _,u',w' => u' = .returning /\ ∃ C',Sim Ew.P C' w' U /\ Ext C (nx U) w C' (nx U) w'
   | _,_,_ => False := by
 have bv := bj.length
 have hsz : vs.size = 1 := by simpa using bv.symm
 have hf : Ew.P.funcs[57]? = some Tryz.f57 := Tryz.func57;refine callsDIn_of_wpSIn hf Ai4 trivial fun c₀ cs hu => ?_
 refine wpSIn_seq ?_;rw [Acw];refine wpSIn_region ?_;have ew : List.range (#[Qa] : Array Oper).size = [0] := rfl
 have hw : Region.wanted Qa (yielded #[Qa] (vs ++ Array.replicate (Tryz.f57.ntmps - vs.size) undef)) = true := by
  unfold Region.wanted; rw [Z2]
 have hx : (execOp ({ tmps := vs ++ Array.replicate (Tryz.f57.ntmps - vs.size) undef,defers := [] } : Act).eval Qa).run Ew.P w = .ok .recover w := by
  unfold execOp;rw [Akz]
  simp [resolve,go_sem,invoke,builtin]
 have hrd : recoverD (c₀ :: cs) = none := by simp [recoverD,hu]
 rw [ew];simp only [wpOpsSIn];have h0 : (#[Qa] : Array Oper)[0]? = some Qa := rfl;simp only [h0,hw,if_true,hx,hrd];refine ⟨fun _ _ => trivial,?_⟩
 rw [Agl]
 have hn : Tryz.f57.ntmps = 19 := by kernel_rfl
 have dm : Tryz.f57.results = #[] := by kernel_rfl
 have st : SSt Ew C w ⟨Ai2,19,[],U⟩ (({ tmps := vs ++ Array.replicate (Tryz.f57.ntmps - vs.size) undef,defers := [] } : Act).put (some 6) .nilIface) := by
  refine ⟨hs,hg,fun i v hv => ?_,?_,?_⟩
  ·simp only [Ai2,de_] at hv
   split at hv
   ·rename_i hi
    cases hv; subst hi;simp only [Act.put]
    have : ((vs ++ Array.replicate (Tryz.f57.ntmps - vs.size) undef).setIfInBounds 6 Value.nilIface).getD 6 undef = .nilIface := by
     rw [bd_,Array.getElem?_setIfInBounds_self]
     simp [hsz,hn]
    rw [this];unfold R; exact ⟨rfl,rfl⟩
   ·simp [Tr.get] at hv
  ·simp [Act.put,hsz,hn]
  ·simp only [Act.put]; unfold DR; trivial
 have gc := Oa (H9 Ew) (Po E8 L0 (H9 _)) 1 Ui C w _ _ _ st (run57 U);refine wpSIn_of_wpIn rfl ((wpIn_wide (n := 0)).2 (wp_mono gc fun e a' w' hq => ?_))
 obtain ⟨y,hy,C',hye,hst,bh⟩ := hq;rw [am_] at hy;subst hy;subst hye
 have hds : a'.defers = [] := by
  have hd := hst.dfs;cases hds : a'.defers with
  | nil => rfl
  | cons d ds => rw [hds] at hd; unfold DR at hd; exact hd.elim
 obtain ⟨x,k1,k2⟩ := C6 (fn := Tryz.f57) hst.sim hst.tmps (vs := []) (by rw [dm]; rfl)
 exact ⟨hds,.returning,by rw [← hu],x,k1,rfl,C',hst.sim,bh⟩
def Aer (E : Env) (nt b : Nat) (df0 : List (Nat × List AV)) (B : Nat) (Q : Cu) (C : Ctx) (w : World) : Exit -> Act -> World -> Prop := fun e a' w' =>
 ∃ x tm' J' U' C' df,Jl x = e /\ Has tm' J' /\ Q x J' U' /\ SSt E C' w' ⟨tm',nt,df,U'⟩ a' /\ (df = df0 ∨ ∃ aD,df = (Fo,[.yl aD,.yl b]) :: df0) /\ B <= nx U' /\ Ext C B w C' B w'
section
variable {E : Env} {nt B b : Nat} {df0 : List (Nat × List AV)} {Q Q' : Cu} {J J' : Ae} {U : Sto}
theorem Aer.from {C C₀ : Ctx} {w w₀ : World} {e : Exit} {a : Act} {w' : World} (h : Aer E nt b df0 B Q C w e a w') (hx : Ext C₀ B w₀ C B w) : Aer E nt b df0 B Q C₀ w₀ e a w' := by
 obtain ⟨x,tm',J',U',C',df,h1,h2,h3,h4,h5,hB,h6⟩ := h;exact ⟨x,tm',J',U',C',df,h1,h2,h3,h4,h5,hB,hx.trans h6⟩
def TMd (E : Env) (nt b B : Nat) (df0 : List (Nat × List AV)) (c : Code) (Q : Cu) (J : Ae) (U : Sto) : Prop :=
 ∀ (Bs : Nat) (C : Ctx) (w : World) (tm : Tr AV) (a : Act),Gi b Bs C B w -> Has tm J -> SSt E C w ⟨tm,nt,df0,U⟩ a -> B <= nx U -> c.wp E.P (Aer E nt b df0 B Q C w) a w
theorem As9 {c : Code} (h : T E nt df0 B c Q J U) : TMd E nt b B df0 c Q J U := fun Bs C w tm a _ ht st hB => wp_mono (h C w tm a ht st hB) fun e a' w' ⟨x,tm',J',U',C',h1,h2,h3,h4,hB',h5⟩ => ⟨x,tm',J',U',C',df0,h1,h2,h3,h4,.inl rfl,hB',h5⟩
theorem Aq5 {x y : Code} (h : T E nt df0 B x (Nl (TMd E nt b B df0 y Q) Q) J U) : TMd E nt b B df0 (.seq x y) Q J U := by
 intro Bs C w tm a hi ht st hB;refine wp_seq (wp_mono (h C w tm a ht st hB) fun e a' w' he => ?_)
 obtain ⟨x',tm',J',U',C',h1,h2,h3,h4,hB',h5⟩ := he;subst h1;cases x' with
 | normal => exact wp_mono (h3 Bs C' w' tm' a' (hi.ext h5) h2 h4 hB') fun e a'' w'' he => he.from h5
 | exit id => exact ⟨.exit id,tm',J',U',C',df0,rfl,h2,h3,h4,.inl rfl,hB',h5⟩
 | ret => exact ⟨.ret,tm',J',U',C',df0,rfl,h2,h3,h4,.inl rfl,hB',h5⟩
def Aor (E : Env) (nt b B : Nat) (df0 : List (Nat × List AV)) (f : Operand) (ps : Array Tmp) (assign body y : Code) (Q : Cu) (J : Ae) (U : Sto) : Prop :=
 ∃ (k : Nat) (cap : List AV) (kfn : Func) (Post : Sto -> Prop), Ak E J f = some (.fn (.func k) [] cap) /\ E.P.funcs[k]? = some kfn /\ (kfn.name == "runtime.NumGoroutine") = false /\ kfn.body.isNone = false /\
  (∀ tm,Has tm J -> K5 E ⟨nx U + 1,tm,nt,ps,assign,body⟩ k (.yl (nx U + 1) :: cap) (U.bump.new (.loop .ready)) (fun U' => U'.get (nx U + 1) = some (.loop .ready) /\ Post U')) /\
  ∀ U' aD,Post U' -> nx U <= nx U' -> T E nt ((Fo,[.yl aD,.yl b]) :: df0) B y Q J (U'.kill (nx U + 1))
theorem Ai5 {id : Nat} {f : Operand} {ps : Array Tmp} {assign body x y : Code} (h : T E nt df0 B x (Nl (Aor E nt b B df0 f ps assign body y Q) Q) J U) : TMd E nt b B df0 (.seq (.seq x (.block id (.rangeFunc f ps assign body))) y) Q J U := by
 intro Bs C w tm a hi ht st hB;refine wp_seq (wp_seq (wp_mono (h C w tm a ht st hB) fun e a' w' he => ?_))
 obtain ⟨x',tm',J',U',C',h1,h2,h3,h4,hB',h5⟩ := he;subst h1;cases x' with
 | exit id => exact ⟨.exit id,tm',J',U',C',df0,rfl,h2,h3,h4,.inl rfl,hB',h5⟩
 | ret => exact ⟨.ret,tm',J',U',C',df0,rfl,h2,h3,h4,.inl rfl,hB',h5⟩
 | normal =>
  obtain ⟨k,cap,kfn,Post,hf,f6,cy,cj,hit,hy⟩ := h3;have hi' : Gi b Bs C' (nx U') w' := (hi.ext h5).ext ((by_ C' B w').top hB');refine wp_block (wp_mono (Agk hi' h2 h4 hf f6 cy cj hit) fun e a₂ w₂ he => ?_)
  obtain ⟨rfl,U₂,C₂,aD,hp,st',e'⟩ := he;have hn : nx U' <= nx (U₂.kill (nx U' + 1)) := e'.next;have hB₂ : B <= nx (U₂.kill (nx U' + 1)) := ax_ hB' hn
  refine wp_mono (hy U₂ aD hp (by rw [Bn] at hn; exact hn) C₂ w₂ tm' a₂ h2 st' hB₂) fun e a'' w'' he => ?_
  obtain ⟨x,tm₃,J₃,U₃,C₃,g1,g2,g3,g4,gB,g5⟩ := he;exact ⟨x,tm₃,J₃,U₃,C₃,_,g1,g2,g3,g4,.inr ⟨aD,rfl⟩,gB,h5.trans ((e'.base hB').trans g5)⟩
end
def Aq6 (fn : Func) (b B : Nat) (dop : Oper) (y : Code) (Post : AV -> Sto -> Prop) (J : Ae) (U : Sto) : Prop :=
 ∃ (v : Operand) (ags : Array Operand) (ts : Array Nat) (a off : Nat),dop.op = .defer ⟨.value v,ags,ts⟩ /\ Ak Ew J v = some (.fn (.func 57) [] []) /\ Ky Ew J ags.toList = some [.pr a off] /\
  TMd Ew fn.ntmps b B [(57,[.pr a off])] y (Aiq (Wo Ew fn b Post)) J U
def Ata (K : Ae -> Sto -> Prop) : Cu
 | .normal => K
 | _ => fun _ _ => False
theorem Aos {f id : Nat} {fn : Func} {x y : Code} {dop : Oper} {args : List AV} {U : Sto} {Post : AV -> Sto -> Prop} (hfn : Tryz.prog.funcs[f]? = some fn) (hc : fn.body = some (.seq x (.seq (.region id #[dop] false) y))) (hle : Nat.ble args.length fn.ntmps = true)
  (cn : dop.dst = none) (hgd : dop.guard = none)
  (h : WFS U -> AV.unds (nx U) args = true -> T Ew fn.ntmps [] (nx U + 1) x (Ata (Aq6 fn (nx U) (nx U + 1) dop y Post)) (E9 args 0) U.bump) : Ao Ew f args U Post := by
 intro C w vs hs hg bj
 refine ⟨⟨fn,hfn,Oh f fn hfn,by rw [hc]; rfl⟩,?_⟩
 have hle := aj_ hle;obtain ⟨s1,e1⟩ := hs.bump (w.heap.size : Int);rw [← A8] at e1;refine (callsIn_wide (n := 1)).1 (callsIn_of_wp_marks hfn hc trivial ((wpIn_wide (n := 1)).2 ?_))
 have hi : Gi (nx U) w.heap.size (C.addStm (nx U) (w.heap.size : Int)) (nx U + 1) w := ⟨by omega,by simp [Ctx.addStm],nl⟩
 have ht : Has (Fq args 0 .e) (E9 args 0) := fun i v hv => by
  rw [E6];rw [Iv] at hv
  split at hv
  ·rename_i hi; rw [if_pos hi]; exact hv
  ·cases hv
 have st := Oj (E := Ew) (fn := fn) s1 (hg.ext e1) (RL.ext e1 _ _ bj) hle;rw [A8] at e1
 refine wp_seq (wp_mono (h hs.wfs (RL.unds _ _ bj) _ w _ _ ht st (by rw [A8]; exact nl)) fun e a' w' he => ?_)
 obtain ⟨x',tm',J',U₁,C',h1,h2,h3,h4,hB,h5⟩ := he;subst h1;cases x' with
 | ret => exact h3.elim
 | exit id => exact h3.elim
 | normal =>
 obtain ⟨v,ags,ts,ad,off,hop,hv,hvs,hy⟩ := h3;refine wp_seq (wp_region ?_)
 have pg : Jy Ew (#[dop] : Array Oper).toList L0 [dop] ⟨tm',fn.ntmps,[],U₁⟩ = some ⟨tm',fn.ntmps,[(57,[.pr ad off])],U₁⟩ := by
  have em : Nq Ew [dop] dop L0 ⟨tm',fn.ntmps,[],U₁⟩ = some ⟨tm',fn.ntmps,[(57,[.pr ad off])],U₁⟩ := by
   have hmk : Nat.beq 57 Fo = false := rfl;unfold Nq Co;simp only [hgd,hop,cn,h2.opd hv,h2.opds hvs,Ph,bg_,bi_,hmk,cond_false]
  show (match Nq Ew [dop] dop L0 ⟨tm',fn.ntmps,[],U₁⟩ with | some s => Jy Ew [dop] L0 [] s | none => none) = _
  rw [em]; rfl
 refine I4 (H9 Ew) [dop] 0 C' w' _ a' (fun j => by simp) h4 pg fun C₂ w₂ a₂ st₂ e₂ => ?_
 have hi2 : Gi (nx U) w.heap.size C₂ (nx U + 1) w₂ := (hi.ext h5).ext (e₂.base hB);refine wp_mono (hy w.heap.size C₂ w₂ tm' a₂ hi2 h2 st₂ hB) fun e a' w' he => ?_
 obtain ⟨x,tm',J',U₁,C',df,h1,h2,h3,h4,hdf,hB,h6⟩ := he;subst h1
 have bh : Ext C (nx U) w C' (nx U + 1) w' := e1.trans (h5.trans ((e₂.base (by assumption)).trans h6))
 have hi5 : Gi (nx U) w.heap.size C' (nx U + 1) w' := hi2.ext h6
 -- the deferred call,and the results behind it
 have last : ∀ (C' : Ctx) (w' : World) (d : Deferred),Wo Ew fn (nx U) Post J' U₁ -> Sim Ew.P C' w' U₁ -> Gc C' (nx U₁) w' Ew -> TR C' (nx U₁) w' tm' a'.tmps -> DR C' (nx U₁) w' [(57,[.pr ad off])] [d] -> Ext C (nx U) w C' (nx U) w' -> LeavesInM Fence.wide 1 Ew.P fn a'.tmps (fun
   | .returned x,w' => ∃ v U' C',Post v U' /\ Sim Ew.P C' w' U' /\ Ext C (nx U) w C' (nx U') w' /\ R C' (nx U') w' v x
   | _,_ => False) [d] .returning w' := by
  intro C' w' d hx j9 mz htr hdr hex;obtain ⟨vs₁,r1,v',U',r2,r3,r4,r5⟩ := hx;unfold DR at hdr
  rcases hdr.1 with ⟨_,cap,g1,g2⟩ | ⟨h0,_⟩
  ·refine ⟨by simp,.inr ⟨fun _ => nl,_,_,57,_,g1,?_,fun _ _ => trivial,(As8 j9 mz g2).mono fun e u' w'' he => ?_⟩⟩
   ·rw [g1];have pj : Ew.P.funcs[57]? = some Tryz.f57 := Tryz.func57
    have n57 : Tryz.f57.name ≠ "runtime.NumGoroutine" := by
     have := Oh 57 Tryz.f57 Tryz.func57
     simpa using this
    have b57 : Tryz.f57.body ≠ none := by rw [Ai4]; simp
    simp only [invoke,callFunc,Sem.run_bind,run_program,Result.andThen_ok,pj]
    simp [n57,b57]
   ·cases e with
    | returned v =>
     obtain ⟨rfl,C₄,k1,k2⟩ := he
     show LeavesIn _ _ _ _ _ _ [] .returning _
     obtain ⟨y,q1,q2⟩ := C6 (fn := fn) k1 (htr.ext k2) (Oo h2 r1);exact ⟨y,q1,v',U',_,r5,k1.frz r2,((hex.trans (k2.base Om)).trans (fc_ C₄ U' _ _)).top r3,r4.R k1 q2⟩
    | panicked _ => exact he.elim
    | outgrown => exact he.elim
  ·exact absurd (show (57 : Nat) = Fo from h0) (by decide)
 have fin : Wo Ew fn (nx U) Post J' U₁ -> LeavesInM Fence.wide 1 Ew.P fn a'.tmps (fun
   | .returned x,w' => ∃ v U' C',Post v U' /\ Sim Ew.P C' w' U' /\ Ext C (nx U) w C' (nx U') w' /\ R C' (nx U') w' v x
   | _,_ => False) a'.defers .returning w' := by
  intro hx
  rcases hdf with rfl | ⟨aD,rfl⟩
  ·have hd := h4.dfs;cases hds : a'.defers with
   | nil => rw [hds] at hd; unfold DR at hd; exact hd.elim
   | cons d ds =>
    rw [hds] at hd;cases ds with
    | nil => exact last C' w' d hx h4.sim h4.glob h4.tmps hd (bh.base nl)
    | cons d' ds' => unfold DR at hd; have := hd.2; unfold DR at this; exact this.elim
  ·have hd := h4.dfs
   obtain ⟨d,d2,hds⟩ : ∃ d d2,a'.defers = [d,d2] /\ DR C' (nx U₁) w' [(Fo,[.yl aD,.yl (nx U)]),(57,[.pr ad off])] [d,d2] := by
    cases hds : a'.defers with
    | nil => rw [hds] at hd; unfold DR at hd; exact hd.elim
    | cons d ds =>
     rw [hds] at hd;cases ds with
     | nil => unfold DR at hd; have := hd.2; unfold DR at this; exact this.elim
     | cons d2 ds =>
      cases ds with
      | nil => exact ⟨d,d2,rfl,hd⟩
      | cons _ _ => unfold DR at hd; have := hd.2; unfold DR at this; have := this.2; unfold DR at this; exact this.elim
   obtain ⟨hds,hd⟩ := hds;unfold DR at hd;obtain ⟨hd,hd2⟩ := hd
   rcases hd with ⟨h0,_⟩ | ⟨_,a1,b1,h1,⟨g2,g3,g4⟩,g5,g6,g7⟩
   ·exact absurd rfl h0
   ·simp only [cq_,AV.yl.injEq,and_true] at h1;obtain ⟨rfl,rfl⟩ := h1;rw [hds,g5]
    refine ⟨by simp,.inl ⟨_,_,rfl,run_takeDeferred g7,?_⟩⟩
    have t : Hs w' (w'.putObj (C'.stm aD).toNat (.deferred none)) (C'.stm aD).toNat := Hs.put g7 rfl rfl
    have hge : w.heap.size <= (C'.stm aD).toNat := by rw [← hi5.2.1]; exact g4
    refine last C' _ d2 hx (h4.sim.turn t g6) (h4.glob.turn t) (fun i v hv => R.turn t _ _ (h4.tmps i v hv)) ?_ ((bh.turnNew t g6 hge).base nl)
    unfold DR at hd2 ⊢
    rcases hd2.1 with ⟨k0,cap,k1,k2⟩ | ⟨h0,_⟩
    ·exact ⟨.inl ⟨k0,cap,k1,RL.turn t _ _ k2⟩,by unfold DR; trivial⟩
    ·exact absurd (show (57 : Nat) = Fo from h0) (by decide)
 cases x with
 | normal => exact fin h3
 | ret => exact fin h3
 | exit id => exact h3.elim
end
end Go.AM
