/- A part of the proof; shortened by program. -/
import Derived.RangeFuncIn
import Derived.RangeFuncLeaves
import Derived.TacticsIn
import Derived.OrdersIn
import Derived.Test.YtolkkkghemedjaaGreatDoorP03
set_option maxRecDepth 100000
set_option linter.unusedSimpArgs false
set_option linter.unusedVariables false
namespace Go.AM
open Go
def Wk (v v' : AV) : Prop := ∀ C N w x, R C N w v x -> R C N w v' x
theorem Wk.rfl' {v : AV} : Wk v v := fun _ _ _ _ h => h
theorem Gq {cs : List AV} {sz len : Nat} {cap : Option Nat} : Wk (.sv cs sz len cap) (.sv cs sz len none) := fun C N w x h => by
 unfold R at h ⊢;obtain ⟨ado, k, h1, h2, h3, h4⟩ := h
 exact ⟨ado, k, h1, h2, fun q hq => (by cases hq), h4⟩
theorem X5 {sz : Nat} : Wk (.nil (.slice none 0 0)) (.sv [] sz 0 none) := fun C N w x h => by
 unfold R at h ⊢;obtain ⟨rfl, _⟩ := h
 exact ⟨none, 0, rfl, nl, fun q hq => (by cases hq), by simp, fun _ => rfl, fun ad ha => by cases ha⟩
inductive WkL : List AV -> List AV -> Prop
 | nil : WkL [] []
 | cons {a b : AV} {l m : List AV} : Wk a b -> WkL l m -> WkL (a :: l) (b :: m)
theorem WkL.RL {C : Ctx} {N : Nat} {w : World} : ∀ {l m : List AV}, WkL l m -> ∀ {xs : List Value}, RL C N w l xs -> RL C N w m xs
 | _, _, .nil, xs, h => h
 | _, _, .cons h1 h2, [], h => by unfold AM.RL at h; exact h.elim
 | _, _, .cons h1 h2, x :: xs, h => by unfold AM.RL at h ⊢; exact ⟨h1 _ _ _ _ h.1, h2.RL h.2⟩
theorem WkL.refl : ∀ {l : List AV}, WkL l l
 | [] => .nil
 | _ :: _ => .cons .rfl' .refl
theorem Ah.wk {E : Env} {f : Nat} {args args' : List AV} {σ : Sto} {Post : AV -> Sto -> Prop} (h : Ah E f args' σ Post) (k : WkL args args') : Ah E f args σ Post :=
 fun C w vs hs hg ha => h C w vs hs hg (k.RL ha)
section
variable {E : Env} {nt B : Nat} {df : List (Nat × List AV)} {ρ ρ' : Al} {σ σ' : Sto} {K : Al -> Sto -> Prop} {Rr : Rec}
theorem TO_wk {ops r : List Oper} {d : Nat} {v v' : AV} (h : Wk v v') (k : TO E nt df B ops r K ((d, v') :: ρ) σ) : TO E nt df B ops r K ((d, v) :: ρ) σ := by
 intro C w tm a ht st hB
 have hd := st.tmps d v (ht d v (by simp [Al.at, Nat.beq_refl]))
 refine k C w (tm.put (d + 1) d (some v')) a (fun i u hu => ?_) ⟨st.sim, st.glob, fun i u hu => ?_, st.size, st.dfs⟩ hB
 ·rw [Tr.get_put];simp only [Al.at] at hu;cases hb : Nat.beq d i with
  | true => rw [hb] at hu; have := Nat.eq_of_beq_eq_true hb; subst this; rw [if_pos rfl]; exact hu
  | false =>
   rw [hb] at hu
   rw [if_neg (fun he => by subst he; rw [Nat.beq_refl] at hb; cases hb)]
   exact ht i u (by simp only [Al.at]; rw [hb]; exact hu)
 ·have hu : (tm.put (d + 1) d (some v')).get i = some u := hu;rw [Tr.get_put] at hu
  by_cases hi : i = d
  ·subst hi; rw [if_pos rfl] at hu; cases hu; exact h _ _ _ _ hd
  ·rw [if_neg hi] at hu; exact st.tmps i u hu
theorem E2 {ops r : List Oper} {op : Op} {d : Nat} {ty : Nat} {pos : String} {after : Array Edge} {v v' : AV} {σ₁ : Sto} (h : Bu E (fun _ _ _ => none) op ρ σ v σ₁) (hw : Wk v v') (hn : F5 op = true) (hd : Nat.blt d nt = true)
  (k : TO E nt df B ops r K ((d, v') :: ρ) σ₁) : TO E nt df B ops ({ dst := some d, op := op, type := ty, pos := pos, after := after, guard := none } :: r) K ρ σ :=
 X2 noR hn hd h (TO_wk hw k)
theorem Aq {ops r : List Oper} {f : Operand} {args : Array Operand} {tys : Array Nat} {dst : Option Nat} {ty : Nat} {pos : String} {after : Array Edge} {k : Nat} {first cap vs full : List AV} {v : AV} (hd : Df nt dst = true)
  (hf : A0 E ρ f = some (.fn (.func k) first cap)) (ha : K7 E ρ args.toList = some vs) (hl : first ++ vs ++ cap = full) (hc : Ah E k full σ fun u τ => u = v /\ τ = σ')
  (kk : TO E nt df B ops r K (Es dst v ρ) σ') : TO E nt df B ops ({ dst := dst, op := .call ⟨.value f, args, tys⟩, type := ty, pos := pos, after := after, guard := none } :: r) K ρ σ :=
 Cu hd hf ha hl hc fun u τ h => by obtain ⟨rfl, rfl⟩ := h; exact kk
theorem B0 {ops r : List Oper} {oj : Oper} {j dj : Nat} {b want : Bool} {f : Operand} {args : Array Operand} {tys : Array Nat} {dst : Option Nat} {ty : Nat} {pos : String} {after : Array Edge} {k : Nat} {first cap vs full : List AV} {v : AV}
  (hj : ops[j]? = some oj) (hdj : oj.dst = some dj) (hb : Al.at ρ dj = some (.bool b)) (hw : cond b want (!want) = true) (hd : Df nt dst = true)
  (hf : A0 E ρ f = some (.fn (.func k) first cap)) (ha : K7 E ρ args.toList = some vs) (hl : first ++ vs ++ cap = full) (hc : Ah E k full σ fun u τ => u = v /\ τ = σ')
  (kk : TO E nt df B ops r K (Es dst v ρ) σ') : TO E nt df B ops ({ dst := dst, op := .call ⟨.value f, args, tys⟩, type := ty, pos := pos, after := after, guard := some (j, want) } :: r) K ρ σ :=
 Al2 hj hdj hb hw hd hf ha hl hc fun u τ h => by obtain ⟨rfl, rfl⟩ := h; exact kk
theorem Aij {t i : Nat} {x y : Operand} {s : Str} {b : UInt8} {k : IntKind} (hi : Dz E.P t = true) (hx : A0 E ρ x = some (sV s)) (hy : A0 E ρ y = some (.int k (.ofNat i))) (hb : s[i]? = some b) :
  Bu E Rr (.index t x y) ρ σ (.int .u8 (.ofNat b.toNat)) σ := Aec hi hx hy (by rw [List.getElem?_map, hb]; rfl)
theorem Akg {n : Int} (h1 : -9223372036854775808 <= n) (h2 : n < 9223372036854775808) : Nd .i64 n = .int .i64 n := by
 cases n with
 | ofNat m =>
  have : Nat.ble m 9223372036854775807 = true := Nat.ble_eq_true_of_le (by have : (m : Int) < 9223372036854775808 := h2; omega)
  simp only [Nd, Au, Mb, this, cond_true]
 | negSucc m =>
  have : Nat.ble m 9223372036854775807 = true := Nat.ble_eq_true_of_le (by omega)
  simp only [Nd, Au, Mb, this, cond_true]
theorem Wf {t ty : Nat} {x y : Operand} {p q : Int} (hi : okI E.P t = true) (hx : A0 E ρ x = some (.int .i64 p)) (hy : A0 E ρ y = some (.int .i64 q)) (h1 : -9223372036854775808 <= p - q) (h2 : p - q < 9223372036854775808) :
  Bu E Rr (.binOp .sub t x y ty) ρ σ (iV (p - q)) σ := N3 hi hx hy (by simp only [Hi, T7, Akg h1 h2]; rfl)
theorem Aco {t ty : Nat} {x y : Operand} {p q : Nat} (hi : okI E.P t = true) (hx : A0 E ρ x = some (.int .i64 (.ofNat p))) (hy : A0 E ρ y = some (.int .i64 (.ofNat q))) (h : q <= p) (hp : p < 9223372036854775808) :
  Bu E Rr (.binOp .sub t x y ty) ρ σ (iV (.ofNat (p - q))) σ := by
 have := Wf (Rr := Rr) (σ := σ) (ty := ty) hi hx hy (by simp only [Int.ofNat_eq_natCast]; omega) (by simp only [Int.ofNat_eq_natCast]; omega)
 rwa [show (Int.ofNat p - Int.ofNat q) = Int.ofNat (p - q) by simp only [Int.ofNat_eq_natCast]; omega] at this
theorem X6 {ops r : List Oper} {t ty0 : Nat} {x : Operand} {d ty : Nat} {pos : String} {after : Array Edge} {cs : List AV} {sz len : Nat} {cap : Option Nat} (hsl : Ge E.P t = true) (hx : A0 E ρ x = some (.sv cs sz len cap)) (hd : Nat.blt d nt = true)
  (k : ∀ b : Bool, (b = true -> len = 0) -> TO E nt df B ops r K ((d, .bool b) :: ρ) σ) :
  TO E nt df B ops ({ dst := some d, op := .binOp .eql t x (.const (.slice none 0 0)) ty0, type := ty, pos := pos, after := after, guard := none } :: r) K ρ σ := by
 have hti : ∃ ti e, Bi E.P t = some ti /\ ti.desc = .slice e := by
  unfold Ge at hsl
  split at hsl
  ·rename_i ti hti
   split at hsl
   ·rename_i e he; exact ⟨ti, e, hti, he⟩
   ·cases hsl
  ·cases hsl
 obtain ⟨ti, e, hti, hde⟩ := hti
 have hu : E.P.underlying t = some (.slice e) := by
  obtain ⟨_, dd, _, g2, g3, _⟩ := Az hti
  exact g2.trans (by rw [← g3, hde])
 refine Aem (Pv := fun v => ∃ b : Bool, v = .bool b /\ (b = true -> len = 0)) (dst := some d) (σ' := σ) hd (fun C w tm a ht st => ?_) (fun v hv => by obtain ⟨b, rfl, hb⟩ := hv; exact k b hb)
 have hv := B4 st.glob st.tmps x;rw [ht.opd hx] at hv;unfold R at hv;obtain ⟨ado, kk, h1, h2, h3, h4, h5, h6⟩ := hv;have fin : ∀ {X : Value} {b : Bool}, a.eval x = X -> (∀ l, X ≠ .agg l) -> X ≠ .nilIface -> (binOp .eql t X (.slice none 0 0)).run E.P w = .ok (.bool b) w ->
   (execOp a.eval { dst := some d, op := .binOp .eql t x (.const (.slice none 0 0)) ty0, type := ty, pos := pos, after := after, guard := none }).run E.P w = .ok (.value (.bool b)) w := by
  intro X b hX hn1 hn2 hb;have hg := El (P := E.P) (w := w) (op := .eql) (t := t) (x := x) (y := .const (.slice none 0 0)) (a := X) (b := .slice none 0 0) (fun l m hh => hn1 l hh.1) (fun hh => hn2 hh.1)
  have hY : a.eval (.const (.slice none 0 0)) = .slice none 0 0 := rfl;simp only [execOp, hX, hY, Sem.run_bind, hg, Result.andThen_ok, hb, Sem.run_pure]
 cases ado with
 | some ad =>
  have := (EqR.slice (w := w) hu ⟨_, rfl⟩ ad len kk).1.eql
  exact ⟨.bool false, ⟨false, rfl, fun h => by cases h⟩, .bool false, w, C, .inl (fin h1 (fun l h => by cases h) (fun h => by cases h) this), by unfold R; rfl, st.sim, Ext.refl _ _ _⟩
 | none =>
  have hk := h5 rfl;subst hk
  have hl : len = 0 := by omega
  subst hl;have := (EqR.slice (w := w) hu ⟨_, rfl⟩ ⟨0, 0, none⟩ 0 0).2.2.eql
  exact ⟨.bool true, ⟨true, rfl, fun _ => rfl⟩, .bool true, w, C, .inl (fin h1 (fun l h => by cases h) (fun h => by cases h) this), by unfold R; rfl, st.sim, Ext.refl _ _ _⟩
end
def X7 (E : Env) (ρ : Al) (fl : List (Nat × Nat)) : List (Nat × Operand) -> Option (List (Nat × Nat × AV))
 | [] => some []
 | (i, x) :: r => match fl[i]?, A0 E ρ x, X7 E ρ fl r with
  | some (o, n), some v, some l => some ((o, n, v) :: l)
  | _, _, _ => none
def Uf (E : Env) (ρ : Al) (sz : Nat) : List (Nat × Operand) -> Option (List (Nat × Nat × AV))
 | [] => some []
 | (i, x) :: r => match A0 E ρ x, Uf E ρ sz r with
  | some v, some l => some ((i * sz, sz, v) :: l)
  | _, _ => none
section
variable {E : Env} {ρ : Al} {σ σ' : Sto} {tm : Tr AV} {Rr : Rec}
theorem Aik {P : Program} : ∀ {fs : List Field} {fl : List (Nat × Nat)}, bdF P fs = some fl -> ∀ (i : Nat) (p : Nat × Nat), fl[i]? = some p -> ∃ (f : Field) (ti : TI), fs[i]? = some f /\ Bi P f.type = some ti /\ p = (f.offset, ti.size)
 | [], fl, h, i, p, hp => by simp only [bdF, Option.some.injEq] at h; subst h; simp at hp
 | f :: r, fl, h, i, p, hp => by
  simp only [bdF] at h
  split at h
  ·rename_i ti l hti hl
   cases h;cases i with
   | zero => simp at hp; exact ⟨f, ti, rfl, hti, hp.symm⟩
   | succ i => obtain ⟨g, tj, h1, h2, h3⟩ := Aik hl i p (by simpa using hp); exact ⟨g, tj, by simpa using h1, h2, h3⟩
  ·cases h
theorem Aep (h : Has tm ρ) {fs : List Field} {fl : List (Nat × Nat)} (hf : bdF E.P fs = some fl) : ∀ {l : List (Nat × Operand)} {ps : List (Nat × Nat × AV)}, X7 E ρ fl l = some ps -> Iq E.P E tm fs l = some ps
 | [], ps, hp => by simp only [X7, Option.some.injEq] at hp; subst hp; rfl
 | (i, x) :: r, ps, hp => by
  simp only [X7] at hp
  split at hp
  ·rename_i o n v l h1 h2 h3
   cases hp;obtain ⟨f, ti, k1, k2, k3⟩ := Aik hf i _ h1;cases k3;simp only [Iq, k1, Aep h hf h3, k2, h.opd h2]
  ·cases hp
theorem X8 (h : Has tm ρ) {sz : Nat} : ∀ {l : List (Nat × Operand)} {ps : List (Nat × Nat × AV)}, Uf E ρ sz l = some ps -> Hj E tm sz l = ps
 | [], ps, hp => by simp only [Uf, Option.some.injEq] at hp; subst hp; rfl
 | (i, x) :: r, ps, hp => by
  simp only [Uf] at hp
  split at hp
  ·rename_i v l h2 h3
   cases hp;simp only [Hj, h.opd h2, X8 h h3]
  ·cases hp
theorem Cl {t : Nat} {parts : Array (Nat × Operand)} {z cs : List AV} {fl : List (Nat × Nat)} {ps : List (Nat × Nat × AV)} (hi : bdI E.P t = some (z, fl)) (hp : X7 E ρ fl parts.toList = some ps) (hf : R7 z ps = some cs) :
  Bu E Rr (.build t parts) ρ σ (.agg cs) σ := fun tm h => by
 unfold bdI at hi
 split at hi
 ·rename_i ti hti
  split at hi
  ·rename_i z' fs hz hd
   split at hi
   ·rename_i l h1 h2
    cases hi;simp only [opA, Bm, hti, hz, hd, h1, Aep h h2 hp, Lh, hf]
   ·cases hi
  ·cases hi
 ·cases hi
theorem Br {t len sz by' : Nat} {z cs : List AV} {parts : Array (Nat × Operand)} {ps : List (Nat × Nat × AV)} (hi : elI E.P t = some (sz, by', some z)) (hby : ∀ e, E.byref e = false) (hl : (Nat.ble (len * sz) 16777216 && Nat.beq z.length sz) = true)
  (hp : Uf E ρ sz parts.toList = some ps) (hf : R7 (rep z len) ps = some cs) : Bu E Rr (.buildSlice t len parts) ρ σ (.sv cs sz len (some len)) σ := fun tm h => by
 obtain ⟨ti, e, te, h1, h2, h3, h4, h5, h6⟩ := S6 hi;subst h4;simp only [opA, Bm, h1, h2, h3, h6, hl, hby, X8 h hp, Hc, hf]
theorem Al5 {α : Type} {enc : α -> List AV} {sz : Nat} (he : ∀ a, (enc a).length = sz) (l : List α) {a b : Nat} (hab : a <= b) (hb : b <= l.length) :
  D1 ((b - a) * sz) ((l.flatMap enc).drop (a * sz)) = some (((l.take b).drop a).flatMap enc) := by
 rw [Ue he]
 have hlen : ((l.take b).drop a).length = b - a := by simp; omega
 have e : l.drop a = (l.take b).drop a ++ l.drop b := by
  have h1 : l = l.take b ++ l.drop b := (List.take_append_drop b l).symm
  calc l.drop a = (l.take b ++ l.drop b).drop a := by rw [← h1]
   _ = (l.take b).drop a ++ l.drop b := by rw [List.drop_append_of_le_length (by simp; omega)]
 rw [e, List.flatMap_append];have := He (l := ((l.take b).drop a).flatMap enc) (r := (l.drop b).flatMap enc)
 rwa [Ez he, hlen] at this
theorem Agp {α : Type} {enc : α -> List AV} {t sz by' a b : Nat} {zz : Option (List AV)} {l : List α} {x : Operand} {lo hi mx : Option Operand} {alo ahi amx : Option AV} {c : Option Nat} (hel : elI E.P t = some (sz, by', zz)) (he : ∀ a, (enc a).length = sz)
  (hx : A0 E ρ x = some (slV enc sz l)) (h1 : Gd E ρ lo = some alo) (h2 : Gd E ρ hi = some ahi) (h3 : Gd E ρ mx = some amx) (hb : C6 l.length none alo ahi amx = some (a, b, c)) (hab : a <= b) (hbl : b <= l.length) :
  Bu E Rr (.slice t x lo hi mx) ρ σ (.sv (((l.take b).drop a).flatMap enc) sz (b - a) c) σ := fun tm h => by
 obtain ⟨ti, e, te, k1, k2, k3, k4, k5, k6⟩ := S6 hel;subst k4;simp only [opA, Bm, k1, k2, k3, h.opd hx, h.opdO h1, h.opdO h2, h.opdO h3, slV, Mc, Nat.beq_refl, hb, Al5 he l hab hbl, Au]
theorem B5 {t t2 sz by' n : Nat} {z : List AV} {x y : Operand} {d s v : AV} {new : List AV} (hi : elI E.P t = some (sz, by', some z)) (hl : Nat.beq z.length sz = true) (hs : Ge E.P t2 = true) (hx : A0 E ρ x = some d) (hy : A0 E ρ y = some s)
  (hn : lenA s = some n) (hsrc : Gl σ sz s n = some new) (ha : Cj σ sz by' d n new = some (v, σ')) : Bu E Rr (.call ⟨.builtin .append, #[x, y], #[t, t2]⟩) ρ σ v σ' := fun tm h => by
 obtain ⟨ti, e, te, h1, h2, h3, h4, h5, h6⟩ := S6 hi;subst h4 h5;unfold Ge at hs
 split at hs
 ·rename_i t2i ht2
  split at hs
  ·rename_i e2 hd2
   simp only [opA, Bm, h1, Eb, h2, h3, ht2, h6, hl, hd2, h.opd hx, h.opd hy, opds, Sl, hn, hsrc, ha]
  ·cases hs
 ·cases hs
def Below (N : Nat) (σ σ' : Sto) : Prop := nx σ <= nx σ' /\ ∀ a, a < N -> σ'.get a = σ.get a
theorem Below.rfl' {N : Nat} : Below N σ σ := ⟨nl, fun _ _ => rfl⟩
theorem Below.trans {N : Nat} {σ'' : Sto} (h : Below N σ σ') (k : Below N σ' σ'') : Below N σ σ'' := ⟨Nat.le_trans h.1 k.1, fun a ha => (k.2 a ha).trans (h.2 a ha)⟩
end
theorem Below.new {N : Nat} {σ σ' : Sto} (h : Below N σ σ') (hN : N <= nx σ) (o : AO) : Below N σ (σ'.new o) :=
 ⟨by rw [Ap]; have := h.1; omega, fun a ha => by rw [Sto.get_new, if_neg (by have := h.1; omega)]; exact h.2 a ha⟩
theorem Below.set {N a : Nat} {σ σ' : Sto} (h : Below N σ σ') (ha : N <= a) (o : AO) : Below N σ (σ'.set a o) :=
 ⟨by rw [An]; exact h.1, fun b hb => by rw [Sto.get_set, if_neg (by omega)]; exact h.2 b hb⟩
theorem Aw.below {σ σ' : Sto} (hw : WFS σ) (h : Below (nx σ) σ σ') : Aw σ' σ := Aw.of_same hw h.1 h.2
theorem Vd {N : Nat} : ∀ {l m : List AV}, AV.unds N (l ++ m) = (AV.unds N l && AV.unds N m)
 | [], m => by simp [AV.unds]
 | x :: l, m => by simp only [List.cons_append, AV.unds, Vd (l := l), Bool.and_assoc]
theorem Ce {N : Nat} {α : Type} {enc : α -> List AV} (h : ∀ a, AV.unds N (enc a) = true) : ∀ l : List α, AV.unds N (l.flatMap enc) = true
 | [] => rfl
 | a :: r => by rw [List.flatMap_cons, Vd, h a, Ce h r]; rfl
theorem Jo {N : Nat} {α : Type} {enc : α -> List AV} {sz : Nat} (h : ∀ a, AV.unds N (enc a) = true) (l : List α) : AV.und N (slV enc sz l) = true := Ce h l
mutual
theorem Ay.ind' {P : Ay -> Prop} (h : ∀ l ks, (∀ t ∈ ks, P t) -> P (.node l ks)) : ∀ t, P t
 | .node l ks => h l ks (Ay.indL' h ks)
theorem Ay.indL' {P : Ay -> Prop} (h : ∀ l ks, (∀ t ∈ ks, P t) -> P (.node l ks)) : ∀ (ks : List Ay), ∀ t ∈ ks, P t
 | [], t, ht => by simp at ht
 | k :: r, t, ht => by
  have h1 := Ay.ind' h k;have h2 := Ay.indL' h r
  rcases List.mem_cons.1 ht with hh | hh
  ·rw [hh]; exact h1
  ·exact h2 t hh
end
mutual
def Ll : Ay -> Int -> Int
 | .node _ ks, n => Mx ks (n - 1)
def Mx : List Ay -> Int -> Int
 | [], n => n
 | t :: r, n => if 0 <= n then Mx r (Ll t n) else n
end
theorem Akh (t : Ay) (r : List Ay) (n : Int) : Mx (t :: r) n = if 0 <= n then Mx r (Ll t n) else n := by rw [Mx]
mutual
theorem Ail : ∀ (t : Ay) (n : Int), 0 <= n -> -1 <= Ll t n /\ Ll t n <= n - 1
 | .node _ ks, n, h => by unfold Ll; have := Aim ks (n - 1) (by omega); omega
theorem Aim : ∀ (l : List Ay) (n : Int), -1 <= n -> -1 <= Mx l n /\ Mx l n <= n
 | [], n, h => by unfold Mx; omega
 | t :: r, n, h => by
  unfold Mx
  split
  ·have h1 := Ail t n (by assumption)
   have h2 := Aim r (Ll t n) h1.1;omega
  ·omega
end
theorem Aeq {l : List Ay} {n : Int} (h : n < 0) : Mx l n = n := by
 cases l with
 | nil => unfold Mx; rfl
 | cons t r => unfold Mx; rw [if_neg (by omega)]
theorem Aer {N : Nat} : ∀ {l m : List AV}, AV.unds N l = true -> AV.unds N m = true -> AV.unds N (l ++ m) = true
 | [], m, _, h => h
 | x :: l, m, h, k => by simp only [List.cons_append, AV.unds, Bool.and_eq_true] at h ⊢; exact ⟨h.1, Aer h.2 k⟩
mutual
theorem Jx {N : Nat} : ∀ t : Ay, AV.unds N (eT t) = true
 | .node l ks => by simp only [eT, AV.unds, AV.und, sV, X9 ks, Bool.and_self]
theorem X9 {N : Nat} : ∀ l : List Ay, AV.unds N (eTs l) = true
 | [] => rfl
 | t :: r => by simp only [eTs]; exact Aer (Jx t) (X9 r)
end
theorem Ya {N : Nat} (t : Ay) : AV.und N (A4 t) = true := Jx t
mutual
def L4 : Ay -> Bool
 | .node _ ks => decide (ks.length < 4611686018427387904) && Rb ks
def Rb : List Ay -> Bool
 | [] => true
 | t :: r => L4 t && Rb r
end
theorem Yb : ∀ {l : List Ay}, Rb l = true -> ∀ t ∈ l, L4 t = true
 | [], _, t, ht => by simp at ht
 | a :: r, h, t, ht => by
  simp only [Rb, Bool.and_eq_true] at h
  rcases List.mem_cons.1 ht with hh | hh
  ·rw [hh]; exact h.1
  ·exact Yb h.2 t hh
theorem Yc {l : Str} {ks : List Ay} (h : L4 (.node l ks) = true) : ks.length < 4611686018427387904 /\ ∀ t ∈ ks, L4 t = true := by
 simp only [L4, Bool.and_eq_true, decide_eq_true_eq] at h;exact ⟨h.1, Yb h.2⟩
section
variable {E : Env} {nt B : Nat} {df : List (Nat × List AV)} {ρ ρ' : Al} {σ σ' : Sto} {K : Al -> Sto -> Prop}
theorem Agq {v : AV} {sz : Nat} {cs : List AV} (hc : v.cellsN sz = some cs) : cs.length = sz := by
 unfold AV.cellsN at hc
 split at hc <;> try (cases hc; done)
 ·cases hb' : Nat.beq ‹List AV›.length sz with
  | true => rw [hb'] at hc; cases hc; exact Nat.eq_of_beq_eq_true hb'
  | false => rw [hb'] at hc; cases hc
 ·cases hb' : Nat.beq sz 1 with
  | true => rw [hb'] at hc; cases hc; exact (Nat.eq_of_beq_eq_true hb').symm
  | false => rw [hb'] at hc; cases hc
theorem Agr {v : AV} {sz N : Nat} {cs : List AV} (hc : v.cellsN sz = some cs) (hv : AV.und N v = true) : AV.unds N cs = true := by
 unfold AV.cellsN at hc
 split at hc <;> try (cases hc; done)
 ·cases hb' : Nat.beq ‹List AV›.length sz with
  | true => rw [hb'] at hc; cases hc; exact hv
  | false => rw [hb'] at hc; cases hc
 ·cases hb' : Nat.beq sz 1 with
  | true => rw [hb'] at hc; cases hc; simp only [AV.unds, hv, Bool.and_self]
  | false => rw [hb'] at hc; cases hc
theorem K9 {ops r : List Oper} {t d e sz : Nat} {agg : Bool} {x y : Operand} {ty ty' ty'' : Nat} {pos pos' pos'' : String} {after after' after'' : Array Edge} {z cs : List AV} {v u : AV} (hz : zI E.P t = some z) (hi : ldI E.P t = some (sz, agg)) (hl : Nat.beq z.length sz = true)
  (hy : A0 E ρ y = some u) (hy' : ∀ p, A0 E ((d, p) :: ρ) y = some u) (hv : A0 E ρ x = some v) (hx : ∀ p, A0 E ((e, u) :: (d, p) :: ρ) x = some v) (hde : Nat.beq e d = false) (hc : v.cellsN sz = some cs) (hd : Nat.blt d nt = true) (he : Nat.blt e nt = true) [Acm E] (hdf : df = [])
  (k : TO E nt df B ops r K ((e, u) :: (d, .pv cs) :: ρ) σ) :
  TO E nt df B ops ({ dst := some d, op := .alloc t, type := ty, pos := pos, after := after, guard := none } :: { dst := some e, op := .assign y, type := ty'', pos := pos'', after := after'', guard := none } ::
   { dst := none, op := .store t (.tmp d) x, type := ty', pos := pos', after := after', guard := none } :: r) K ρ σ := by
 subst hdf;intro C w tm a ht st hB;have hwf := st.sim.wfs;have hund : ∀ i u, Al.at ρ i = some u -> AV.und (nx σ) u = true := fun i u hu => R.und _ _ (st.tmps i u (ht i u hu))
 have hou : ∀ (o : Operand) v, A0 E ρ o = some v -> AV.und (nx σ) v = true := fun o v ho => by
  have hvR := B4 st.glob st.tmps o;rw [ht.opd ho] at hvR;exact R.und _ _ hvR
 have hcu := Agr hc (hou x v hv)
 have hcs : cs.length = z.length := by rw [Agq hc]; exact (Nat.eq_of_beq_eq_true hl).symm
 have key : TO E nt [] B ops ({ dst := some d, op := .alloc t, type := ty, pos := pos, after := after, guard := none } :: { dst := some e, op := .assign y, type := ty'', pos := pos'', after := after'', guard := none } ::
   { dst := none, op := .store t (.tmp d) x, type := ty', pos := pos', after := after', guard := none } :: r) K ρ σ := by
  refine Q8 noR (σ₁ := σ.new (.cells z)) (ρ₁ := (d, .pr (nx σ) 0) :: ρ) (fun tm' ht' => ⟨_, X4 hz hd, ht'.put d _⟩) ?_
  refine X2 noR rfl he (Bv (hy' _)) ?_
  refine X2 noR rfl rfl (A6 (vs := z) (vs' := cs) (ad := nx σ) (off := 0) (v := v) (cs := cs) hi (by simp [A0, Es, Al.at, Nat.beq_refl, hde]) (hx _) hc Cd (Ey hcs)) ?_
  simp only [Es];refine Al0 σ ((e, u) :: (d, .pv cs) :: ρ) ?_ hB ?_ k
  ·refine Aw.of_same hwf (by rw [An, Ap]; exact Nat.le_succ _) fun b hb => ?_
   rw [Sto.get_set, if_neg (by omega), Sto.get_new, if_neg (by omega)]
  ·intro i u' hu;simp only [Al.at] at hu ⊢;cases hb : Nat.beq e i with
   | true =>
    rw [hb] at hu; simp only [cond_true, Option.some.injEq] at hu ⊢;subst hu;exact ⟨_, rfl, .same (hou y _ hy)⟩
   | false =>
    rw [hb] at hu;simp only [cond_false] at hu ⊢;cases hb2 : Nat.beq d i with
    | true =>
     rw [hb2] at hu; simp only [cond_true, Option.some.injEq] at hu ⊢;subst hu
     refine ⟨_, rfl, .pr (vs := cs) (by rw [Sto.get_set, if_pos rfl]) ?_ (FzL.same hcu)⟩
     cases hg : σ.get (nx σ) with
     | none => rfl
     | some O => exact absurd (hwf _ _ hg).1 (Nat.lt_irrefl _)
    | false => rw [hb2] at hu; exact ⟨u', hu, .same (hund i u' hu)⟩
 exact key C w tm a ht st hB
def KDI (Q : Dh) (σ : Sto) : KD := fun ρ' σ' eps _ => σ' = σ /\ (∀ e ∈ eps, e = σ) /\ Q .normal ρ' σ
theorem Gu {Q : Dh} {Rr : Rec} {id : Nat} {ops : Array Oper} {anns : List Ann} (hm : E.P.follows .mixedOrders = true) (hR : Bc E Rr) (ha : Mg E ops = some anns)
  (h : TD E nt Rr ops.toList ops.toList (KDI Q σ) ρ σ [σ] []) : T E nt df B (.region id ops true) Q ρ σ := by
 intro C w tm a ht st hB;obtain ⟨c1, c2, c3, c4⟩ := Kc ha;obtain ⟨d, k1, k2, k3, ρ', log', k4, k5, k6, k7, k8⟩ := h tm df [] ht trivial;refine wp_mono (Aao hm hR st c1 c2 c3 k1 fun j o t v ho hl hcl hg σk hσ => ?_) fun e a' w' he => ?_
 ·have hσ' : σk = σ := k7 σk (by simpa using List.mem_of_mem_drop (List.mem_of_mem_take hσ))
  subst hσ';obtain ⟨log, eps, lex, g2, g3, g4, g5⟩ := L0 k1;simp only [List.reverse_nil, List.nil_append, List.reverse_cons] at g2 g3;obtain ⟨x1, x2, x3, x4, x5⟩ := Xw lex
  obtain ⟨t', v', t₁, σ₀, σ₁, y1, y2, y3, y4, y5, y6⟩ := x5 j o (by simpa using ho)
  rw [g2] at hl;rw [hl] at y1; cases y1
  have hσ0 : σ₀ = σk := by
   refine k7 σ₀ ?_
   have : σ₀ ∈ d.eps.reverse := by rw [g3]; exact List.mem_of_getElem? y3
   simpa using this
  subst hσ0
  have hne : Cw (B9 E o.op) = false := by rw [hcl]; rfl
  rcases y5 with ⟨z1, z2⟩ | ⟨z1, z2⟩
  ·rw [J9 hne] at z2; exact ⟨σ₁, z2⟩
  ·rw [z1] at hg; cases hg
 ·obtain ⟨y, hy, C', h1, h2, h3⟩ := he;rw [List.mem_singleton] at hy;subst hy;obtain ⟨⟨tm', nt', df', σ'⟩, eps', dl'⟩ := d;simp only at k2 k3 k6;subst k2 k3 k6;exact ⟨.normal, tm', ρ', σ', C', h1, k4, k8, h2, Nat.le_trans hB h3.next, h3.base hB⟩
theorem Cz {f f' : Nat} {a a' : List AV} {s s' t : Sto} {v : AV} {r : List (Nat × List AV × Sto × AV × Sto)} {o : Option (AV × Sto)} (h : f' ≠ f) (k : Gf r f' a' t = o) : Gf ((f, a, s, v, s') :: r) f' a' t = o := by
 simp only [Gf]; rw [if_neg (fun hh => h hh.1)]; exact k
theorem Cc {a t b off sz : Nat} {agg : Bool} {vs : List AV} {v : AV} {r : List ResultVar} {l : List AV} (hi : ldI E.P t = some (sz, agg)) (ha : Al.at ρ a = some (.pr b off)) (hc : σ.cells b = some vs) (hv : Lz sz agg (vs.drop off) = some v) (hr : Te E ρ σ r = some l) :
  Te E ρ σ (.cell a t :: r) = some (v :: l) := by
 obtain ⟨ti, h1, h2, h3⟩ := Pa hi;subst h2 h3;simp only [Te, h1, ha, hc, hv, hr]
theorem Fe {t : Nat} {v : AV} {r : List ResultVar} {l : List AV} (hv : Al.at ρ t = some v) (hr : Te E ρ σ r = some l) : Te E ρ σ (.tmp t :: r) = some (v :: l) := by
 simp only [Te, hv, hr]
theorem C7 {σ τ : Sto} {sz : Nat} : Fz σ τ (.nil (.slice none 0 0)) (.sv [] sz 0 none) := .nils (fun q hq => by cases hq)
end
abbrev SM (α : Type) := List (Str × α)
def kS (s : Str) : Key := .str (s.map UInt8.toNat)
def Ct {α : Type} (enc : α -> AV) (m : SM α) : List (Key × AV) := m.map fun p => (kS p.1, enc p.2)
def SM.get {α : Type} : SM α -> Str -> Option α
 | [], _ => none
 | (k, v) :: r, s => if s = k then some v else SM.get r s
def SM.set {α : Type} : SM α -> Str -> α -> SM α
 | [], _, _ => []
 | (k, v) :: r, s, x => if s = k then (k, x) :: r else (k, v) :: SM.set r s x
def SM.ins {α : Type} : SM α -> Str -> α -> SM α
 | [], s, x => [(s, x)]
 | (k, v) :: r, s, x => if Key.lt (kS s) (kS k) then (s, x) :: (k, v) :: r else (k, v) :: SM.ins r s x
def SM.put {α : Type} (m : SM α) (s : Str) (x : α) : SM α := match m.get s with | some _ => m.set s x | none => m.ins s x
def SM.has (m : SM Bool) (s : Str) : Bool := (m.get s).getD false
theorem Aes (a b : Str) : Key.eq (kS a) (kS b) = decide (a = b) := by
 show Ft _ _ = _
 by_cases h : a = b
 ·rw [decide_eq_true h]; subst h; exact (Fw _ _).2 rfl
 ·rw [decide_eq_false h];cases hb : Ft (a.map UInt8.toNat) (b.map UInt8.toNat) with
  | true => exact absurd (Fa.1 ((Fw _ _).1 hb)) h
  | false => rfl
section
variable {α : Type} {enc : α -> AV} {m : SM α} {s t : Str} {x : α}
theorem Hf : ∀ {m : SM α}, D2 (kS s) (Ct enc m) = (m.get s).map enc
 | [] => rfl
 | (k, v) :: r => by
  show cond (Key.eq (kS s) (kS k)) (some (enc v)) (D2 (kS s) (Ct enc r)) = _
  rw [Aes, SM.get]
  by_cases h : s = k
  ·rw [decide_eq_true h, cond_true, if_pos h]; rfl
  ·rw [decide_eq_false h, cond_false, if_neg h]; exact Hf
theorem Yd : ∀ {m : SM α}, Pj (kS s) (enc x) (Ct enc m) = Ct enc (m.set s x)
 | [] => rfl
 | (k, v) :: r => by
  show cond (Key.eq (kS s) (kS k)) ((kS k, enc x) :: Ct enc r) ((kS k, enc v) :: Pj (kS s) (enc x) (Ct enc r)) = _
  rw [Aes, SM.set]
  by_cases h : s = k
  ·rw [decide_eq_true h, cond_true, if_pos h]; rfl
  ·rw [decide_eq_false h, cond_false, if_neg h, Yd]; rfl
theorem Ye : ∀ {m : SM α}, Nm (kS s) (enc x) (Ct enc m) = Ct enc (m.ins s x)
 | [] => rfl
 | (k, v) :: r => by
  show cond (Key.lt (kS s) (kS k)) ((kS s, enc x) :: (kS k, enc v) :: Ct enc r) ((kS k, enc v) :: Nm (kS s) (enc x) (Ct enc r)) = _
  rw [SM.ins];cases h : Key.lt (kS s) (kS k)
  ·rw [cond_false, if_neg (by simp), Ye]; rfl
  ·rw [cond_true, if_pos rfl]; rfl
theorem Al6 : mput (kS s) (enc x) (Ct enc m) = Ct enc (m.put s x) := by
 unfold mput SM.put;rw [Hf];cases m.get s with
 | none => exact Ye
 | some y => exact Yd
theorem SM.get_set : ∀ {m : SM α}, (m.set s x).get t = if t = s /\ (m.get s).isSome then some x else m.get t
 | [] => by simp [SM.set, SM.get]
 | (k, v) :: r => by
  unfold SM.set
  by_cases h : s = k
  ·subst h;rw [if_pos rfl];simp only [SM.get, if_true, Option.isSome_some, and_true]
   by_cases ht : t = s
   ·simp [ht]
   ·simp [ht]
  ·rw [if_neg h];simp only [SM.get, if_neg h]
   by_cases ht : t = k
   ·subst ht;rw [if_pos rfl, if_pos rfl, if_neg (fun hh => h hh.1.symm)]
   ·rw [if_neg ht, if_neg ht]; exact SM.get_set
theorem SM.get_ins : ∀ {m : SM α}, m.get s = none -> (m.ins s x).get t = if t = s then some x else m.get t
 | [], _ => by simp [SM.ins, SM.get]
 | (k, v) :: r, hn => by
  have hk : s ≠ k := fun h => by simp [SM.get, h] at hn
  have hr : SM.get r s = none := by simpa [SM.get, hk] using hn
  unfold SM.ins
  split
  ·simp only [SM.get]
  ·simp only [SM.get]
   by_cases ht : t = k
   ·subst ht; rw [if_pos rfl, if_neg (fun h => hk h.symm), if_pos rfl]
   ·rw [if_neg ht, if_neg ht]; exact SM.get_ins hr
theorem SM.get_put : (m.put s x).get t = if t = s then some x else m.get t := by
 unfold SM.put;cases h : m.get s with
 | none => exact SM.get_ins h
 | some y => simp only [SM.get_set, h, Option.isSome_some, and_true]
theorem SM.has_put {m : SM Bool} : (m.put s true).has t = (decide (t = s) || m.has t) := by
 unfold SM.has;rw [SM.get_put]
 by_cases h : t = s
 ·rw [if_pos h, decide_eq_true h]; rfl
 ·rw [if_neg h, decide_eq_false h]; rfl
theorem Aar {N : Nat} (h : ∀ a, AV.und N (enc a) = true) (m : SM α) : Ia N (Ct enc m) = true := by
 unfold Ia Ct;rw [List.all_map, List.all_eq_true];intro p _;exact h p.2
end
def Bg {α : Type} (enc : α -> AV) (σ : Sto) (r : Nat) (m : SM α) : Prop := ∃ ver, σ.get r = some (.map 9 (Ct enc m) ver)
abbrev E3 (σ : Sto) (r : Nat) (m : SM Bool) : Prop := Bg bV σ r m
section
variable {E : Env} {ρ : Al} {σ σ' : Sto} {Rr : Rec} {t : Nat} {x y w : Operand} {α : Type} {enc : α -> AV} {m : SM α} {s : Str} {r : Nat}
theorem keyS (h : Dz E.P 9 = true) : Hb E.P 9 (sV s) = some (kS s) := by
 unfold Dz at h
 split at h
 ·rename_i ti hti
  split at h
  ·rename_i hd
   unfold Hb;simp only [hti, hd]
   rfl
  ·cases h
 ·cases h
theorem Ags {z : AV} {sz : Nat} {agg : Bool} (h9 : Dz E.P 9 = true) (hi : mpI E.P t = some (9, z, sz, agg)) (hx : A0 E ρ x = some (.mp r)) (hm : Bg enc σ r m) (hy : A0 E ρ y = some (sV s)) :
  Bu E Rr (.lookup t x y false) ρ σ (((m.get s).map enc).getD z) σ := by
 have := Aj5 (Rr := Rr) hi hx (show Aag σ 9 (Ct enc m) (.mp r) from hm) hy (keyS h9)
 rwa [Hf] at this
theorem Pc {z : AV} {sz : Nat} {agg : Bool} (h9 : Dz E.P 9 = true) (hi : mpI E.P t = some (9, z, sz, agg)) (hx : A0 E ρ x = some (.mp r)) (hm : Bg enc σ r m) (hy : A0 E ρ y = some (sV s)) :
  Bu E Rr (.lookup t x y true) ρ σ (.tup [((m.get s).map enc).getD z, .bool (m.get s).isSome]) σ := by
 have := Agi (Rr := Rr) hi hx (show Aag σ 9 (Ct enc m) (.mp r) from hm) hy (keyS h9)
 rwa [Hf, Option.isSome_map] at this
theorem Dj {sz : Nat} {agg : Bool} {m : SM Bool} (h9 : Dz E.P 9 = true) (hi : mpI E.P t = some (9, .bool false, sz, agg)) (hx : A0 E ρ x = some (.mp r)) (hm : E3 σ r m) (hy : A0 E ρ y = some (sV s)) :
  Bu E Rr (.lookup t x y false) ρ σ (.bool (m.has s)) σ := by
 have := Ags (Rr := Rr) h9 hi hx hm hy
 have e : ((m.get s).map bV).getD (.bool false) = .bool (m.has s) := by unfold SM.has; cases m.get s <;> rfl
 rwa [e] at this
theorem Fj {z : AV} {sz ver : Nat} {agg : Bool} {v : α} (h9 : Dz E.P 9 = true) (hi : mpI E.P t = some (9, z, sz, agg)) (hx : A0 E ρ x = some (.mp r)) (hm : σ.get r = some (.map 9 (Ct enc m) ver))
  (hy : A0 E ρ y = some (sV s)) (hw : A0 E ρ w = some (enc v)) (hf : ∀ te : TI, te.size = sz -> te.isAgg = agg -> Pi te (enc v) = true) :
  Bu E Rr (.mapUpdate t x y w) ρ σ Bd (σ.set r (.map 9 (Ct enc (m.put s v)) (ver + 1))) := by
 have := Aj6 (Rr := Rr) hi hx hm hy (keyS h9) hw hf
 rwa [Al6] at this
end
theorem G2 {te : TI} {n : Nat} {b : Bool} (_ : te.size = n) (h : te.isAgg = false) : Pi te (bV b) = true := by unfold bV Pi; rw [h]; rfl
theorem G3 {te : TI} {n : Nat} {s : Str} (_ : te.size = n) (h : te.isAgg = false) : Pi te (sV s) = true := by unfold sV Pi; rw [h]; rfl
theorem Hu {te : TI} {n : Nat} {k : IntKind} {i : Int} (_ : te.size = n) (h : te.isAgg = false) : Pi te (.int k i) = true := by unfold Pi; rw [h]; rfl
theorem Hv {te : TI} {n r : Nat} (_ : te.size = n) (h : te.isAgg = false) : Pi te (.mp r) = true := by unfold Pi; rw [h]; rfl
theorem Gj {te : TI} {n : Nat} {cs : List AV} (hn : te.size = n) (h : te.isAgg = true) (hc : cs.length = n) : Pi te (.agg cs) = true := by
 show (te.isAgg && Nat.beq cs.length te.size) = true
 rw [h, hn, hc, Nat.beq_refl]; rfl
section
variable {σ σ' : Sto} {α : Type} {enc : α -> AV} {m : SM α} {r a : Nat}
theorem Bg.lt (hw : WFS σ) (h : Bg enc σ r m) : r < nx σ := by obtain ⟨v, h⟩ := h; exact (hw _ _ h).1
theorem Bg.of_get (h : Bg enc σ r m) (hg : σ'.get r = σ.get r) : Bg enc σ' r m := by obtain ⟨v, h⟩ := h; exact ⟨v, hg.trans h⟩
theorem Bg.new (h : Bg enc σ r m) (hw : r < nx σ) {o : AO} : Bg enc (σ.new o) r m := h.of_get (by rw [Sto.get_new, if_neg (by omega)])
theorem Bg.set (h : Bg enc σ r m) {o : AO} (hne : r ≠ a) : Bg enc (σ.set a o) r m := h.of_get (by rw [Sto.get_set, if_neg (by omega)])
theorem Bg.put {ver : Nat} : Bg enc (σ.set r (.map 9 (Ct enc m) ver)) r m := ⟨ver, by rw [Sto.get_set, if_pos rfl]⟩
theorem Bg.fresh {ver : Nat} : Bg enc (σ.new (.map 9 (Ct enc m) ver)) (nx σ) m := ⟨ver, by rw [Sto.get_new, if_pos rfl]⟩
end
section
variable {E : Env} {nt B : Nat} {df : List (Nat × List AV)} {Q : Dh} {Rr : Rec} {ops r : List Oper} {K : KD} {ρ : Al} {σ τ : Sto} {eps : List Sto} {log : List (Al × AV)}
theorem Ain {o : Oper} {b : Bool} (hg : ∀ tm, Has tm ρ -> C8 ops o tm = some false) (he : Cw (B9 E o.op) = b) (hd : Df nt o.dst = true)
  (k : TD E nt Rr ops r K (Es o.dst Bd ρ) σ (cond b (σ :: eps) eps) ((ρ, Bd) :: log)) : TD E nt Rr ops (o :: r) K ρ σ eps log := by
 intro tm df dl ht hl;obtain ⟨tm', h1, h2⟩ := Dw (dst := o.dst) hd ht Bd
 have : O6 E ops o Rr ⟨⟨tm, nt, df, σ⟩, eps, dl⟩ = some ⟨⟨tm', nt, df, σ⟩, cond b (σ :: eps) eps, (tm, Bd) :: dl⟩ := by
  unfold O6;simp only [hg tm ht, h1, he];cases b <;> rfl
 obtain ⟨d', k1, k2⟩ := k tm' df ((tm, Bd) :: dl) h2 ⟨ht, rfl, hl⟩
 exact ⟨d', by simp only [So, this]; exact k1, k2⟩
theorem Lm {o oj : Oper} {j d : Nat} {b want e : Bool} (hg : o.guard = some (j, want)) (hj : ops[j]? = some oj) (hdj : oj.dst = some d) (hb : Al.at ρ d = some (.bool b)) (hw : cond b want (!want) = false)
  (he : Cw (B9 E o.op) = e) (hd : Df nt o.dst = true)
  (k : TD E nt Rr ops r K (Es o.dst Bd ρ) σ (cond e (σ :: eps) eps) ((ρ, Bd) :: log)) : TD E nt Rr ops (o :: r) K ρ σ eps log :=
 Ain (fun tm ht => by rw [Ga ht hg hj hdj hb, hw]) he hd k
theorem Wg {o oj : Oper} {j d : Nat} {want e : Bool} (hg : o.guard = some (j, want)) (hj : ops[j]? = some oj) (hdj : oj.dst = some d) (hb : Al.at ρ d = some Bd)
  (he : Cw (B9 E o.op) = e) (hd : Df nt o.dst = true)
  (k : TD E nt Rr ops r K (Es o.dst Bd ρ) σ (cond e (σ :: eps) eps) ((ρ, Bd) :: log)) : TD E nt Rr ops (o :: r) K ρ σ eps log :=
 Ain (fun tm ht => by simp only [C8, hg, hj, hdj, ht d _ hb]; rfl) he hd k
theorem Acp {α : Type} {enc : α -> List AV} {t sz by' a : Nat} {zz : Option (List AV)} {l : List α} {x : Operand} {lo : Option Operand} {k : IntKind} (hel : elI E.P t = some (sz, by', zz)) (he : ∀ a, (enc a).length = sz)
  (hx : A0 E ρ x = some (slV enc sz l)) (h1 : Gd E ρ lo = some (some (.int k (.ofNat a)))) (ha : a <= l.length) : Bu E Rr (.slice t x lo none none) ρ σ (slV enc sz (l.drop a)) σ := by
 have hb : C6 l.length none (some (.int k (.ofNat a))) none none = some (a, l.length, none) := by
  have h2 : Nat.ble a l.length = true := Nat.ble_eq_true_of_le ha;have h3 : Nat.ble l.length l.length = true := Nat.ble_eq_true_of_le nl;simp only [C6, I3, h2, Ls, h3, cond_true, Bool.and_self, Lg]
 have := Agp (Rr := Rr) (σ := σ) (lo := lo) (hi := none) (mx := none) hel he hx h1 rfl rfl hb ha nl;rw [List.take_length] at this
 rwa [show slV enc sz (l.drop a) = .sv ((l.drop a).flatMap enc) sz (l.length - a) none by rw [← List.length_drop]; rfl]
theorem Ec {c : Code} (h : WFS σ -> T E nt df B c Q ρ σ) : T E nt df B c Q ρ σ := fun C w tm a ht st hB => h st.sim.wfs C w tm a ht st hB
theorem Aqw {ops r : List Oper} {K : Al -> Sto -> Prop} (h : WFS σ -> TO E nt df B ops r K ρ σ) : TO E nt df B ops r K ρ σ := fun C w tm a ht st hB => h st.sim.wfs C w tm a ht st hB
theorem Apx {c : Code} {i : Nat} {v : AV} (hi : Al.at ρ i = some v) (h : AV.und (nx σ) v = true -> T E nt df B c Q ρ σ) : T E nt df B c Q ρ σ := fun C w tm a ht st hB => h (R.und _ _ (st.tmps i v (ht i v hi))) C w tm a ht st hB
def cutQ (L : Al) (τ : Sto) : Dh
 | .normal => fun ρ σ => Lk L ρ /\ σ = τ
 | _ => fun _ _ => False
theorem Aas {x y : Code} (L : Al) (τ : Sto) (h : T E nt df B x (cutQ L τ) ρ σ) (k : T E nt df B y Q L τ) : T E nt df B (.seq x y) Q ρ σ := by
 refine Ad (h.mono fun e ρ' σ' hq => ?_)
 cases e with
 | normal => obtain ⟨h1, rfl⟩ := hq; exact k.sub h1
 | exit _ => exact hq.elim
 | ret => exact hq.elim
theorem Al.at_app : ∀ (L ρ : Al) (i : Nat), Al.at (L ++ ρ) i = (Al.at L i).or (Al.at ρ i)
 | [], ρ, i => rfl
 | (j, v) :: r, ρ, i => by
  show cond (Nat.beq j i) (some v) (Al.at (r ++ ρ) i) = (cond (Nat.beq j i) (some v) (Al.at r i)).or _
  cases Nat.beq j i with
  | true => rfl
  | false => exact Al.at_app r ρ i
def addQ (L ρ : Al) (τ : Sto) : Dh
 | .normal => fun ρ' σ => Lk L ρ' /\ Kb ρ ρ' /\ σ = τ
 | _ => fun _ _ => False
theorem Hg {x y : Code} (L : Al) (h : T E nt df B x (addQ L ρ σ) ρ σ) (k : T E nt df B y Q (L ++ ρ) σ) : T E nt df B (.seq x y) Q ρ σ := by
 refine Ad (h.mono fun e ρ' σ' hq => ?_)
 cases e with
 | normal =>
  obtain ⟨h1, h2, rfl⟩ := hq;refine fun C w tm a ht st hB => k C w tm a (fun i v hv => ?_) st hB
  rw [Al.at_app] at hv;cases hL : Al.at L i with
  | some u => rw [hL] at hv; cases hv; exact ht i _ (h1.at i _ hL)
  | none => rw [hL] at hv; exact ht i v (h2 i v hv)
 | exit _ => exact hq.elim
 | ret => exact hq.elim
def cutP (P : Al -> Sto -> Prop) : Dh
 | .normal => fun ρ σ => ∃ L, Lk L ρ /\ P L σ
 | _ => fun _ _ => False
theorem Agt {x y : Code} (P : Al -> Sto -> Prop) (h : T E nt df B x (cutP P) ρ σ) (k : ∀ L τ, P L τ -> T E nt df B y Q L τ) : T E nt df B (.seq x y) Q ρ σ := by
 refine Ad (h.mono fun e ρ' σ' hq => ?_)
 cases e with
 | normal => obtain ⟨L, h1, h2⟩ := hq; exact (k L σ' h2).sub h1
 | exit _ => exact hq.elim
 | ret => exact hq.elim
end
def ltS (a b : Str) : Bool := Di (a.map UInt8.toNat) (b.map UInt8.toNat)
section
variable {E : Env} {ρ : Al} {σ σ' : Sto} {Rr : Rec} {t ty n : Nat} {x y : Operand}
theorem boolI {P : Program} (h : Wa P t = true) : ∃ ti, Bi P t = some ti /\ ti.desc = .bool := by
 unfold Wa at h
 split at h
 ·rename_i ti hti
  split at h
  ·rename_i hd; exact ⟨ti, hti, hd⟩
  ·cases h
 ·cases h
theorem Aqx {a b : Bool} (hi : Wa E.P t = true) (hx : A0 E ρ x = some (.bool a)) (hy : A0 E ρ y = some (.bool b)) : Bu E Rr (.binOp .eql t x y ty) ρ σ (.bool (a == b)) σ := fun tm h => by
 obtain ⟨ti, h1, h2⟩ := boolI hi;simp only [opA, Bm, h.opd hx, h.opd hy, Zf, h1, h2, Vq];cases a <;> cases b <;> rfl
theorem Yf {a b : Str} (hi : okI E.P t = true) (hx : A0 E ρ x = some (sV a)) (hy : A0 E ρ y = some (sV b)) : Bu E Rr (.binOp .geq t x y ty) ρ σ (.bool (!ltS a b)) σ := Acg hi hx hy rfl
theorem Acq {a b : Str} (hi : okI E.P t = true) (hx : A0 E ρ x = some (sV a)) (hy : A0 E ρ y = some (sV b)) (hl : a.length + b.length <= Nn) : Bu E Rr (.binOp .add t x y ty) ρ σ (sV (a ++ b)) σ := by
 refine Acg hi hx hy ?_
 have h1 : Nat.ble ((a.map UInt8.toNat).length + (b.map UInt8.toNat).length) Nn = true := by rw [List.length_map, List.length_map]; exact Nat.ble_eq_true_of_le hl
 simp only [Sa, h1, cond_true, sV, List.map_append]
theorem Aqy {l m : List AV} {a b : Key} (hi : okI E.P t = true) (hx : A0 E ρ x = some (.agg l)) (hy : A0 E ρ y = some (.agg m)) (hcx : Ds x = false) (hcy : Ds y = false) (h1 : Hb E.P t (.agg l) = some a) (h2 : Hb E.P t (.agg m) = some b) :
  Bu E Rr (.binOp .neq t x y ty) ρ σ (.bool (!Key.eq a b)) σ := fun tm h => by
 obtain ⟨ti, hti⟩ := S7 hi;simp only [opA, Bm, h.opd hx, h.opd hy, hcx, hcy, Zf, hti, Kw, Bool.or_self, cond_false, Sc, h1, h2, Vq]
theorem Al7 {kt sz : Nat} {agg : Bool} {z : AV} (hi : mpI E.P t = some (kt, z, sz, agg)) : ∃ ti et, Bi E.P t = some ti /\ ti.desc = .map kt et := by
 obtain ⟨ti, et, te, h1, h2, _⟩ := Xu hi;exact ⟨ti, et, h1, h2⟩
theorem Ao2 {α : Type} {enc : α -> AV} {m : SM α} {r kt sz : Nat} {agg : Bool} {z : AV} (hi : mpI E.P t = some (kt, z, sz, agg)) (hx : A0 E ρ x = some (.mp r)) (hm : Bg enc σ r m) :
  Bu E Rr (.call ⟨.builtin .len, #[x], #[t]⟩) ρ σ (.int .i64 (.ofNat m.length)) σ := fun tm h => by
 obtain ⟨ti, et, h1, h2⟩ := Al7 hi;obtain ⟨ver, hv⟩ := hm;simp only [opA, Bm, h1, Eb, h2, h.opd hx, opds, Sk, hv, Au, Ct, List.length_map]
theorem Al8 {r kt sz : Nat} {agg : Bool} {z : AV} (hi : mpI E.P t = some (kt, z, sz, agg)) (hx : A0 E ρ x = some (.mp r)) : Bu E Rr (.binOp .eql t x (.const (.map none)) ty) ρ σ (.bool false) σ := fun tm h => by
 obtain ⟨ti, et, h1, h2⟩ := Al7 hi;simp only [opA, Bm, h.opd hx, Ds, Zf, h1, Bool.or_true, Kw, cond_true];simp only [h2]
 rfl
theorem Al9 {kt sz : Nat} {agg : Bool} {z : AV} (hi : mpI E.P t = some (kt, z, sz, agg)) (hx : A0 E ρ x = some (.nil (.map none))) : Bu E Rr (.binOp .eql t x (.const (.map none)) ty) ρ σ (.bool true) σ := fun tm h => by
 obtain ⟨ti, et, h1, h2⟩ := Al7 hi;simp only [opA, Bm, h.opd hx, Ds, Zf, h1, Bool.or_true, Kw, cond_true];simp only [h2]
 rfl
theorem Aki {α : Type} {enc : α -> AV} {m : SM α} {r kt sz ver : Nat} {agg : Bool} {z : AV} (hi : mpI E.P t = some (kt, z, sz, agg)) (hx : A0 E ρ x = some (.mp r)) (hm : σ.get r = some (.map 9 (Ct enc m) ver)) :
  Bu E Rr (.call ⟨.builtin .clear, #[x], #[t]⟩) ρ σ Bd (σ.set r (.map 9 [] (ver + 1))) := fun tm h => by
 obtain ⟨ti, et, h1, h2⟩ := Al7 hi;simp only [opA, Bm, h1, Eb, h2, h.opd hx, opds, O0, hm, Au]
theorem Akj (a b : Int) : Wy a b = max a b := by
 unfold Wy;have := Eu (a := b) (b := a);rw [this]
 by_cases h : b <= a
 ·rw [decide_eq_true h, cond_true]; omega
 ·rw [decide_eq_false h, cond_false]; omega
theorem Ama {k : IntKind} {p q : Int} (hi : okI E.P t = true) {tys : Nat} (hx : A0 E ρ x = some (.int k p)) (hy : A0 E ρ y = some (.int k q)) : Bu E Rr (.call ⟨.builtin .max, #[x, y], #[t, tys]⟩) ρ σ (.int k (max p q)) σ := fun tm h => by
 obtain ⟨ti, hti⟩ := S7 hi;simp only [opA, Bm, hti, Eb, h.opd hx, h.opd hy, opds, Wz, U4, cond_true, Akj]
end
section
variable {E : Env} {ρ : Al} {σ σ' : Sto} {Rr : Rec} {t ty n a i : Nat} {x y : Operand} {α : Type} {enc : α -> List AV} {sz by' : Nat} {l : List α}
theorem Ug : ∀ {p q u v : List AV}, u.length = q.length -> setAt (p ++ q ++ v) p.length u = some (p ++ u ++ v)
 | [], q, u, v, h => by
  simp only [List.nil_append, List.length_nil];exact go h
 | x :: p, q, u, v, h => by
  simp only [List.cons_append, List.length_cons, setAt, Ug h]
 where
 go : ∀ {q u v : List AV}, u.length = q.length -> setAt (q ++ v) 0 u = some (u ++ v)
  | [], [], v, _ => by cases v <;> rfl
  | y :: q, z :: u, v, h => by
   have := go (q := q) (u := u) (v := v) (by simpa using h)
   simp only [List.cons_append, setAt, this]
  | [], _ :: _, _, h => by simp at h
  | _ :: _, [], _, h => by simp at h
theorem Amb (he : ∀ a, (enc a).length = sz) {b : α} (hi : i < l.length) (tl : List AV) : setAt (l.flatMap enc ++ tl) (i * sz) (enc b) = some ((l.set i b).flatMap enc ++ tl) := by
 have h1 : l = l.take i ++ l[i] :: l.drop (i + 1) := by rw [← List.drop_eq_getElem_cons hi, List.take_append_drop]
 have h2 : l.set i b = l.take i ++ b :: l.drop (i + 1) := List.set_eq_take_append_cons_drop ▸ by rw [if_pos hi]
 have h3 : ((l.take i).flatMap enc).length = i * sz := by rw [Ez he, List.length_take, Nat.min_eq_left (Nat.le_of_lt hi)]
 have h4 : l.flatMap enc ++ tl = (l.take i).flatMap enc ++ enc l[i] ++ ((l.drop (i + 1)).flatMap enc ++ tl) := by
  refine (congrArg (fun k => List.flatMap enc k ++ tl) h1).trans ?_
  simp only [List.flatMap_append, List.flatMap_cons, List.append_assoc]
 rw [h4, h2, ← h3, Ug (by rw [he, he])]
 simp only [List.flatMap_append, List.flatMap_cons, List.append_assoc]
theorem Hw {zz : Option (List AV)} {k : IntKind} {m : Nat} {cap : Option Nat} (hi : elI E.P t = some (sz, by', zz)) (hx : A0 E ρ x = some (.sr a 0 sz m cap)) (hy : A0 E ρ y = some (.int k (.ofNat i))) (hm : i < m) :
  Bu E Rr (.indexAddr t x y) ρ σ (.pr a (i * sz)) σ := by
 have h := Aeb (Rr := Rr) (σ := σ) hi hx hy (m := m) rfl rfl hm
 have e : Aea (.sr a 0 sz m cap) (i * sz) = .pr a (i * sz) := by show AV.pr a (0 + i * sz) = _; rw [Nat.zero_add]
 rwa [e] at h
theorem Uh {u : α} {v : AV} {agg : Bool} {tl : List AV} (he : ∀ a, (enc a).length = sz) (hi : ldI E.P t = some (sz, agg)) (hx : A0 E ρ x = some (.pr a (i * sz))) (hg : σ.get a = some (.cells (l.flatMap enc ++ tl))) (hu : l[i]? = some u) (hv : ∀ r, Lz sz agg (enc u ++ r) = some v) :
  Bu E Rr (.load t x) ρ σ v σ := by
 refine Ae (cs := (l.flatMap enc ++ tl).drop (i * sz)) hi hx (by simp only [B2, Sto.cells, hg]) ?_
 have hi := (List.getElem?_eq_some_iff.1 hu).1
 have h0 : i * sz <= (l.flatMap enc).length := by rw [Ez he]; exact Nat.mul_le_mul_right _ (Nat.le_of_lt hi)
 rw [List.drop_append_of_le_length h0, Acn he hu, List.append_assoc]; exact hv _
theorem Acr {u : α} {v : AV} {agg : Bool} {tl : List AV} (he : ∀ a, (enc a).length = sz) (hi : ldI E.P t = some (sz, agg)) (hx : A0 E ρ x = some (.pr a (i * sz))) (hy : A0 E ρ y = some v) (hc : v.cellsN sz = some (enc u)) (hg : σ.get a = some (.cells (l.flatMap enc ++ tl))) (hl : i < l.length) :
  Bu E Rr (.store t x y) ρ σ Bd (σ.set a (.cells ((l.set i u).flatMap enc ++ tl))) :=
 A6 hi hx hy hc (by simp only [Sto.cells, hg]) (Amb he hl tl)
theorem Aet {zz : Option (List AV)} {k : IntKind} {m b : Nat} {lo : Option Operand} (hel : elI E.P t = some (sz, by', zz)) (hx : A0 E ρ x = some (.sr a 0 sz m none)) (h1 : Gd E ρ lo = some (some (.int k (.ofNat b)))) (hb : b <= m) :
  Bu E Rr (.slice t x lo none none) ρ σ (.sr a (b * sz) sz (m - b) none) σ := fun tm h => by
 obtain ⟨ti, e, te, k1, k2, k3, k4, k5, k6⟩ := S6 hel;subst k4
 have hbd : C6 m none (some (.int k (.ofNat b))) none none = some (b, m, none) := by
  have h2 : Nat.ble b m = true := Nat.ble_eq_true_of_le hb;have h3 : Nat.ble m m = true := Nat.ble_eq_true_of_le nl;simp only [C6, I3, h2, Ls, h3, cond_true, Bool.and_self, Lg]
 have e0 : opdO E tm none = none := rfl;simp only [opA, Bm, k1, k2, k3, h.opd hx, h.opdO h1, e0, Mc, Nat.beq_refl, hbd, Au, Nat.zero_add]
theorem Yg {zz : Option (List AV)} {k : IntKind} {m b : Nat} {hi : Option Operand} {cap : Option Nat} (hel : elI E.P t = some (sz, by', zz)) (hx : A0 E ρ x = some (.sr a 0 sz m cap)) (h1 : Gd E ρ hi = some (some (.int k (.ofNat b)))) (hb : b <= m) :
  Bu E Rr (.slice t x none hi none) ρ σ (.sr a 0 sz b (Lg cap 0)) σ := fun tm h => by
 obtain ⟨ti, e, te, k1, k2, k3, k4, k5, k6⟩ := S6 hel;subst k4
 have hbd : C6 m cap none (some (.int k (.ofNat b))) none = some (0, b, Lg cap 0) := by
  have h2 : Nat.ble b m = true := Nat.ble_eq_true_of_le hb;have h3 : Nat.ble 0 b = true := Nat.ble_eq_true_of_le (Nat.zero_le _);simp only [C6, I3, h3, Ls, h2, cond_true, Bool.and_self]
 have e0 : opdO E tm none = none := rfl;simp only [opA, Bm, k1, k2, k3, h.opd hx, h.opdO h1, e0, Mc, Nat.beq_refl, hbd, Au, Nat.zero_mul, Nat.add_zero, Nat.sub_zero]
theorem Aio {z : List AV} : ∀ n, (rep z n).length = n * z.length
 | 0 => by simp [rep]
 | n + 1 => by simp only [rep, List.length_append, Aio n, Nat.succ_mul]; omega
theorem Aat {z tl : List AV} {m b : Nat} {cap : Option Nat} (he : ∀ a, (enc a).length = sz) (hel : elI E.P t = some (sz, by', some z)) (hz : Nat.beq z.length sz = true) (hx : A0 E ρ x = some (.sr a (b * sz) sz m cap)) (hg : σ.get a = some (.cells (l.flatMap enc ++ tl))) (hl : b + m = l.length) :
  Bu E Rr (.call ⟨.builtin .clear, #[x], #[t]⟩) ρ σ Bd (σ.set a (.cells ((l.take b).flatMap enc ++ (rep z m ++ tl)))) := fun tm h => by
 obtain ⟨ti, e, te, k1, k2, k3, k4, k5, k6⟩ := S6 hel;subst k4
 have h2 : l.flatMap enc ++ tl = (l.take b).flatMap enc ++ (l.drop b).flatMap enc ++ tl := by rw [← List.flatMap_append, List.take_append_drop]
 have h3 : ((l.take b).flatMap enc).length = b * te.size := by rw [Ez he, List.length_take]; congr 1; omega
 have h4 : (rep z m).length = ((l.drop b).flatMap enc).length := by rw [Aio, Ez he, List.length_drop, Nat.eq_of_beq_eq_true hz]; congr 1; omega
 have h5 := Ug (p := (l.take b).flatMap enc) (v := tl) h4;rw [h3, ← h2, List.append_assoc] at h5;simp only [opA, Bm, k1, Eb, k2, k3, k6, hz, h.opd hx, opds, Aby, Nat.beq_refl, Sto.cells, hg, h5]
end
def Own (σ : Sto) (N : Nat) {α : Type} (enc : α -> List AV) (sz : Nat) (l : List α) (v : AV) : Prop :=
 (l = [] /\ (v = .nil (.slice none 0 0) ∨ v = .sv [] sz 0 (some 0))) ∨ ∃ a tl, N <= a /\ a < nx σ /\ v = .sr a 0 sz l.length none /\ σ.get a = some (.cells (l.flatMap enc ++ tl))
section
variable {E : Env} {ρ : Al} {σ σ' τ : Sto} {Rr : Rec} {t ty n a i N : Nat} {x y : Operand} {α : Type} {enc : α -> List AV} {sz by' : Nat} {l m : List α} {v : AV}
theorem Own.nil : Own σ N enc sz ([] : List α) (.nil (.slice none 0 0)) := .inl ⟨rfl, .inl rfl⟩
theorem Own.emp : Own σ N enc sz ([] : List α) (.sv [] sz 0 (some 0)) := .inl ⟨rfl, .inr rfl⟩
theorem Own.lenA (h : Own σ N enc sz l v) : lenA v = some l.length /\ Wu v = true := by
 rcases h with ⟨rfl, rfl | rfl⟩ | ⟨a, tl, _, _, rfl, _⟩ <;> exact ⟨rfl, rfl⟩
theorem Own.mono (h : Own σ N enc sz l v) (hn : nx σ <= nx σ') (hg : ∀ a tl, v = .sr a 0 sz l.length none -> N <= a -> a < nx σ -> σ.get a = some (.cells (l.flatMap enc ++ tl)) -> σ'.get a = σ.get a) : Own σ' N enc sz l v := by
 rcases h with h | ⟨a, tl, h1, h2, h3, h4⟩
 ·exact .inl h
 ·exact .inr ⟨a, tl, h1, by omega, h3, (hg a tl h3 h1 h2 h4).trans h4⟩
theorem Own.app (he : ∀ a, (enc a).length = sz) (hN : N <= nx σ) (h : Own σ N enc sz l v) (m : List α) (hlim : (l.length + m.length) * (by' + 1) <= sizeLim) :
  ∃ v' σ', Cj σ sz by' v m.length (m.flatMap enc) = some (v', σ') /\ Own σ' N enc sz (l ++ m) v' /\ Below N σ σ' /\
   (∀ b, b < nx σ -> (∀ c, v = .sr c 0 sz l.length none -> b ≠ c) -> σ'.get b = σ.get b) := by
 cases m with
 | nil =>
  refine ⟨v, σ, ?_, by simpa using h, Below.rfl', fun _ _ _ => rfl⟩
  simp only [List.length_nil, Cj]
  rcases h with ⟨_, rfl | rfl⟩ | ⟨a, tl, _, _, rfl, _⟩ <;> rfl
 | cons b m =>
  have hb : Nat.ble ((l.length + (b :: m).length) * (by' + 1)) sizeLim = true := Nat.ble_eq_true_of_le hlim
  have fresh : ∀ (c : List α) (τ : Sto), N <= nx τ -> Own (τ.new (.cells (c.flatMap enc))) N enc sz c (.sr (nx τ) 0 sz c.length none) := fun c τ hτ =>
   .inr ⟨nx τ, [], hτ, by rw [Ap]; omega, rfl, by rw [Sto.get_new, if_pos rfl, List.append_nil]⟩
  rcases h with ⟨rfl, rfl | rfl⟩ | ⟨a, tl, h1, h2, rfl, h3⟩
  ·have hb' : Nat.ble ((m.length + 1) * (by' + 1)) sizeLim = true := Nat.ble_eq_true_of_le (by simpa using hlim)
   refine ⟨.sr (nx σ) 0 sz (b :: m).length none, σ.new (.cells ((b :: m).flatMap enc)), ?_, fresh _ _ hN, ⟨by rw [Ap]; omega, fun c hc => by rw [Sto.get_new, if_neg (by omega)]⟩, fun c hc _ => by rw [Sto.get_new, if_neg (by omega)]⟩
   simp only [List.length_cons, Cj, Jz, Nat.zero_add, hb', cond_true, Au, List.nil_append]
  ·have hb' : Nat.ble ((m.length + 1) * (by' + 1)) sizeLim = true := Nat.ble_eq_true_of_le (by simpa using hlim)
   have h0 : Nat.ble (m.length + 1) 0 = false := rfl
   refine ⟨.sr (nx σ) 0 sz (b :: m).length none, σ.new (.cells ((b :: m).flatMap enc)), ?_, fresh _ _ hN, ⟨by rw [Ap]; omega, fun c hc => by rw [Sto.get_new, if_neg (by omega)]⟩, fun c hc _ => by rw [Sto.get_new, if_neg (by omega)]⟩
   simp only [List.length_cons, Cj, Nat.beq_refl, h0, Bool.not_false, Bool.and_self, cond_true, Jz, Nat.zero_add, hb', Au, List.nil_append]
  ·have hcells : σ.cells a = some (l.flatMap enc ++ tl) := by unfold Sto.cells; rw [h3]
   have htake : D1 (l.length * sz) ((l.flatMap enc ++ tl).drop 0) = some (l.flatMap enc) := by
    have := He (l := l.flatMap enc) (r := tl)
    rwa [Ez he] at this
   simp only [List.length_cons] at hb
   refine ⟨.sr (nx σ) 0 sz (l ++ b :: m).length none, (σ.kill a).new (.cells (l.flatMap enc ++ (b :: m).flatMap enc)), ?_, ?_, ⟨by rw [Ap, Ck]; omega, fun c hc => ?_⟩, fun c hc hne => ?_⟩
   ·simp only [List.length_cons, Cj, Nat.beq_refl, cond_true, hcells, htake, Jz, hb, Au, Ck, List.length_append]
   ·rw [← List.flatMap_append]
    have := fresh (l ++ b :: m) (σ.kill a) (by rw [Ck]; exact hN)
    rwa [Ck] at this
   ·rw [Sto.get_new, Ck, if_neg (by omega), Sto.get_kill, if_neg (by omega)]
   ·rw [Sto.get_new, Ck, if_neg (by omega), Sto.get_kill, if_neg (hne a rfl)]
theorem Own.fz (he : ∀ a, (enc a).length = sz) (h : Own σ N enc sz l v) (hτ : ∀ a, N <= a -> τ.get a = none) (hu : AV.unds (nx τ) (l.flatMap enc) = true) : Fz σ τ v (slV enc sz l) := by
 rcases h with ⟨rfl, rfl | rfl⟩ | ⟨a, tl, h1, _, rfl, h3⟩
 ·exact .nils (fun q hq => by cases hq)
 ·exact .sv (fun q hq => by cases hq) .nil
 ·have htake : D1 (l.length * sz) ((l.flatMap enc ++ tl).drop 0) = some (l.flatMap enc) := by
   have := He (l := l.flatMap enc) (r := tl)
   rwa [Ez he] at this
  exact .sr h3 (hτ a h1) htake (FzL.same hu)
def Agu (σ : Sto) (N : Nat) {α : Type} (enc : α -> List AV) (sz : Nat) (l : List α) (v : AV) : Prop := v = .sv (l.flatMap enc) sz l.length (some l.length) ∨ Own σ N enc sz l v
theorem Agu.app (he : ∀ a, (enc a).length = sz) (hN : N <= nx σ) (h : Agu σ N enc sz l v) (m : List α) (hlim : (l.length + m.length) * (by' + 1) <= sizeLim) :
  ∃ v' σ', Cj σ sz by' v m.length (m.flatMap enc) = some (v', σ') /\ Agu σ' N enc sz (l ++ m) v' /\ Below N σ σ' /\
   (∀ b, b < nx σ -> (∀ c, v = .sr c 0 sz l.length none -> b ≠ c) -> σ'.get b = σ.get b) := by
 rcases h with rfl | h
 ·cases m with
  | nil => exact ⟨_, σ, rfl, .inl (by rw [List.append_nil]), Below.rfl', fun _ _ _ => rfl⟩
  | cons b m =>
   have hb : Nat.ble ((l.length + (m.length + 1)) * (by' + 1)) sizeLim = true := Nat.ble_eq_true_of_le hlim
   have h0 : Nat.ble (l.length + (m.length + 1)) l.length = false := by
    cases hh : Nat.ble (l.length + (m.length + 1)) l.length with
    | true => exact absurd (Nat.le_of_ble_eq_true hh) (by omega)
    | false => rfl
   refine ⟨.sr (nx σ) 0 sz (l ++ b :: m).length none, σ.new (.cells ((l ++ b :: m).flatMap enc)), ?_, .inr (.inr ⟨nx σ, [], hN, by rw [Ap]; omega, rfl, by rw [Sto.get_new, if_pos rfl, List.append_nil]⟩), ⟨by rw [Ap]; omega, fun c hc => by rw [Sto.get_new, if_neg (by omega)]⟩, fun c hc _ => by rw [Sto.get_new, if_neg (by omega)]⟩
   simp only [List.length_cons, Cj, Nat.beq_refl, h0, Bool.not_false, Bool.and_self, cond_true, Jz, hb, Au, List.length_append, List.flatMap_append]
 ·obtain ⟨v', σ', h1, h2, h3, h4⟩ := h.app he hN m hlim;exact ⟨v', σ', h1, .inr h2, h3, h4⟩
theorem Agu.fz (he : ∀ a, (enc a).length = sz) (h : Agu σ N enc sz l v) (hτ : ∀ a, N <= a -> τ.get a = none) (hu : AV.unds (nx τ) (l.flatMap enc) = true) : Fz σ τ v (slV enc sz l) := by
 rcases h with rfl | h
 ·exact .sv (fun q hq => by cases hq) (FzL.same hu)
 ·exact h.fz he hτ hu
theorem WFS.none (hw : WFS σ) {a : Nat} (h : nx σ <= a) : σ.get a = none := by
 cases hg : σ.get a with
 | none => rfl
 | some O => exact absurd (hw a O hg).1 (by omega)
theorem Yh (he : ∀ a, (enc a).length = sz) (σ : Sto) (l : List α) : Gl σ sz (slV enc sz l) l.length = some (l.flatMap enc) := by
 have := He (l := l.flatMap enc) (r := []);rw [Ez he, List.append_nil] at this;exact this
end
def Agv (P : Program) (t : Nat) : Bool := match Bi P t with | some ti => (match ti.desc with | .int _ => true | _ => false) | none => false
section
variable {E : Env} {ρ : Al} {σ σ' τ : Sto} {Rr : Rec} {t t2 ty n a i N : Nat} {x y : Operand} {sz by' : Nat} {v : AV} {A B : AO}
theorem Aip (hi : Ge E.P t = true) (hx : A0 E ρ x = some (.nil (.slice none 0 0))) : Bu E Rr (.call ⟨.builtin .cap, #[x], #[t]⟩) ρ σ (.int .i64 (.ofNat 0)) σ := fun tm h => by
 unfold Ge at hi
 split at hi
 ·rename_i ti hti
  split at hi
  ·rename_i e hd
   simp only [opA, Bm, hti, Eb, hd, h.opd hx, opds, I5]
   rfl
  ·cases hi
 ·cases hi
theorem Ao3 {zz : Option (List AV)} {hi : Option Operand} {k : IntKind} (hel : elI E.P t = some (sz, by', zz)) (hx : A0 E ρ x = some (.nil (.slice none 0 0))) (h1 : Gd E ρ hi = some (some (.int k (.ofNat 0)))) :
  Bu E Rr (.slice t x none hi none) ρ σ (.nil (.slice none 0 0)) σ := fun tm h => by
 obtain ⟨ti, e, te, k1, k2, k3, k4, k5, k6⟩ := S6 hel;have e0 : opdO E tm none = none := rfl;have hb : C6 0 (some 0) none (some (.int k (.ofNat 0))) none = some (0, 0, some 0) := rfl;simp only [opA, Bm, k1, k2, k3, h.opd hx, h.opdO h1, e0, Mc, hb]
theorem Amc {z : List AV} (hi : elI E.P t = some (sz, by', some z)) (hl : Nat.beq z.length sz = true) (h2 : Agv E.P t2 = true) (hx : A0 E ρ x = some (.nil (.slice none 0 0))) (hy : A0 E ρ y = some (.int .i64 (.ofNat (n + 1)))) (hn : (n + 1) * (by' + 1) <= sizeLim) :
  Bu E Rr (.call ⟨.builtin .append, #[x, y], #[t, t2]⟩) ρ σ (.sr (nx σ) 0 sz (n + 1) none) (σ.new (.cells (rep z (n + 1)))) := fun tm h => by
 obtain ⟨ti, e, te, h1, hd, h3, h4, h5, h6⟩ := S6 hi;subst h4 h5;have hb : Nat.ble ((n + 1) * (te.bytes + 1)) sizeLim = true := Nat.ble_eq_true_of_le hn;unfold Agv at h2
 split at h2
 ·rename_i t2i ht2
  split at h2
  ·rename_i k hd2
   simp only [opA, Bm, h1, Eb, hd, h3, ht2, h6, hl, hd2, h.opd hx, h.opd hy, opds, Sm, hb, cond_true, Cj, Jz, Nat.zero_add, Au, List.nil_append]
  ·cases h2
 ·cases h2
theorem Apy : ((σ.new A).new B).get (nx σ) = some A := by rw [Sto.get_new, if_neg (by rw [Ap]; omega), Sto.get_new, if_pos rfl]
theorem get2b : ((σ.new A).new B).get (nx (σ.new A)) = some B := by rw [Sto.get_new, if_pos rfl]
theorem Aeu {cs : List AV} (h : σ.get a = some (.cells cs)) : σ.cells a = some cs := by unfold Sto.cells; rw [h]
end
def V2 (σ τ : Sto) : Prop := ∀ a O, σ.get a = some O -> τ.get a = some O
theorem V2.refl {σ : Sto} : V2 σ σ := fun _ _ h => h
theorem V2.below {σ τ : Sto} (hw : WFS σ) (h : Below (nx σ) σ τ) : V2 σ τ := fun a O ha => (h.2 a (hw a O ha).1).trans ha
def rdOk : Op -> Bool
 | .load .. => true
 | .lookup .. => true
 | _ => false
theorem Akk {σ τ : Sto} (h : V2 σ τ) {a : Nat} {vs : List AV} (hc : σ.cells a = some vs) : τ.cells a = some vs := by
 unfold Sto.cells at hc ⊢
 split at hc
 ·rename_i us hg; rw [h _ _ hg]; exact hc
 ·cases hc
theorem Akl {σ τ σ₁ : Sto} {ti : TI} {x v : AV} (h : V2 σ τ) (hs : Lt ti x σ = some (v, σ₁)) : Lt ti x τ = some (v, τ) := by
 unfold Lt at hs ⊢
 split at hs
 ·split at hs
  ·rename_i vs hvs
   split at hs
   ·rename_i u hu; cases hs; simp only [Akk h hvs, hu]
   ·cases hs
  ·cases hs
 ·split at hs
  ·rename_i u hu; cases hs; simp only [hu]
  ·cases hs
 ·cases hs
theorem Aev {σ τ σ₁ : Sto} {kt : Nat} {key : Option Key} {z m v : AV} {ok : Bool} (h : V2 σ τ) (hs : Jk kt key z ok m σ = some (v, σ₁)) : Jk kt key z ok m τ = some (v, τ) := by
 unfold Jk at hs ⊢
 split at hs
 ·split at hs
  ·split at hs
   ·rename_i kt' es ver hg
    rw [h _ _ hg];simp only
    split at hs
    ·rename_i hb
     try simp only [hb]
     split at hs <;> rename_i hf <;> cases hs <;> simp only [hb, hf]
    ·cases hs
   ·cases hs
  ·cases hs; rfl
  ·cases hs
 ·cases hs
theorem Amd {E : Env} {σ τ σ₁ : Sto} {op : Op} {tm : Tr AV} {v : AV} (hr : rdOk op = true) (h : V2 σ τ) (hs : Bm E op tm σ = some (v, σ₁)) : ∃ τ₁, Bm E op tm τ = some (v, τ₁) := by
 unfold rdOk at hr
 split at hr
 ·simp only [Bm] at hs ⊢
  split at hs
  ·rename_i ti hti; exact ⟨τ, Akl h hs⟩
  ·cases hs
 ·simp only [Bm] at hs ⊢
  split at hs
  ·rename_i ti hti
   split at hs
   ·rename_i kt et hd
    try simp only [hd]
    split at hs
    ·rename_i te hte
     try simp only [hd, hte]
     split at hs
     ·rename_i z hz
      try simp only [hd, hte, hz]
      exact ⟨τ, Aev h hs⟩
     ·cases hs
    ·cases hs
   ·cases hs
  ·cases hs
 ·cases hr
def Ke (E : Env) (m : Nat) : List Ann -> List Oper -> Bool -> Bool
 | a :: az, o :: os, late => (match a.cls with
  | .read => !late && Nat.ble a.hi m && rdOk o.op
  | _ => true) && Ke E m az os (late || Cw (B9 E o.op))
 | _, _, _ => true
theorem N9 {E : Env} {m : Nat} : ∀ {az : List Ann} {os : List Oper} {late : Bool}, Ke E m az os late = true -> ∀ (j : Nat) (a : Ann) (o : Oper), az[j]? = some a -> os[j]? = some o -> a.cls = .read -> late = false /\ cnt E os j = 0 /\ a.hi <= m /\ rdOk o.op = true
 | a :: az, o :: os, late, h, 0, a', o', ha, ho, hc => by
  simp at ha ho; subst ha ho
  simp only [Ke, hc, Bool.and_eq_true] at h
  exact ⟨by simpa using h.1.1.1, rfl, Nat.le_of_ble_eq_true h.1.1.2, h.1.2⟩
 | a :: az, o :: os, late, h, j + 1, a', o', ha, ho, hc => by
  simp only [Ke, Bool.and_eq_true] at h
  obtain ⟨h1, h2, h3⟩ := N9 h.2 j a' o' (by simpa using ha) (by simpa using ho) hc
  simp only [Bool.or_eq_false_iff] at h1;refine ⟨h1.1, ?_, h3⟩;simp only [cnt, h1.2, h2]
  simp
 | [], _, _, _, _, _, _, h, _, _ => by simp at h
 | _ :: _, [], _, _, _, _, _, _, h, _ => by simp at h
section
variable {E : Env} {nt B : Nat} {df : List (Nat × List AV)} {Q : Dh} {Rr : Rec} {ρ : Al} {σ : Sto}
def KDX (Q : Dh) (m : Nat) (σ : Sto) : KD := fun ρ' σ' eps _ => (∀ e ∈ eps.reverse.take (m + 1), V2 σ e) /\ Q .normal ρ' σ'
theorem Gv (m : Nat) {id : Nat} {ops : Array Oper} {anns : List Ann} (hm : E.P.follows .mixedOrders = true) (hR : Bc E Rr) (ha : Mg E ops = some anns) (hp : Ke E m anns ops.toList false = true)
  (h : TD E nt Rr ops.toList ops.toList (KDX Q m σ) ρ σ [σ] []) : T E nt df B (.region id ops true) Q ρ σ := by
 intro C w tm a ht st hB;obtain ⟨c1, c2, c3, c4⟩ := Kc ha;obtain ⟨d, k1, k2, k3, ρ', log', k4, k5, k6, k7⟩ := h tm df [] ht trivial;refine wp_mono (Aao hm hR st c1 c2 c3 k1 fun j o t v ho hl hcl hg σk hσ => ?_) fun e a' w' he => ?_
 ·have hann := Hn (E := E) (b := (Region.before ops).toList) (effs := Ej E ops.toList 0) ops.toList 0 j o (by simpa using ho)
  rw [← c4] at hann;simp only [Nat.zero_add] at hann
  obtain ⟨_, q1, q2, q3⟩ := N9 hp j _ o hann (by simpa using ho) hcl
  simp only [Jv] at q2
  have hext : V2 σ σk := by
   refine k6 σk ?_;obtain ⟨i, hi⟩ := List.mem_iff_getElem?.1 hσ;rw [List.getElem?_take] at hi
   split at hi
   ·rename_i hlt
    rw [List.getElem?_drop] at hi
    exact List.mem_iff_getElem?.2 ⟨_, (List.getElem?_take_of_lt (by omega)).trans hi⟩
   ·cases hi
  obtain ⟨log, eps, lex, g2, g3, g4, g5⟩ := L0 k1;simp only [List.reverse_nil, List.nil_append, List.reverse_cons] at g2 g3;obtain ⟨x1, x2, x3, x4, x5⟩ := Xw lex
  obtain ⟨t', v', t₁, σ₀, σ₁, y1, y2, y3, y4, y5, y6⟩ := x5 j o (by simpa using ho)
  rw [g2] at hl;rw [hl] at y1; cases y1
  have h0 : σ₀ = σ := by
   rw [q1] at y3
   simpa using y3.symm
  subst h0
  have hne : Cw (B9 E o.op) = false := by rw [hcl]; rfl
  rcases y5 with ⟨z1, z2⟩ | ⟨z1, z2⟩
  ·rw [J9 hne] at z2; exact Amd q3 hext z2
  ·rw [z1] at hg; cases hg
 ·obtain ⟨y, hy, C', h1, h2, h3⟩ := he;rw [List.mem_singleton] at hy;subst hy;obtain ⟨⟨tm', nt', df', σ'⟩, eps', dl'⟩ := d;simp only at k2 k3;subst k2 k3;exact ⟨.normal, tm', ρ', σ', C', h1, k4, k7, h2, Nat.le_trans hB h3.next, h3.base hB⟩
theorem Th {o : AO} (hw : WFS σ) : V2 σ (σ.new o) := V2.below hw (Below.rfl'.new nl o)
def newQ (d : Nat) (z cs : List AV) (L ρ : Al) (τ : Sto) : Dh
 | .normal => fun ρ' σ' => Lk L ρ' /\ Kb ρ ρ' /\ Al.at ρ' d = some (.pr (nx τ) 0) /\ σ' = (τ.new (.cells z)).set (nx τ) (.cells cs)
 | _ => fun _ _ => False
theorem My [Acm E] {x y : Code} (d : Nat) (z cs : List AV) (L : Al) (hu : AV.unds (nx σ) cs = true) (hL : AV.unds (nx σ) (L.map (·.2)) = true) (h : WFS σ -> T E nt [] B x (newQ d z cs L ρ σ) ρ σ) (k : T E nt [] B y Q ((d, .pv cs) :: L ++ ρ) σ) : T E nt [] B (.seq x y) Q ρ σ := by
 intro C w tm a ht st hB;have hwf := st.sim.wfs;have hund : ∀ i u, Al.at ρ i = some u -> AV.und (nx σ) u = true := fun i u hu => R.und _ _ (st.tmps i u (ht i u hu))
 have hLu : ∀ (L : Al), AV.unds (nx σ) (L.map (·.2)) = true -> ∀ i u, Al.at L i = some u -> AV.und (nx σ) u = true := by
  intro L
  induction L with
  | nil => intro _ i u hh; cases hh
  | cons p r ih =>
   obtain ⟨j, v⟩ := p;intro hL i u hh;simp only [List.map_cons, AV.unds, Bool.and_eq_true] at hL;simp only [Al.at] at hh;cases hb : Nat.beq j i with
   | true => rw [hb] at hh; cases hh; exact hL.1
   | false => rw [hb] at hh; exact ih hL.2 i u hh
 refine Ad ((h hwf).mono fun e ρ' σ' hq => ?_) C w tm a ht st hB
 cases e with
 | exit _ => exact hq.elim
 | ret => exact hq.elim
 | normal =>
  obtain ⟨h1, h2, h3, rfl⟩ := hq
  have hf : Aw ((σ.new (.cells z)).set (nx σ) (.cells cs)) σ := Aw.of_same hwf (by rw [An, Ap]; exact Nat.le_succ _) fun b hb => by rw [Sto.get_set, if_neg (by omega), Sto.get_new, if_neg (by omega)]
  intro C₁ w₁ tm₁ a₁ ht₁ st₁ hB₁;refine wp_mono (k (C₁.keep σ) w₁ _ a₁ (N8 _) (st₁.frz ht₁ hf fun i u hi => ?_) hB) fun e a' w' he => he.from (Ext.keepB C₁ σ B w₁)
  simp only [List.cons_append, Al.at] at hi;cases hb : Nat.beq d i with
  | true =>
   rw [hb] at hi; cases hi;have := Nat.eq_of_beq_eq_true hb; subst this
   exact ⟨_, h3, .pr (vs := cs) (by rw [Sto.get_set, if_pos rfl]) (hwf.none nl) (FzL.same hu)⟩
  | false =>
   rw [hb] at hi;simp only [cond_false] at hi;rw [Al.at_app] at hi;cases hc : Al.at L i with
   | some u' => rw [hc] at hi; cases hi; exact ⟨_, h1.at i _ hc, .same (hLu L hL i _ hc)⟩
   | none => rw [hc] at hi; exact ⟨_, h2 i u hi, .same (hund i u hi)⟩
end
theorem Yi {N M : Nat} (h : N <= M) {es : List (Key × AV)} (k : Ia N es = true) : Ia M es = true := by
 unfold Ia at k ⊢;rw [List.all_eq_true] at k ⊢;exact fun x hx => AV.und_mono h x.2 (k x hx)
theorem Aew {N M : Nat} (h : N <= M) : ∀ {c : Option (Key × AV)}, Agn N c = true -> Agn M c = true
 | none, _ => rfl
 | some x, k => AV.und_mono h x.2 k
theorem AO.und_mono {N M : Nat} (h : N <= M) : ∀ {O : AO}, AO.und N O = true -> AO.und M O = true
 | .cells vs, k => AV.unds_mono h vs k
 | .map _ es _, k => Yi h k
 | .iter none _ _ _, _ => rfl
 | .iter (some r) _ _ _, k => D8 (Nat.lt_of_lt_of_le (F4 k) h)
 | .stamp _ _ _, k => D8 (Nat.lt_of_lt_of_le (F4 k) h)
 | .loop _, _ => rfl
theorem WFS.new {σ : Sto} (hw : WFS σ) {X : AO} (hX : AO.und (nx σ + 1) X = true) (hI : Ago (σ.new X) X) : WFS (σ.new X) := by
 intro a O hg;rw [Sto.get_new] at hg;rw [Ap]
 split at hg
 ·rename_i ha; cases hg; subst ha; exact ⟨Nat.lt_succ_self _, hX, hI⟩
 ·obtain ⟨h1, h2, h3⟩ := hw a O hg;refine ⟨Nat.lt_succ_of_lt h1, AO.und_mono (Nat.le_succ _) h2, ?_⟩;cases O with
  | iter m ver left cur =>
   cases m with
   | none => trivial
   | some r =>
    intro kt es hr;have hlt : r < nx σ := F4 h2
    rw [Sto.get_new, if_neg (by omega)] at hr
    obtain ⟨k1, k2⟩ := h3 kt es hr;rw [Ap];exact ⟨Yi (Nat.le_succ _) k1, Aew (Nat.le_succ _) k2⟩
  | cells _ => trivial
  | map _ _ _ => trivial
  | stamp _ _ _ => trivial
  | loop _ => trivial
theorem Aw.newMap {σ τ : Sto} {kt ver : Nat} {es : List (Key × AV)} (hw : WFS σ) (hb : Below (nx σ) σ τ) (hg : τ.get (nx σ) = some (.map kt es ver)) (hn : nx σ < nx τ) (hu : Ia (nx σ + 1) es = true) : Aw τ (σ.new (.map kt es ver)) := by
 refine Aw.of_same (hw.new hu trivial) (by rw [Ap]; omega) fun a ha => ?_
 rw [Ap] at ha;rw [Sto.get_new]
 split
 ·rename_i h; subst h; exact hg
 ·exact hb.2 a (by omega)
section
variable {E : Env} {nt B : Nat} {df : List (Nat × List AV)} {Q : Dh} {ρ : Al} {σ : Sto}
theorem Ame {id : Nat} {ops : Array Oper} {r : List Oper} {x : Operand} {d ty : Nat} {pos : String} {after : Array Edge} {a ver : Nat} {m : Option Nat} {left : List (Key × AV)} {cur : Option (Key × AV)}
  (hops : ops.toList = { dst := some d, op := .next x false, type := ty, pos := pos, after := after, guard := none } :: r) (hd : Nat.blt d nt = true)
  (hx : A0 E ρ x = some (.it a)) (hg : σ.get a = some (.iter m ver left cur)) (hv : V8 σ m ver = true)
  (h0 : left = [] -> TO E nt df B ops.toList r (fun ρ σ => Q .normal ρ σ) ((d, .tup [.bool false]) :: ρ) (σ.set a (.iter m ver [] none)))
  (h1 : ∀ p, p ∈ Fu left -> TO E nt df B ops.toList r (fun ρ σ => Q .normal ρ σ) ((d, .tup [.bool true, Qf p.1.1, p.1.2]) :: ρ) (σ.set a (.iter m ver p.2 (some p.1)))) : T E nt df B (.region id ops false) Q ρ σ := by
 intro C w tm act ht st hB;have hX := B4 st.glob st.tmps x;rw [ht.opd hx] at hX
 have ho : ops[0]? = some { dst := some d, op := .next x false, type := ty, pos := pos, after := after, guard := none } := by rw [← Array.getElem?_toList, hops]; rfl
 have hsz : ops.size = r.length + 1 := by rw [← Array.length_toList, hops]; rfl
 obtain ⟨y, w₁, hrun, hext, hcase⟩ := Xl (P := E.P) (ty := ty) st.sim hX hg hv
 have hexec : (execOp act.eval { dst := some d, op := .next x false, type := ty, pos := pos, after := after, guard := none }).run E.P w = .ok (.value y) w₁ := by
  simp [execOp, hrun]
 refine wp_region ?_;rw [hsz, List.range_eq_range', List.range'_succ];simp only [wpOps, ho]
 rw [if_pos (by unfold Region.wanted; rfl)]
 refine .inl ?_;unfold Oper.wp;rw [hexec, Oper.upon_value]
 have hr : ∀ j, j < r.length -> r[j]? = ops[0 + 1 + j]? := fun j _ => by
  rw [← Array.getElem?_toList, hops, show 0 + 1 + j = j + 1 by omega]; rfl
 have fin : ∀ (v : AV) (left' : List (Key × AV)) (cur' : Option (Key × AV)), TO E nt df B ops.toList r (fun ρ σ => Q .normal ρ σ) ((d, v) :: ρ) (σ.set a (.iter m ver left' cur')) -> Sim E.P C w₁ (σ.set a (.iter m ver left' cur')) -> R C (nx σ) w₁ v y ->
   wpOps E.P ops (N6 E nt df B Q C w) (List.range' (0 + 1) r.length) (act.put (some d) y) w₁ := by
  intro v left' cur' hto hs' hv'
  obtain ⟨tm', htm, hput⟩ := Dw (nt := nt) (dst := some d) (by exact hd) ht v
  have hext' : Ext C (nx σ) w C (nx (σ.set a (.iter m ver left' cur'))) w₁ := by rw [An]; exact hext
  have st' := st.put (x := y) hs' hext' (by rw [An]; exact hv') htm
  have := hto C w₁ tm' _ hput st' (by rw [An]; exact hB) ops (0 + 1) (N6 E nt df B Q C w) [] rfl hr fun C' w' a' tm'' ρ' σ' q1 q2 q3 q4 q5 =>
   ⟨.normal, tm'', ρ', σ', C', rfl, q1, q2, q3, q4, (hext'.base hB).trans q5⟩
  rwa [List.append_nil] at this
 rcases hcase with ⟨h, hs', hv'⟩ | ⟨p, hp, hs', hv'⟩
 ·exact fin _ _ _ (h0 h) hs' hv'
 ·exact fin _ _ _ (h1 p hp) hs' hv'
variable {Rr : Rec}
theorem Aex {t r kt kt' sz ver : Nat} {agg : Bool} {z : AV} {x : Operand} {es : List (Key × AV)} (hi : mpI E.P t = some (kt', z, sz, agg)) (hx : A0 E ρ x = some (.mp r)) (hm : σ.get r = some (.map kt es ver)) :
  Bu E Rr (.range t x) ρ σ (.it (nx σ)) (σ.new (.iter (some r) ver es none)) := fun tm h => by
 obtain ⟨ti, et, h1, h2⟩ := Al7 hi;simp only [opA, Bm, h1, h2, h.opd hx, Abx, hm]
theorem Aey {x : Operand} {a r ver kt : Nat} {left es : List (Key × AV)} {k : Key} {v : AV} (hx : A0 E ρ x = some (.it a)) (hg : σ.get a = some (.iter (some r) ver left (some (k, v)))) (hm : σ.get r = some (.map kt es ver)) :
  Bu E Rr (.entry x) ρ σ (.tup [Qf k, v]) σ := fun tm h => by
 simp only [opA, Bm, h.opd hx, Wx, hg, hm, Nat.beq_refl, cond_true]
end
theorem Rc {α : Type} {enc : α -> AV} : ∀ {m : SM α} {p : (Key × AV) × List (Key × AV)}, p ∈ Fu (Ct enc m) -> ∃ q, q ∈ Fu m /\ p = ((kS q.1.1, enc q.1.2), Ct enc q.2)
 | [], p, h => by simp [Ct, Fu] at h
 | x :: m, p, h => by
  simp only [Ct, List.map_cons, Fu, List.mem_cons, List.mem_map] at h
  rcases h with rfl | ⟨y, hy, rfl⟩
  ·exact ⟨(x, m), by simp [Fu], rfl⟩
  ·obtain ⟨q, h1, rfl⟩ := Rc (m := m) hy
   exact ⟨(q.1, x :: q.2), by simp only [Fu, List.mem_cons, List.mem_map]; exact .inr ⟨q, h1, rfl⟩, rfl⟩
theorem Pd {α : Type} : ∀ {l : List α} {p : α × List α}, p ∈ Fu l -> p.1 ∈ l /\ (∀ x, x ∈ l ↔ x = p.1 ∨ x ∈ p.2) /\ p.2.length + 1 = l.length
 | [], p, h => by simp [Fu] at h
 | x :: m, p, h => by
  simp only [Fu, List.mem_cons, List.mem_map] at h
  rcases h with rfl | ⟨q, hq, rfl⟩
  ·exact ⟨List.mem_cons_self .., fun y => List.mem_cons, rfl⟩
  ·obtain ⟨h1, h2, h3⟩ := Pd hq
   refine ⟨List.mem_cons_of_mem _ h1, fun y => ?_, by simp only [List.length_cons]; omega⟩
   simp only [List.mem_cons, h2]
   constructor
   ·rintro (h | h | h)
    ·exact .inr (.inl h)
    ·exact .inl h
    ·exact .inr (.inr h)
   ·rintro (h | h | h)
    ·exact .inr (.inl h)
    ·exact .inl h
    ·exact .inr (.inr h)
theorem Ed {a b : Nat} {x y : List Nat} : Di (a :: x) (b :: y) = true ↔ a < b ∨ (a = b /\ Di x y = true) := by
  simp only [Di];cases h : Nat.blt a b with
  | true => simp only [cond_true, true_iff]; exact .inl (by simpa [Nat.blt_eq] using h)
  | false =>
    have h' : ¬ a < b := fun hh => by rw [show Nat.blt a b = true from by rw [Nat.blt_eq]; exact hh] at h; cases h
    cases h2 : Nat.beq a b with
    | true => have := Nat.eq_of_beq_eq_true h2; subst this; simp
    | false => have : a ≠ b := fun hh => by subst hh; rw [Nat.beq_refl] at h2; cases h2
               simp only [cond_false, Bool.false_eq_true, false_iff]; rintro (hh | ⟨hh, _⟩) <;> contradiction
theorem Yj : ∀ a : List Nat, Di a a = false
  | [] => rfl
  | x :: a => by
    cases h : Di (x :: a) (x :: a) with
    | false => rfl
    | true => rcases Ed.1 h with h | ⟨_, h⟩
              · omega
              · rw [Yj a] at h; cases h
theorem Tj : ∀ {a b c : List Nat}, Di a b = true -> Di b c = true -> Di a c = true
 | a, b, [], _, h2 => by cases b <;> simp [Di] at h2
 | a, [], c :: z, h1, _ => by cases a <;> simp [Di] at h1
 | [], _ :: _, _ :: _, _, _ => rfl
 | a :: x, b :: y, c :: z, h1, h2 => by
  rcases Ed.1 h1 with g1 | ⟨g0, g1⟩ <;> rcases Ed.1 h2 with g2 | ⟨g3, g2⟩
  ·exact Ed.2 (.inl (by omega))
  ·exact Ed.2 (.inl (by omega))
  ·exact Ed.2 (.inl (by omega))
  ·exact Ed.2 (.inr ⟨by omega, Tj g1 g2⟩)
theorem Yk : ∀ {a b : List Nat}, Di a b = false -> Di b a = false -> a = b
 | [], [], _, _ => rfl
 | [], _ :: _, h, _ => by simp [Di] at h
 | _ :: _, [], _, h => by simp [Di] at h
 | a :: x, b :: y, h1, h2 => by
  have g1 : ¬ (a < b ∨ (a = b /\ Di x y = true)) := fun hh => by rw [Ed.2 hh] at h1; cases h1
  have g2 : ¬ (b < a ∨ (b = a /\ Di y x = true)) := fun hh => by rw [Ed.2 hh] at h2; cases h2
  have e : a = b := by omega
  subst e;rw [Yk (Bool.eq_false_iff.2 fun hh => g1 (.inr ⟨rfl, hh⟩)) (Bool.eq_false_iff.2 fun hh => g2 (.inr ⟨rfl, hh⟩))]
theorem Apz (a b : Str) : Key.lt (kS a) (kS b) = ltS a b := rfl
theorem Acs (a : Str) : ltS a a = false := Yj _
theorem Aau {a b c : Str} (h : ltS a b = true) (k : ltS b c = true) : ltS a c = true := Tj h k
theorem Aiq {a b : Str} (h : ltS a b = false) (k : ltS b a = false) : a = b := Fa.1 (Yk h k)
section
variable {α : Type}
def SM.Srt (m : SM α) : Prop := m.Pairwise fun p q => ltS p.1 q.1 = true
theorem SM.Srt.nil : SM.Srt ([] : SM α) := List.Pairwise.nil
theorem SM.get_none_of {m : SM α} {s : Str} (h : ∀ p ∈ m, p.1 ≠ s) : m.get s = none := by
 induction m with
 | nil => rfl
 | cons p m ih =>
  obtain ⟨k, v⟩ := p;simp only [SM.get];rw [if_neg (fun hh => h (k, v) (List.mem_cons_self ..) hh.symm)]
  exact ih fun q hq => h q (List.mem_cons_of_mem _ hq)
theorem SM.Srt.head {k : Str} {v : α} {m : SM α} (h : SM.Srt ((k, v) :: m)) {s : Str} (hs : ltS k s = false) (hne : s ≠ k) : SM.get ((k, v) :: m) s = none := by
 refine SM.get_none_of fun p hp hh => ?_
 rcases List.mem_cons.1 hp with rfl | hp
 ·exact hne hh.symm
 ·have := (List.pairwise_cons.1 h).1 p hp;rw [hh] at this; rw [this] at hs; cases hs
theorem SM.Srt.ext : ∀ {m n : SM α}, SM.Srt m -> SM.Srt n -> (∀ s, m.get s = n.get s) -> m = n
 | [], [], _, _, _ => rfl
 | [], (k, v) :: n, _, _, h => by have := h k; simp [SM.get] at this
 | (k, v) :: m, [], _, _, h => by have := h k; simp [SM.get] at this
 | (k, v) :: m, (k', v') :: n, hm, hn, h => by
  have e : k = k' := by
   by_cases hk : k = k'
   ·exact hk
   ·cases h1 : ltS k k' with
    | false =>
     cases h2 : ltS k' k with
     | false => exact Aiq h1 h2
     | true =>
      have := h k'; rw [hm.head h1 (Ne.symm hk)] at this
      simp [SM.get] at this
    | true =>
     have h2 : ltS k' k = false := Bool.eq_false_iff.2 fun hh => by have := Aau h1 hh; rw [Acs] at this; cases this
     have := h k; rw [hn.head h2 hk] at this
     simp [SM.get] at this
  subst e
  have e2 : v = v' := by have := h k; simpa [SM.get] using this
  subst e2
  have := SM.Srt.ext (List.pairwise_cons.1 hm).2 (List.pairwise_cons.1 hn).2 fun s => by
   by_cases hs : s = k
   ·subst hs
    have g : ∀ {q : SM α}, SM.Srt ((s, v) :: q) -> q.get s = none := fun hq => SM.get_none_of fun p hp hh => by
     have := (List.pairwise_cons.1 hq).1 p hp; rw [hh, Acs] at this; cases this
    rw [g hm, g hn]
   ·have := h s; simp only [SM.get, if_neg hs] at this; exact this
  rw [this]
theorem SM.Srt.set : ∀ {m : SM α} {s : Str} {x : α}, SM.Srt m -> SM.Srt (m.set s x)
 | [], _, _, _ => List.Pairwise.nil
 | (k, v) :: m, s, x, h => by
  have mem : ∀ {m : SM α} {p : Str × α}, p ∈ m.set s x -> ∃ q ∈ m, q.1 = p.1 := by
   intro m
   induction m with
   | nil => intro p hp; cases hp
   | cons r m ih =>
    intro p hp;obtain ⟨k, v⟩ := r;simp only [SM.set] at hp
    split at hp
    ·rcases List.mem_cons.1 hp with rfl | hp
     ·exact ⟨_, List.mem_cons_self .., rfl⟩
     ·exact ⟨p, List.mem_cons_of_mem _ hp, rfl⟩
    ·rcases List.mem_cons.1 hp with rfl | hp
     ·exact ⟨_, List.mem_cons_self .., rfl⟩
     ·obtain ⟨q, h1, h2⟩ := ih hp; exact ⟨q, List.mem_cons_of_mem _ h1, h2⟩
  simp only [SM.set]
  split
  ·exact List.pairwise_cons.2 ⟨fun p hp => (List.pairwise_cons.1 h).1 p hp, (List.pairwise_cons.1 h).2⟩
  ·refine List.pairwise_cons.2 ⟨fun p hp => ?_, SM.Srt.set (List.pairwise_cons.1 h).2⟩
   obtain ⟨q, h1, h2⟩ := mem hp;rw [← h2]; exact (List.pairwise_cons.1 h).1 q h1
theorem SM.Srt.ins : ∀ {m : SM α} {s : Str} {x : α}, SM.Srt m -> m.get s = none -> SM.Srt (m.ins s x)
 | [], _, _, _, _ => List.pairwise_singleton _ _
 | (k, v) :: m, s, x, h, hn => by
  have mem : ∀ {m : SM α} {p : Str × α}, p ∈ m.ins s x -> p = (s, x) ∨ p ∈ m := by
   intro m
   induction m with
   | nil => intro p hp; exact .inl (List.mem_singleton.1 hp)
   | cons r m ih =>
    intro p hp;obtain ⟨k, v⟩ := r;simp only [SM.ins] at hp
    split at hp
    ·rcases List.mem_cons.1 hp with rfl | hp
     ·exact .inl rfl
     ·exact .inr hp
    ·rcases List.mem_cons.1 hp with rfl | hp
     ·exact .inr (List.mem_cons_self ..)
     ·exact (ih hp).imp id (List.mem_cons_of_mem _)
  have hne : s ≠ k := fun hh => by subst hh; simp [SM.get] at hn
  cases hl : ltS s k with
  | true =>
   have e : SM.ins ((k, v) :: m) s x = (s, x) :: (k, v) :: m := by simp only [SM.ins, Apz, hl, if_true]
   rw [e];refine List.pairwise_cons.2 ⟨fun p hp => ?_, h⟩
   rcases List.mem_cons.1 hp with rfl | hp
   ·exact hl
   ·exact Aau hl ((List.pairwise_cons.1 h).1 p hp)
  | false =>
   have e : SM.ins ((k, v) :: m) s x = (k, v) :: SM.ins m s x := by simp [SM.ins, Apz, hl]
   rw [e]
   have hk : ltS k s = true := by
    cases hh : ltS k s with
    | true => rfl
    | false => exact absurd (Aiq hl hh) hne
   refine List.pairwise_cons.2 ⟨fun p hp => ?_, SM.Srt.ins (List.pairwise_cons.1 h).2 (by simpa [SM.get, hne] using hn)⟩
   rcases mem hp with rfl | hp
   ·exact hk
   ·exact (List.pairwise_cons.1 h).1 p hp
theorem SM.Srt.put {m : SM α} {s : Str} {x : α} (h : SM.Srt m) : SM.Srt (m.put s x) := by
 unfold SM.put
 split
 ·exact h.set
 ·rename_i hn; exact h.ins hn
def SM.over (n m : SM α) : SM α := n.foldl (fun m p => m.put p.1 p.2) m
theorem SM.Srt.over : ∀ {n m : SM α}, SM.Srt m -> SM.Srt (SM.over n m)
 | [], _, h => h
 | p :: n, m, h => SM.Srt.over (n := n) (m := m.put p.1 p.2) h.put
def SM.Key1 (m : SM α) : Prop := m.Pairwise fun p q => p.1 ≠ q.1
theorem SM.Srt.key1 {m : SM α} (h : SM.Srt m) : SM.Key1 m := h.imp fun {p q} hh => fun e => by rw [e, Acs] at hh; cases hh
theorem SM.get_over : ∀ {n m : SM α} {s : Str}, SM.Key1 n -> (SM.over n m).get s = (n.get s).or (m.get s)
 | [], _, _, _ => by simp [SM.over, SM.get]
 | (k, v) :: n, m, s, h => by
  have ih := SM.get_over (n := n) (m := m.put k v) (s := s) (List.pairwise_cons.1 h).2
  show (SM.over n (m.put k v)).get s = _
  rw [ih, SM.get_put];simp only [SM.get]
  by_cases hs : s = k
  ·subst hs;rw [SM.get_none_of fun p hp hh => (List.pairwise_cons.1 h).1 p hp hh.symm]; simp
  ·simp [hs]
theorem Yl : ∀ {m : SM α} {p : (Str × α) × SM α}, SM.Key1 m -> p ∈ Fu m -> SM.Key1 p.2 /\ p.2.get p.1.1 = none /\ ∀ s, m.get s = if s = p.1.1 then some p.1.2 else p.2.get s
 | [], p, _, h => by simp [Fu] at h
 | (k, v) :: m, p, hk, h => by
  simp only [Fu, List.mem_cons, List.mem_map] at h;obtain ⟨h1, h2⟩ := List.pairwise_cons.1 hk
  rcases h with rfl | ⟨q, hq, rfl⟩
  ·exact ⟨h2, SM.get_none_of fun p hp hh => h1 p hp hh.symm, fun s => rfl⟩
  ·obtain ⟨g1, g2, g3⟩ := Yl h2 hq;obtain ⟨m1, m2, _⟩ := Pd hq;have hne : k ≠ q.1.1 := h1 q.1 m1;refine ⟨List.pairwise_cons.2 ⟨fun p hp => h1 p ((m2 p).2 (.inr hp)), g1⟩, ?_, fun s => ?_⟩
   ·simp only [SM.get]; rw [if_neg (Ne.symm hne)]; exact g2
   ·simp only [SM.get, g3 s]
    by_cases hs : s = k
    ·subst hs; simp [hne]
    ·simp [hs]
end
end Go.AM
namespace Go.AM
open Go
def ItV (σ : Sto) : Prop := ∀ c r ver left cur, σ.get c = some (.iter (some r) ver left cur) -> ∀ kt es ver', σ.get r = some (.map kt es ver') -> ver <= ver'
theorem Sim.itv {P : Program} {C : Ctx} {w : World} {σ : Sto} (h : Sim P C w σ) : ItV σ := fun c r ver left cur hg kt es ver' hr => by
 have ho := h.obj c _ hg;obtain ⟨_, _, _, _, _, _, _, _, k3⟩ := ho;exact (k3 _ _ _ hr).1
theorem T_itv {E : Env} {nt B : Nat} {df : List (Nat × List AV)} {Q : Dh} {ρ : Al} {σ : Sto} {c : Code} (h : ItV σ -> T E nt df B c Q ρ σ) : T E nt df B c Q ρ σ := fun C w tm a ht st hB => h st.sim.itv C w tm a ht st hB
theorem WFS.setMap {σ : Sto} (hw : WFS σ) (hi : ItV σ) {r kt ver ver' : Nat} {es es' : List (Key × AV)} (hm : σ.get r = some (.map kt es ver)) (hu : Ia (nx σ) es' = true) (hv : ver < ver' ∨ (ver' = ver /\ es' = es)) : WFS (σ.set r (.map kt es' ver')) := by
 intro a O hg;rw [Sto.get_set] at hg;rw [An]
 split at hg
 ·rename_i ha; cases hg; subst ha; exact ⟨(hw _ _ hm).1, hu, trivial⟩
 ·obtain ⟨h1, h2, h3⟩ := hw a O hg;refine ⟨h1, h2, ?_⟩;cases O with
  | iter m v left cur =>
   cases m with
   | none => trivial
   | some q =>
    intro kt2 es2 hr;rw [Sto.get_set] at hr
    split at hr
    ·rename_i hq
     subst hq
     rcases hv with hv | ⟨rfl, rfl⟩
     ·have := hi a q v left cur hg _ _ _ hm;cases hr; omega
     ·cases hr; rw [An]; exact h3 _ _ hm
    ·rw [An]; exact h3 _ _ hr
  | cells _ => trivial
  | map _ _ _ => trivial
  | stamp _ _ _ => trivial
  | loop _ => trivial
theorem Aw.setMap {σ τ : Sto} (hw : WFS σ) (hi : ItV σ) {r kt ver ver' : Nat} {es es' : List (Key × AV)} (hm : σ.get r = some (.map kt es ver)) (hu : Ia (nx σ) es' = true) (hv : ver < ver' ∨ (ver' = ver /\ es' = es))
  (hn : nx σ <= nx τ) (hg : ∀ c, c < nx σ -> c ≠ r -> τ.get c = σ.get c) (hr : τ.get r = some (.map kt es' ver')) : Aw τ (σ.set r (.map kt es' ver')) := by
 refine Aw.of_same (hw.setMap hi hm hu hv) (by rw [An]; exact hn) fun c hc => ?_
 rw [An] at hc;rw [Sto.get_set]
 split
 ·rename_i h; subst h; exact hr
 ·rename_i h; exact hg c hc (by intro hh; exact h (by omega))
section
variable {E : Env} {nt B : Nat} {df : List (Nat × List AV)} {Q : Dh} {Rr : Rec} {ops r : List Oper} {K : KD} {ρ : Al} {σ τ : Sto} {eps : List Sto} {log : List (Al × AV)}
theorem TD_opF {op : Op} {dst : Option Nat} {ty : Nat} {pos : String} {after : Array Edge} {v : AV} {σ₁ : Sto} (he : Cw (B9 E op) = false) (hd : Df nt dst = true) (h : Bu E Rr op ρ σ v σ₁)
  (k : TD E nt Rr ops r K (Es dst v ρ) σ eps ((ρ, v) :: log)) : TD E nt Rr ops ({ dst := dst, op := op, type := ty, pos := pos, after := after, guard := none } :: r) K ρ σ eps log := Aii (b := false) he hd h k
theorem TD_opT {op : Op} {dst : Option Nat} {ty : Nat} {pos : String} {after : Array Edge} {v : AV} {σ₁ : Sto} (he : Cw (B9 E op) = true) (hd : Df nt dst = true) (h : Bu E Rr op ρ σ v σ₁)
  (k : TD E nt Rr ops r K (Es dst v ρ) σ₁ (σ₁ :: eps) ((ρ, v) :: log)) : TD E nt Rr ops ({ dst := dst, op := op, type := ty, pos := pos, after := after, guard := none } :: r) K ρ σ eps log := Aii (b := true) he hd h k
theorem TD_onF {o oj : Oper} {v : AV} {σ₁ : Sto} {j d : Nat} {b want : Bool} (hg : o.guard = some (j, want)) (hj : ops[j]? = some oj) (hdj : oj.dst = some d) (hb : Al.at ρ d = some (.bool b)) (hw : cond b want (!want) = true)
  (he : Cw (B9 E o.op) = false) (hd : Df nt o.dst = true) (h : Bu E Rr o.op ρ σ v σ₁)
  (k : TD E nt Rr ops r K (Es o.dst v ρ) σ eps ((ρ, v) :: log)) : TD E nt Rr ops (o :: r) K ρ σ eps log := K8 (e := false) hg hj hdj hb hw he hd h k
theorem Mz {o oj : Oper} {v : AV} {σ₁ : Sto} {j d : Nat} {b want : Bool} (hg : o.guard = some (j, want)) (hj : ops[j]? = some oj) (hdj : oj.dst = some d) (hb : Al.at ρ d = some (.bool b)) (hw : cond b want (!want) = true)
  (he : Cw (B9 E o.op) = true) (hd : Df nt o.dst = true) (h : Bu E Rr o.op ρ σ v σ₁)
  (k : TD E nt Rr ops r K (Es o.dst v ρ) σ₁ (σ₁ :: eps) ((ρ, v) :: log)) : TD E nt Rr ops (o :: r) K ρ σ eps log := K8 (e := true) hg hj hdj hb hw he hd h k
theorem TD_offF {o oj : Oper} {j d : Nat} {b want : Bool} (hg : o.guard = some (j, want)) (hj : ops[j]? = some oj) (hdj : oj.dst = some d) (hb : Al.at ρ d = some (.bool b)) (hw : cond b want (!want) = false)
  (he : Cw (B9 E o.op) = false) (hd : Df nt o.dst = true)
  (k : TD E nt Rr ops r K (Es o.dst Bd ρ) σ eps ((ρ, Bd) :: log)) : TD E nt Rr ops (o :: r) K ρ σ eps log := Lm (e := false) hg hj hdj hb hw he hd k
theorem La {o oj : Oper} {j d : Nat} {b want : Bool} (hg : o.guard = some (j, want)) (hj : ops[j]? = some oj) (hdj : oj.dst = some d) (hb : Al.at ρ d = some (.bool b)) (hw : cond b want (!want) = false)
  (he : Cw (B9 E o.op) = true) (hd : Df nt o.dst = true)
  (k : TD E nt Rr ops r K (Es o.dst Bd ρ) σ (σ :: eps) ((ρ, Bd) :: log)) : TD E nt Rr ops (o :: r) K ρ σ eps log := Lm (e := true) hg hj hdj hb hw he hd k
end
theorem Acu (s : Str) : Key.eq (kS s) (kS s) = true := by rw [Aes]; simp
theorem Aav {k : Key} (hk : Key.eq k k = true) {v z : AV} : ∀ {es : List (Key × AV)}, D2 k es = none -> Pj k v (Nm k z es) = Nm k v es
 | [], _ => by
  simp only [Nm, Pj, hk, cond_true]
 | (k', v') :: r, h => by
  simp only [D2] at h;cases h1 : Key.eq k k' with
  | true => rw [h1] at h; cases h
  | false =>
   rw [h1] at h;simp only [Nm];cases h2 : Key.lt k k' with
   | true => simp only [cond_true, Pj, hk]
   | false => simp only [cond_false, Pj, h1]; rw [Aav hk h]
section
variable {E : Env} {ρ : Al} {σ : Sto} {Rr : Rec} {t ty n r a : Nat} {x y w : Operand} {α : Type} {enc : α -> AV} {m : SM α} {s : Str}
def Rd (enc : α -> AV) (z : AV) (m : SM α) (s : Str) : List (Key × AV) := match m.get s with | some _ => Ct enc m | none => Nm (kS s) z (Ct enc m)
theorem Aez {z : AV} {sz ver : Nat} {agg : Bool} (h9 : Dz E.P 9 = true) (hi : mpI E.P t = some (9, z, sz, agg)) (hx : A0 E ρ x = some (.mp r)) (hm : σ.get r = some (.map 9 (Ct enc m) ver)) (hy : A0 E ρ y = some (sV s)) :
  Bu E Rr (.mapEntry t x y) ρ σ (.tup [((m.get s).map enc).getD z, .stp (nx σ)]) ((σ.set r (.map 9 (Rd enc z m s) (ver + 1))).new (.stamp r (ver + 1) (kS s))) := fun tm h => by
 obtain ⟨ti, et, te, h1, h2, h3, h4, h5, h6⟩ := Xu hi;simp only [opA, Bm, h1, h2, h3, h4, h.opd hx, h.opd hy, keyS h9, Oz, hm, Nat.beq_refl, Au, Hf, Rd];cases m.get s <;> rfl
theorem Zx {z : AV} {sz ver : Nat} {agg : Bool} {v : α} (hi : mpI E.P t = some (9, z, sz, agg)) (hx : A0 E ρ x = some (.mp r)) (hy : A0 E ρ y = some (.stp a)) (hw : A0 E ρ w = some (enc v)) (hf : ∀ te : TI, te.size = sz -> te.isAgg = agg -> Pi te (enc v) = true)
  (ha : σ.get a = some (.stamp r ver (kS s))) (hm : σ.get r = some (.map 9 (Rd enc z m s) ver)) : Bu E Rr (.entryStore t x y w) ρ σ Bd (σ.set r (.map 9 (Ct enc (m.put s v)) (ver + 1))) := fun tm h => by
 obtain ⟨ti, et, te, h1, h2, h3, h4, h5, h6⟩ := Xu hi
 have e1 : ∃ u, D2 (kS s) (Rd enc z m s) = some u := by
  unfold Rd
  split
  ·rename_i u hu; rw [Hf, hu]; exact ⟨_, rfl⟩
  ·rename_i hu
   have : ∀ es, D2 (kS s) (Nm (kS s) z es) = some z ∨ ∃ u, D2 (kS s) es = some u := by
    intro es
    induction es with
    | nil => left; simp [Nm, D2, Acu]
    | cons p r ih =>
     obtain ⟨k', v'⟩ := p;simp only [Nm];cases h2 : Key.lt (kS s) k' with
     | true => left; simp [D2, Acu]
     | false =>
      simp only [cond_false, D2];cases h1 : Key.eq (kS s) k' with
      | true => exact .inr ⟨v', rfl⟩
      | false => exact ih
   rcases this (Ct enc m) with h | ⟨u, h⟩
   ·exact ⟨_, h⟩
   ·rw [Hf, hu] at h; cases h
 have e2 : Pj (kS s) (enc v) (Rd enc z m s) = Ct enc (m.put s v) := by
  unfold Rd SM.put
  split
  ·rename_i u hu; rw [Yd]; try rw [hu]
  ·rename_i hu; rw [Aav (Acu s) (by rw [Hf, hu]; rfl), Ye]; try rw [hu]
 obtain ⟨u, e1⟩ := e1;simp only [opA, Bm, h1, h2, h3, h.opd hx, h.opd hy, h.opd hw, Kx, ha, hm, Nat.beq_refl, hf te h5 h6, Bool.and_self, Au, e1, e2]
theorem Ve {parts : Array (Nat × Operand)} {z cs : List AV} {sz len : Nat} {agg : Bool} {ps : List (Nat × Nat × AV)} (hz : (match Bi E.P t with | some ti => ti.zero | none => none) = some z) (hi : arI E.P t = some (len, sz, agg))
  (hp : Uf E ρ sz parts.toList = some ps) (hf : R7 z ps = some cs) : Bu E Rr (.build t parts) ρ σ (.agg cs) σ := fun tm h => by
 unfold arI at hi
 split at hi
 ·rename_i ti hti
  rw [hti] at hz;simp only at hz
  split at hi
  ·rename_i nn e he
   split at hi
   ·rename_i te hte
    simp only [Option.some.injEq, Prod.mk.injEq] at hi;obtain ⟨k1, k2, k3⟩ := hi;subst k1 k2;simp only [opA, Bm, hti, hz, he, hte, X8 h hp, Lh, hf]
   ·cases hi
  ·cases hi
 ·cases hi
theorem Akm {sz m : Nat} {agg : Bool} {k : IntKind} {cs : List AV} {v : AV} (hi : arI E.P t = some (m, sz, agg)) (hx : A0 E ρ x = some (.agg cs)) (hy : A0 E ρ y = some (.int k (.ofNat n)))
  (hn : n < m) (hv : Lz sz agg (cs.drop (n * sz)) = some v) : Bu E Rr (.index t x y) ρ σ v σ := fun tm h => by
 unfold arI at hi
 split at hi
 ·rename_i ti hti
  split at hi
  ·rename_i nn e he
   split at hi
   ·rename_i te hte
    simp only [Option.some.injEq, Prod.mk.injEq] at hi;obtain ⟨k1, k2, k3⟩ := hi;subst k1 k2 k3
    have hb : Nat.blt n nn = true := by simpa using hn
    simp only [opA, Bm, hti, he, hte, h.opd hx, h.opd hy, Ju, hb, cond_true, I0, hv]
   ·cases hi
  ·cases hi
 ·cases hi
end
def Lb : Op -> Bool
 | .defer _ => true
 | _ => false
def Vf (ro : Option Nat) : Fence := { Fence.wide with round := ro }
theorem Aqz {ro : Option Nat} {n : Nat} {P : Program} {f : FuncId} {args : Array Value} {w : World} {R : Ending -> World -> Prop} (h : Calls P f args w R) : CallsIn (Vf ro) n P f args w R :=
 (callsIn_wide (n := n)).2 h
theorem rowsR {ro : Option Nat} {n : Nat} {P : Program} {row : String} {args : Array Value} {w : World} {R : Value -> World -> Prop} (h : Rows P row args w R) : RowsIn (Vf ro) n P row args w R :=
 fun c cs _ => let ⟨v, w', r, s⟩ := h c cs; ⟨v, w', r, stepsIn_wide.2 s⟩
theorem Lc {ro : Option Nat} {n : Nat} {P : Program} {o : Oper} {a : Act} {w : World} {next : Act -> World -> Prop} {Q : Exit -> Act -> World -> Prop} (hd : Lb o.op = false) (h : o.wp P a w next Q) :
  o.wpIn (Vf ro) n P a w next Q := by
 refine ⟨fun _ _ => trivial, ?_⟩
 rw [Oper.semAt_eq _ _ _ (fun c hc => by rw [hc] at hd; cases hd)]
 unfold Oper.wp at h
 generalize (execOp a.eval o).run P w = r at h
 cases r with
 | ok x w' =>
  cases x with
  | value v => exact h
  | skip => exact h
  | defer d => exact h
  | enter f args => exact ⟨fun hh => (by cases hh), Aqz h⟩
  | row row args => exact ⟨fun hh => (by cases hh), rowsR h⟩
  | round _ _ _ _ _ => exact h.elim
  | _ => exact h.elim
 | halt x w' =>
  cases x with
  | panic v => exact h
  | _ => exact h.elim
def Kf (l : List Oper) : Bool := l.all fun o => !Lb o.op
section
variable {E : Env} {Rr : Rec} {C : Ctx} {w : World}
theorem Oa (hR : Bc E Rr) {ro : Option Nat} {n : Nat} {ops : Array Oper} {Q : Exit -> Act -> World -> Prop} {s' : St} : ∀ (r : List Oper) (i : Nat) (C : Ctx) (w : World) (s : St) (a : Act), Kf r = true -> (∀ j, r[j]? = ops[i + j]?) -> SSt E C w s a -> Gt E ops.toList Rr r s = some s' ->
  (∀ C' w' a', SSt E C' w' s' a' -> Ext C (nx s.sto) w C' (nx s'.sto) w' -> Q .normal a' w') -> wpOpsIn (Vf ro) n E.P ops Q (List.range' i r.length) a w
 | [], i, C, w, s, a, _, _, st, h, hQ => by
  simp only [Gt, Option.some.injEq] at h; subst h;simp only [List.length_nil, List.range'_zero, wpOpsIn];exact hQ C w a st (Ext.refl _ _ _)
 | o :: r, i, C, w, s, a, hn, hr, st, h, hQ => by
  simp only [Gt] at h;simp only [Kf, List.all_cons, Bool.and_eq_true] at hn
  split at h
  ·rename_i s1 h1
   have ho : ops[i]? = some o := by have := hr 0; simpa using this.symm
   simp only [List.length_cons, List.range'_succ, wpOpsIn, ho];have := J7 (K := wpOpsIn (Vf ro) n E.P ops Q (List.range' (i + 1) r.length)) (Q := Q) hR st h1 fun C' w' a' st' e' =>
    Oa hR r (i + 1) C' w' s1 a' hn.2 (fun j => by have := hr (j + 1); simp only [List.getElem?_cons_succ] at this; rw [this]; congr 1; omega) st' h fun C2 w2 a2 st2 e2 => hQ C2 w2 a2 st2 (e'.trans e2)
   rcases this with ⟨h2, h3⟩ | ⟨h2, h3⟩
   ·rw [if_pos h2]; exact Lc (by simpa using hn.1) h3
   ·rw [if_neg (by rw [h2]; simp)]; exact ⟨fun _ _ => trivial, h3⟩
  ·cases h
end
def Air (E : Env) (tm : Tr AV) (aY : Nat) (op : Op) : Option (List AV) := match op with
 | .call c => match c.callee with
  | .value v => match opd E tm v with
   | .yl a => cond (Nat.beq a aY) (some (opds E tm c.args.toList)) none
   | _ => none
  | _ => none
 | _ => none
def oneY (E : Env) (ops : List Oper) (Hy : List AV -> Sto -> Option (Bool × Sto)) (aY : Nat) (o : Oper) (R : Rec) (s : St) : Option St :=
 match C8 ops o s.tm with
 | some true => match Air E s.tm aY o.op with
  | some args => match Hy args s.sto with
   | some (b, σ) => match Jl o.dst s.tm s.nt (.bool b) with
    | some tm => some ⟨tm, s.nt, s.df, σ⟩
    | none => none
   | none => none
  | none => Me E ops o R s
 | _ => Me E ops o R s
def Tk (E : Env) (ops : List Oper) (Hy : List AV -> Sto -> Option (Bool × Sto)) (aY : Nat) (R : Rec) : List Oper -> St -> Option St
 | [], s => some s
 | o :: r, s => match oneY E ops Hy aY o R s with
  | some s' => Tk E ops Hy aY R r s'
  | none => none
structure RF where
 aY : Nat
 tm : Tr AV
 nt : Nat
 ps : Array Tmp
 assign : Code
 body : Code
def Ee (L : RF) (C : Ctx) (N : Nat) (w : World) : Prop :=
 L.aY < N /\ (∀ c o, C.loc L.aY = some (c, o) -> c = (C.stm L.aY).toNat) /\ ∃ r, C.lr L.aY = some r /\ TR C N w L.tm r.tmps /\ r.tmps.size = L.nt /\ r.params = L.ps /\ r.assign = L.assign /\ r.body = L.body
theorem Ee.ext {L : RF} {C : Ctx} {N : Nat} {w : World} {C' : Ctx} {N' : Nat} {w' : World} (h : Ee L C N w) (e : Ext C N w C' N' w') : Ee L C' N' w' := by
 obtain ⟨h1, h2, r, h3, h4, h5, h6⟩ := h
 exact ⟨Nat.lt_of_lt_of_le h1 e.next, fun c o hc => by rw [e.stm _ h1]; exact h2 c o (e.loc _ h1 _ hc), r, (e.lr _ h1).trans h3, h4.ext e, h5, h6⟩
def Ym (E : Env) (L : RF) (Hy : List AV -> Sto -> Option (Bool × Sto)) : Prop :=
 ∀ (C : Ctx) (w : World) (σ : Sto) (args : List AV) (vs : Array Value) (b : Bool) (σ' : Sto), Ee L C (nx σ) w -> Sim E.P C w σ -> Fv C (nx σ) w E -> RL C (nx σ) w args vs.toList -> Hy args σ = some (b, σ') ->
  ∃ r, w.heap[(C.stm L.aY).toNat]? = some (.loop (Dp r .ready)) /\ vs.size = r.params.size /\ ∀ n, RoundIn Fence.wide n E.P (C.stm L.aY).toNat r.fn ((r.params.zip vs).foldl (fun tmps (t, a) => tmps.setIfInBounds t a) r.tmps) r.assign r.body w fun e w' =>
   e = .returned (.bool b) /\ ∃ C', Sim E.P C' w' σ' /\ Ext C (nx σ) w C' (nx σ') w'
section
variable {E : Env} {Rr : Rec} {C : Ctx} {w : World} {L : RF} {Hy : List AV -> Sto -> Option (Bool × Sto)}
theorem Agw (hR : Bc E Rr) (hY : Ym E L Hy) {s s' : St} {a : Act} (hi : Ee L C (nx s.sto) w) (st : SSt E C w s a) {ops : Array Oper} {o : Oper} (hnd : Lb o.op = false) (h : oneY E ops.toList Hy L.aY o Rr s = some s')
  {n : Nat} {K : Act -> World -> Prop} {Q : Exit -> Act -> World -> Prop} (hK : ∀ C' w' a', SSt E C' w' s' a' -> Ext C (nx s.sto) w C' (nx s'.sto) w' -> K a' w') :
  (Region.wanted o (yielded ops a.tmps) = true /\ o.wpIn Fence.wide n E.P a w K Q) ∨ (Region.wanted o (yielded ops a.tmps) = false /\ K (a.put o.dst undef) w) := by
 have plain : Me E ops.toList o Rr s = some s' -> (Region.wanted o (yielded ops a.tmps) = true /\ o.wpIn Fence.wide n E.P a w K Q) ∨ (Region.wanted o (yielded ops a.tmps) = false /\ K (a.put o.dst undef) w) := fun h1 => by
  rcases J7 (Q := Q) hR st h1 hK with ⟨h2, h3⟩ | h2
  ·exact .inl ⟨h2, Lc (ro := none) hnd h3⟩
  ·exact .inr h2
 unfold oneY at h
 split at h
 ·rename_i hg
  split at h
  ·rename_i args hargs
   refine .inl ⟨E7 st.tmps hg, ?_⟩
   split at h
   ·rename_i bb σ₁ hσ₁
    split at h
    ·rename_i tm htm
     cases h;unfold Air at hargs
     split at hargs
     ·rename_i c hop
      split at hargs
      ·rename_i v hc
       split at hargs
       ·rename_i a' hv
        cases hb : Nat.beq a' L.aY
        ·simp [hb] at hargs
        ·simp only [hb, cond_true, Option.some.injEq] at hargs;subst hargs;have ha := Nat.eq_of_beq_eq_true hb;have hV := B4 st.glob st.tmps v;rw [hv, ha] at hV;unfold R at hV;obtain ⟨hV, _⟩ := hV;have hA := D7 st.glob st.tmps c.args.toList
         have hA' : RL C (nx s.sto) w (opds E s.tm c.args.toList) (c.args.map a.eval).toList := by
          simp only [Array.toList_map]; exact hA
         obtain ⟨r, hrec, hsz, hround⟩ := hY C w s.sto _ _ bb σ₁ hi st.sim st.glob hA' hσ₁;have hy := run_yield (P := E.P) (args := c.args.map a.eval) hrec hsz
         have hrun : (execOp a.eval o).run E.P w = .ok (.round (C.stm L.aY).toNat r.fn ((r.params.zip (c.args.map a.eval)).foldl (fun tmps (t, a) => tmps.setIfInBounds t a) r.tmps) r.assign r.body) w := by
          simp [execOp, hop, resolve, hc, hV, Deferred.ofValue, invoke]
          simpa [Dp] using hy
         refine ⟨fun _ _ => trivial, ?_⟩
         rw [Oper.semAt_eq _ _ _ (fun c hc => by rw [hc] at hnd; cases hnd), hrun, Oper.uponIn_round]
         refine ⟨fun hh => (by cases hh), (hround (n - 1)).mono fun e w' he => ?_⟩
         obtain ⟨rfl, C', k1, k2⟩ := he
         exact hK C' w' _ (st.put k1 k2 (by unfold R; rfl) htm) k2
       ·cases hargs
      ·cases hargs
     ·cases hargs
    ·cases h
   ·cases h
  ·exact plain h
 ·exact plain h
theorem Qp (hR : Bc E Rr) (hY : Ym E L Hy) {n : Nat} {ops : Array Oper} {Q : Exit -> Act -> World -> Prop} {s' : St} : ∀ (r : List Oper) (i : Nat) (C : Ctx) (w : World) (s : St) (a : Act), Kf r = true -> (∀ j, r[j]? = ops[i + j]?) -> Ee L C (nx s.sto) w -> SSt E C w s a -> Tk E ops.toList Hy L.aY Rr r s = some s' ->
  (∀ C' w' a', SSt E C' w' s' a' -> Ext C (nx s.sto) w C' (nx s'.sto) w' -> Q .normal a' w') -> wpOpsIn Fence.wide n E.P ops Q (List.range' i r.length) a w
 | [], i, C, w, s, a, _, _, _, st, h, hQ => by
  simp only [Tk, Option.some.injEq] at h; subst h;simp only [List.length_nil, List.range'_zero, wpOpsIn];exact hQ C w a st (Ext.refl _ _ _)
 | o :: r, i, C, w, s, a, hn, hr, hi, st, h, hQ => by
  simp only [Tk] at h;simp only [Kf, List.all_cons, Bool.and_eq_true] at hn
  split at h
  ·rename_i s1 h1
   have ho : ops[i]? = some o := by have := hr 0; simpa using this.symm
   simp only [List.length_cons, List.range'_succ, wpOpsIn, ho]
   have := Agw (n := n) (K := wpOpsIn Fence.wide n E.P ops Q (List.range' (i + 1) r.length)) (Q := Q) hR hY hi st (by simpa using hn.1) h1 fun C' w' a' st' e' =>
    Qp hR hY r (i + 1) C' w' s1 a' hn.2 (fun j => by have := hr (j + 1); simp only [List.getElem?_cons_succ] at this; rw [this]; congr 1; omega) (hi.ext e') st' h fun C2 w2 a2 st2 e2 => hQ C2 w2 a2 st2 (e'.trans e2)
   rcases this with ⟨h2, h3⟩ | ⟨h2, h3⟩
   ·rw [if_pos h2]; exact h3
   ·rw [if_neg (by rw [h2]; simp)]; exact ⟨fun _ _ => trivial, h3⟩
  ·cases h
def Amf (E : Env) (R : Rec) (Hy : List AV -> Sto -> Option (Bool × Sto)) (aY : Nat) (ops : List Oper) (s : St) : Out :=
 match Kf ops with
 | true => match Tk E ops Hy aY R ops s with
  | some s' => some [(.normal, s')]
  | none => none
 | false => none
theorem Ae0 (hR : Bc E Rr) (hY : Ym E L Hy) (id : Nat) (ops : Array Oper) : Jw E (Ee L) (Amf E Rr Hy L.aY ops.toList) (.region id ops false) := by
 intro C w s a l hi st h;unfold Amf at h
 split at h
 ·rename_i hn
  split at h
  ·rename_i s' hs'
   cases h;refine (wpIn_wide (n := 0)).1 (wpIn_region ?_);rw [List.range_eq_range', ← Array.length_toList]
   exact Qp hR hY ops.toList 0 C w s a hn (fun j => by simp) hi st hs' fun C₂ w₂ a₂ st₂ e₂ => ⟨_, List.mem_singleton_self _, C₂, rfl, st₂, e₂⟩
  ·cases h
 ·cases h
end
section
variable {E : Env} {C C' C₁ C₂ : Ctx} {N N' N₁ N₂ : Nat} {w w' w₁ w₂ w₃ w₄ : World} {l : Nat}
theorem Ext.turnNew (e : Ext C N w C₁ N₁ w₁) (t : Fp w₁ w₂ l) (hl : ¬ C₁.own l) (hge : w.heap.size <= l) : Ext C N w C₁ N₁ w₂ where
 next := e.next
 size := by rw [t.size]; exact e.size
 keep b hb ho := by
  obtain ⟨k1, k2⟩ := e.keep b hb ho
  exact ⟨k1, by rw [t.other b (by omega), k2]⟩
 loc := e.loc
 stm := e.stm
 lr := e.lr
 bsz a ha c o hc := by rw [t.csize]; exact e.bsz a ha c o hc
 res := ⟨e.res.1, fun b hb => by rw [t.other b (fun he => hl (.inl (by rw [e.res.1]; exact he ▸ hb))), e.res.2 b hb]⟩
 os := ⟨t.os.1.trans e.os.1, t.os.2.trans e.os.2⟩
end
def Ctx.setLoop (C : Ctx) (a : Nat) (n : Int) (r : Loop) : Ctx := { C with stm := fun b => if b = a then n else C.stm b, lr := fun b => if b = a then some r else C.lr b }
section
variable {P : Program} {C : Ctx} {w w' : World} {σ : Sto}
theorem Sim.setLoop (h : Sim P C w σ) (n : Int) (r : Loop) : Sim P (C.setLoop (nx σ) n r) w σ /\ Ext C (nx σ) w (C.setLoop (nx σ) n r) (nx σ) w := by
 have hne : ∀ {a}, a < nx σ -> ¬ a = nx σ := fun h => by omega
 have e : Ext C (nx σ) w (C.setLoop (nx σ) n r) (nx σ) w := ⟨nl, nl, fun b _ ho => ⟨ho, rfl⟩, fun _ _ _ h => h,
  fun a ha => by simp [Ctx.setLoop, hne ha], fun a ha => by simp [Ctx.setLoop, hne ha], fun _ _ _ _ _ => rfl, ⟨rfl, fun _ _ => rfl⟩, rfl, rfl⟩
 exact ⟨⟨fun a X hg => (h.obj a X hg).ext e (h.bound a X hg) rfl (fun _ _ _ => rfl) fun x _ kt es' v' hg' => ⟨kt, es', v', hg', nl, fun _ => ⟨rfl, fun _ _ _ => rfl⟩⟩,
  h.bound, h.dom, h.inj, h.lt, h.rlt, h.rdis⟩, e⟩
theorem Sim.newLoop (h : Sim P C w σ) {r : Loop} (hr : Dp r .ready = r) (p : Pu w w' (.loop r)) :
  Sim P ((C.setLoop (nx σ) (w.heap.size : Int) r).add (nx σ) w.heap.size 0) w' (σ.new (.loop .ready)) /\
  Ext C (nx σ) w ((C.setLoop (nx σ) (w.heap.size : Int) r).add (nx σ) w.heap.size 0) (nx σ + 1) w' := by
 obtain ⟨h1, e1⟩ := h.setLoop (w.heap.size : Int) r
 obtain ⟨h2, e2⟩ := h1.new p (.loop .ready) rfl fun _ => ⟨w.heap.size, r, by simp [Ctx.add], by simp [Ctx.add, Ctx.setLoop], by rw [hr]; exact p.here⟩
 exact ⟨h2, e1.trans e2⟩
theorem Sim.turnLoop (h : Sim P C w σ) {a : Nat} {st : LS} (hg : σ.get a = some (.loop st)) (st' : LS) :
  ∃ c r, C.loc a = some (c, 0) /\ C.lr a = some r /\ w.heap[c]? = some (.loop (Dp r st)) /\
   Sim P C (w.putObj c (.loop (Dp r st'))) (σ.set a (.loop st')) /\ Ext C (nx σ) w C (nx σ) (w.putObj c (.loop (Dp r st'))) := by
 obtain ⟨c, r, h1, h2, h3⟩ := h.obj a _ hg;have hlt := (Array.getElem?_eq_some_iff.1 h3).1;have p : Wr w (w.putObj c (.loop (Dp r st'))) c (.loop (Dp r st')) := ⟨World.putObj_size, World.putObj_heap_same hlt, fun b hb => World.putObj_heap_other hb, rfl, rfl⟩
 have hsz : csize (w.putObj c (.loop (Dp r st'))) c = csize w c := by unfold csize; rw [p.here, h3]
 obtain ⟨k1, k2⟩ := h.upd h1 p hsz hg (.loop st') rfl (fun kt es v hh => by cases hh) fun _ => ⟨c, r, h1, h2, p.here⟩
 exact ⟨c, r, h1, h2, h3, k1, k2⟩
end
def I2 (E : Env) (R : Rec) : Code -> St -> Out
 | .skip, s => some [(.normal, s)]
 | .exit id, s => some [(.exit id, s)]
 | .ret, s => some [(.ret, s)]
 | .region _ ops false, s => match Kf ops.toList with
  | true => match Gt E ops.toList R ops.toList s with
   | some s' => some [(.normal, s')]
   | none => none
  | false => none
 | .seq a b, s => match I2 E R a s with
  | some l => Qg (I2 E R b) l
  | none => none
 | .cond c a b, s => match opd E s.tm c with
  | .bool true => I2 E R a s
  | .bool false => I2 E R b s
  | _ => none
 | .block id a, s => match I2 E R a s with | some l => some (Hk id l) | none => none
 | _, _ => none
section
variable {E : Env} {Rr : Rec}
theorem Vg (hR : Bc E Rr) {l₀ n : Nat} : ∀ (c : Code) (C : Ctx) (w : World) (s : St) (a : Act) (l : List (XE × St)), SSt E C w s a -> I2 E Rr c s = some l -> c.wpIn (Vf (some l₀)) n E.P (K4 E C (nx s.sto) w l) a w := by
 intro c
 induction c with
 | skip => intro C w s a l st h; simp only [I2, Option.some.injEq] at h; subst h; exact wpIn_skip ⟨_, List.mem_singleton_self _, C, rfl, st, Ext.refl _ _ _⟩
 | exit id => intro C w s a l st h; simp only [I2, Option.some.injEq] at h; subst h; exact wpIn_exit ⟨_, List.mem_singleton_self _, C, rfl, st, Ext.refl _ _ _⟩
 | ret => intro C w s a l st h; simp only [I2, Option.some.injEq] at h; subst h; exact wpIn_ret ⟨_, List.mem_singleton_self _, C, rfl, st, Ext.refl _ _ _⟩
 | region id ops draw =>
  intro C w s a l st h;cases draw with
  | true => simp [I2] at h
  | false =>
   simp only [I2] at h
   split at h
   ·rename_i hn
    split at h
    ·rename_i s' hs'
     cases h;refine wpIn_region ?_;rw [List.range_eq_range', ← Array.length_toList]
     exact Oa hR ops.toList 0 C w s a hn (fun j => by simp) st hs' fun C₂ w₂ a₂ st₂ e₂ => ⟨_, List.mem_singleton_self _, C₂, rfl, st₂, e₂⟩
    ·cases h
   ·cases h
 | seq x y ihx ihy =>
  intro C w s a l st h;simp only [I2] at h
  split at h
  ·rename_i m hm
   refine wpIn_seq (wpIn_mono (ihx C w s a m st hm) fun e a₁ w₁ hq => ?_)
   obtain ⟨z, hz, C₁, hze, hst, hext⟩ := hq;obtain ⟨b1, b2⟩ := Fy h z hz;obtain ⟨x', s₁⟩ := z;subst hze;cases x' with
   | normal =>
    obtain ⟨m₁, h1, h2⟩ := b1 rfl;exact wpIn_mono (ihy C₁ w₁ s₁ a₁ m₁ hst h1) fun e a₂ w₂ hq₂ => hq₂.mono h2 hext
   | exit id => exact ⟨_, b2 (by simp), C₁, rfl, hst, hext⟩
   | ret => exact ⟨_, b2 (by simp), C₁, rfl, hst, hext⟩
  ·cases h
 | cond c x y ihx ihy =>
  intro C w s a l st h;simp only [I2] at h;have hc := B4 st.glob st.tmps c
  split at h
  ·rename_i heq; rw [heq] at hc; unfold R at hc
   exact wpIn_cond_true hc (ihx C w s a l st h)
  ·rename_i heq; rw [heq] at hc; unfold R at hc
   exact wpIn_cond_false hc (ihy C w s a l st h)
  ·cases h
 | block id x ih =>
  intro C w s a l st h;simp only [I2] at h
  split at h
  ·rename_i m hm
   cases h;refine wpIn_block (wpIn_mono (ih C w s a m st hm) fun e a₁ w₁ hq => ?_)
   obtain ⟨z, hz, C₁, hze, hst, hext⟩ := hq;obtain ⟨x', s₁⟩ := z;subst hze
   rcases K5 (id := id) hz with ⟨h1, h2⟩ | ⟨h1, h2⟩
   ·simp only at h1; subst h1;simp only [Gh, Exit.inBlock, if_true];exact ⟨_, h2, C₁, rfl, hst, hext⟩
   ·cases x' with
    | normal => exact ⟨_, h2, C₁, rfl, hst, hext⟩
    | ret => exact ⟨_, h2, C₁, rfl, hst, hext⟩
    | exit j =>
     have hj : j ≠ id := fun hh => h1 (by rw [hh])
     simp only [Gh, Exit.inBlock, if_neg hj];exact ⟨_, h2, C₁, rfl, hst, hext⟩
  ·cases h
 | _ => intro C w s a l st h; simp [I2] at h
end
def Agx (nt : Nat) : List Nat -> List AV -> Tr AV -> Option (Tr AV)
 | [], [], tm => some tm
 | [p], [x], tm => Jl (some p) tm nt x
 | _, _, _ => none
def Wh (σ : Sto) (a : Nat) : Bool := match σ.get a with | some (.loop .ready) => true | _ => false
def Agy (σ : Sto) (a : Nat) : Bool := match σ.get a with | some (.loop .busy) => true | _ => false
def Agz (E : Env) (R : Rec) (L : RF) (args : List AV) (σ : Sto) : Option (Bool × Sto) :=
 match Wh σ L.aY with
 | true => match Agx L.nt L.ps.toList args L.tm with
  | some tm' => match I2 E R L.assign ⟨tm', L.nt, [], σ⟩ with
   | some [(.normal, s₁)] => match Wh s₁.sto L.aY with
    | true => match I2 E R L.body ⟨s₁.tm, s₁.nt, s₁.df, s₁.sto.set L.aY (.loop .busy)⟩ with
     | some [(x, s₂)] => match Agy s₂.sto L.aY with
      | true => match x with
       | .normal => some (true, s₂.sto.set L.aY (.loop .ready))
       | .ret => some (false, s₂.sto.set L.aY (.loop (.done .ret)))
       | .exit id => some (false, s₂.sto.set L.aY (.loop (.done (.exit id))))
      | false => none
     | _ => none
    | false => none
   | _ => none
  | none => none
 | false => none
section
variable {E : Env} {Rr : Rec}
theorem Vh {σ : Sto} {a : Nat} (h : Wh σ a = true) : σ.get a = some (.loop .ready) := by
 unfold Wh at h
 split at h
 ·assumption
 ·cases h
theorem Ag0 {σ : Sto} {a : Nat} (h : Agy σ a = true) : σ.get a = some (.loop .busy) := by
 unfold Agy at h
 split at h
 ·assumption
 ·cases h
theorem Ag1 {C : Ctx} {N : Nat} {w : World} {x : AV} {vs : Array Value} (h : RL C N w [x] vs.toList) : ∃ v, vs = #[v] /\ R C N w x v := by
 obtain ⟨l⟩ := vs
 match l, h with
 | [], h => unfold RL at h; exact h.elim
 | [v], h => unfold RL at h; exact ⟨v, rfl, h.1⟩
 | _ :: _ :: _, h => unfold RL at h; have := h.2; unfold RL at this; exact this.elim
theorem Acv {C : Ctx} {N : Nat} {w : World} {nt : Nat} {ps : Array Tmp} {args : List AV} {vs : Array Value} {tm tm' : Tr AV} {tmps : Array Value} (h : Agx nt ps.toList args tm = some tm') (ht : TR C N w tm tmps) (hsz : tmps.size = nt) (ha : RL C N w args vs.toList) :
  vs.size = ps.size /\ TR C N w tm' ((ps.zip vs).foldl (fun tmps (t, a) => tmps.setIfInBounds t a) tmps) /\ ((ps.zip vs).foldl (fun tmps (t, a) => tmps.setIfInBounds t a) tmps).size = nt := by
 unfold Agx at h
 split at h
 ·rename_i hps
  cases h
  have hp : ps = #[] := by rw [← Array.toArray_toList (xs := ps), hps]
  have hv : vs = #[] := by
   have := ha.length
   exact Array.eq_empty_of_size_eq_zero (by simpa using this.symm)
  subst hp hv
  exact ⟨rfl, by simpa using ht, by simpa using hsz⟩
 ·rename_i p x hps
  have hp : ps = #[p] := by rw [← Array.toArray_toList (xs := ps), hps]
  subst hp;obtain ⟨v, rfl, hx⟩ := Ag1 ha;obtain ⟨k1, k2, _⟩ := TR.put (a := { tmps := tmps, defers := [] }) ht hsz h hx
  have hact : (#[p].zip #[v]).foldl (fun tmps (t, a) => tmps.setIfInBounds t a) tmps = (({ tmps := tmps, defers := [] } : Act).put (some p) v).tmps := by
   simp [Act.put]
  rw [hact];exact ⟨rfl, k1, k2⟩
 ·cases h
theorem Acw (hR : Bc E Rr) (L : RF) : Ym E L (Agz E Rr L) := by
 intro C w σ args vs b σ' hi hs hg hargs h;obtain ⟨hY1, hY2, r, hlr, hTR, hsz, hp, has, hbo⟩ := hi;unfold Agz at h
 split at h
 ·rename_i hrd
  obtain ⟨c, r', h1, h2, h3⟩ := hs.obj _ _ (Vh hrd);rw [hlr] at h2;cases h2;have hc := hY2 c 0 h1;subst hc
  split at h
  ·rename_i tm' htm
   obtain ⟨q1, q2, q3⟩ := Acv (ps := L.ps) htm hTR hsz hargs
   split at h
   ·rename_i s₁ hs₁
    split at h
    ·rename_i hrd₁
     split at h
     ·rename_i x s₂ hs₂
      split at h
      ·rename_i hbu
       refine ⟨r, h3, by rw [hp]; exact q1, fun n => ?_⟩
       refine roundIn_of_wpIn (F := Fence.wide) trivial ?_;rw [has, hbo, hp]
       have st0 : SSt E C w ⟨tm', L.nt, [], σ⟩ { tmps := (L.ps.zip vs).foldl (fun tmps (t, a) => tmps.setIfInBounds t a) r.tmps, defers := [] } := ⟨hs, hg, q2, q3, by unfold DR; trivial⟩
       refine wpIn_mono (Vg (l₀ := (C.stm L.aY).toNat) (n := n) hR L.assign C w _ _ _ st0 hs₁) fun e a₁ w₁ hq => ?_
       obtain ⟨y, hy, C₁, hye, st₁, e₁⟩ := hq;rw [List.mem_singleton] at hy;subst hy;subst hye;obtain ⟨c₁, r₁, j1, j2, j3, j4, j5⟩ := st₁.sim.turnLoop (Vh hrd₁) .busy
       have hr₁ : r₁ = r := by
        have := e₁.lr _ hY1;rw [j2, hlr] at this;exact Option.some.inj this
       subst hr₁;have hc₁ : c₁ = (C.stm L.aY).toNat := hY2 c₁ 0 (e₁.loc _ hY1 _ j1);subst hc₁;refine ⟨_, run_beginRound j3 rfl, ?_⟩;have st₂ : SSt E C₁ (w₁.putObj (C.stm L.aY).toNat (.loop (Dp r₁ .busy))) ⟨s₁.tm, s₁.nt, s₁.df, s₁.sto.set L.aY (.loop .busy)⟩ a₁ :=
        ⟨j4, by show Fv _ (nx (s₁.sto.set _ _)) _ _; rw [An]; exact st₁.glob.ext j5, by show TR _ (nx (s₁.sto.set _ _)) _ _ _; rw [An]; exact st₁.tmps.ext j5, st₁.size, by show DR _ (nx (s₁.sto.set _ _)) _ _ _; rw [An]; exact st₁.dfs.ext j5⟩
       refine wpIn_mono (Vg (l₀ := (C.stm L.aY).toNat) (n := n) hR L.body C₁ _ _ _ _ st₂ hs₂) fun e a₃ w₃ hq => ?_
       obtain ⟨y, hy, C₂, hye, st₃, e₂⟩ := hq;rw [List.mem_singleton] at hy;subst hy;subst hye;have hY3 : L.aY < nx s₁.sto := Nat.lt_of_lt_of_le hY1 e₁.next
       have e₂' : Ext C₁ (nx s₁.sto) (w₁.putObj (C.stm L.aY).toNat (.loop (Dp r₁ .busy))) C₂ (nx s₂.sto) w₃ := by
        have := e₂
        rwa [show nx (⟨s₁.tm, s₁.nt, s₁.df, s₁.sto.set L.aY (.loop .busy)⟩ : St).sto = nx s₁.sto from An _ _ _] at this
       have finish : ∀ (st' : LS) (jump : Option Code), Dp r₁ st' = { Dp r₁ .busy with state := if jump.isNone then .ready else .done, pending := jump } ->
         (b, σ') = (jump.isNone, s₂.sto.set L.aY (.loop st')) ->
         ∃ v w', (Instr.endRound (C.stm L.aY).toNat jump).run E.P w₃ = .ok v w' /\ (Ending.returned v = .returned (.bool b) /\ ∃ C', Sim E.P C' w' σ' /\ Ext C (nx σ) w C' (nx σ') w') := by
        intro st' jump hst heq;cases heq;obtain ⟨c₂, r₂, m1, m2, m3, m4, m5⟩ := st₃.sim.turnLoop (Ag0 hbu) st'
        have hr₂ : r₂ = r₁ := by
         have := e₂'.lr _ hY3;rw [m2, j2] at this;exact Option.some.inj this
        subst hr₂;have hc₂ : c₂ = (C.stm L.aY).toNat := hY2 c₂ 0 (e₁.loc _ hY1 _ (e₂'.loc _ hY3 _ m1));subst hc₂;have hend := run_endRound (P := E.P) jump m3;rw [← hst] at hend;refine ⟨_, _, hend, rfl, C₂, m4, ?_⟩;rw [An];exact ((e₁.trans j5).trans e₂').trans m5
       cases x with
       | normal => cases h; exact finish .ready none rfl rfl
       | ret => cases h; exact finish (.done .ret) (some .ret) rfl rfl
       | exit id => cases h; exact finish (.done (.exit id)) (some (.exit id)) rfl rfl
      ·cases h
     ·cases h
    ·cases h
   ·cases h
  ·cases h
 ·cases h
end
def Amg (E : Env) (lf : Nat) (R : Rec) (fn : Func) (Hy : List AV -> Sto -> Option (Bool × Sto)) (aY : Nat) (args : List AV) (σ : Sto) : Res :=
 match fn.body with
 | some c => match Nat.ble args.length fn.ntmps with
  | true => match Hq E lf R ⟨fun _ => some (fun ops => Amf E R Hy aY ops.toList), fun _ _ _ _ _ => none⟩ c ⟨F8 args 0 .e, fn.ntmps, [], σ⟩ with
   | some l => Aly E fn l
   | none => none
  | false => none
 | none => none
def Acx (E : Env) (lf : Nat) (R : Rec) (b : Nat) (f : Operand) (ps : Array Tmp) (assign body : Code) (s : St) : Out :=
 match opd E s.tm f with
 | .fn (.func k) [] cap => match E.P.funcs[k]? with
  | some fn => Ch (nx s.sto) fun aD => Ch (aD + 1) fun aY =>
   match Amg E lf R fn (Agz E R ⟨aY, s.tm, s.nt, ps, assign, body⟩) aY (.yl aY :: cap) (s.sto.bump.new (.loop .ready)) with
   | some (_, σ) => match σ.get aY with
    | some (.loop st) => match st with
     | .ready => some [(.normal, ⟨s.tm, s.nt, (D6, [.yl aD, .yl b]) :: s.df, σ.kill aY⟩)]
     | .done x => match x with
      | .normal => none
      | .ret => some [(.ret, ⟨s.tm, s.nt, (D6, [.yl aD, .yl b]) :: s.df, σ.kill aY⟩)]
      | .exit id => some [(.exit id, ⟨s.tm, s.nt, (D6, [.yl aD, .yl b]) :: s.df, σ.kill aY⟩)]
     | .busy => none
    | _ => none
   | none => none
  | none => none
 | _ => none
def finM (E : Env) (b : Nat) (rs : List ResultVar) (x : XE × St) : Res :=
 match x with
 | (.exit _, _) => none
 | (_, s) => match Sq E.P s.tm s.sto rs with
  | some vs => match s.df with
   | [] => some (Np vs, s.sto)
   | [(k, [.yl _, .yl b'])] => cond (Nat.beq k D6 && Nat.beq b' b) (some (Np vs, s.sto)) none
   | _ => none
  | none => none
def Ais (E : Env) (b : Nat) (fn : Func) (l : List (XE × St)) : Res :=
 match Qz (l.map (finM E b fn.results.toList)) with
 | some rs => W3 rs
 | none => none
def Amh (E : Env) (lf : Nat) (R : Rec) (fn : Func) (args : List AV) (σ : Sto) : Res :=
 match fn.body with
 | some c => match Nat.ble args.length fn.ntmps with
  | true => Ch (nx σ) fun b => match Hq E lf R ⟨fun _ => none, Acx E lf R b⟩ c ⟨F8 args 0 .e, fn.ntmps, [], σ.bump⟩ with
   | some l => Ais E b fn l
   | none => none
  | false => none
 | none => none
def Ef (b B : Nat) (C : Ctx) (N : Nat) (w : World) : Prop := b < N /\ (C.stm b).toNat = B /\ B <= w.heap.size
theorem Ef.ext {b B : Nat} {C : Ctx} {N : Nat} {w : World} {C' : Ctx} {N' : Nat} {w' : World} (h : Ef b B C N w) (e : Ext C N w C' N' w') : Ef b B C' N' w' :=
 ⟨Nat.lt_of_lt_of_le h.1 e.next, by rw [e.stm b h.1]; exact h.2.1, Nat.le_trans h.2.2 e.size⟩
section
variable {E : Env} {Rr : Rec}
theorem Ae1 (hR : Bc E Rr) (hD : Ij E Rr) (hmk : E.dsum D6 = none) (hdsum : ∀ f d, E.dsum f = some d -> N1 E f d) {lf k : Nat} {fn : Func} (hfn : E.P.funcs[k]? = some fn)
  {Hy : List AV -> Sto -> Option (Bool × Sto)} {L : RF} (hY : Ym E L Hy) {C : Ctx} {w : World} {σ σ' : Sto} {args : List AV} {vs : Array Value} {v : AV}
  (hi : Ee L C (nx σ) w) (hs : Sim E.P C w σ) (hg : Fv C (nx σ) w E) (hargs : RL C (nx σ) w args vs.toList) (h : Amg E lf Rr fn Hy L.aY args σ = some (v, σ')) :
  fn.body.isNone = false /\ Calls E.P k vs w (Aac E.P C (nx σ) w v σ') := by
 unfold Amg at h
 split at h
 ·rename_i c hc
  refine ⟨by rw [hc]; rfl, ?_⟩
  split at h
  ·rename_i hle
   split at h
   ·rename_i l hl
    refine X0 hmk hdsum hfn hc h ?_
    exact Vb (Inv := Ee L) hR hD (fun h e => h.ext e) lf ⟨fun id g hg' ops => by
      simp only [Option.some.injEq] at hg'; subst hg'
      exact Ae0 hR hY id ops, fun _ _ _ _ _ _ _ _ _ _ _ h => by cases h⟩ c C w _ _ l hi (L3 hs hg hargs (Nat.le_of_ble_eq_true hle)) hl
   ·cases h
  ·cases h
 ·cases h
theorem Acy (hR : Bc E Rr) (hD : Ij E Rr) (hnum : ∀ (f : Nat) (fn : Func), E.P.funcs[f]? = some fn -> (fn.name == "runtime.NumGoroutine") = false) (hmk : E.dsum D6 = none) (hdsum : ∀ f d, E.dsum f = some d -> N1 E f d)
  (lf b B : Nat) (f : Operand) (ps : Array Tmp) (assign body : Code) : Jw E (Ef b B) (Acx E lf Rr b f ps assign body) (.rangeFunc f ps assign body) := by
 intro C w s a l hi st h;unfold Acx at h
 split at h
 ·rename_i k cap hf
  split at h
  ·rename_i kfn hkfn
   simp only [Au] at h
   split at h
   ·rename_i v σ' hcall
    split at h
    ·rename_i st' hgl
     have hV := B4 st.glob st.tmps f;rw [hf] at hV;unfold R at hV;obtain ⟨p0, lb, hV, hp0, hlb⟩ := hV
     have hp0' : p0 = #[] := by
      have := hp0.length
      simp at this
      exact Array.eq_empty_of_size_eq_zero this.symm
     subst hp0';refine (wpIn_wide (n := 1)).1 (wpIn_rangeFunc fun fn _ => ?_)
     obtain ⟨rc, hrc⟩ : ∃ rc : Loop, rc = { state := .ready, pending := none, fn, tmps := a.tmps, params := ps, assign, body, defers := w.heap.size } := ⟨_, rfl⟩
     have hrc0 : Dp rc .ready = rc := by rw [hrc]; rfl
     obtain ⟨W0, hW0⟩ : ∃ W0, w.alloc (.deferred (some [])) = W0 := ⟨_, rfl⟩;obtain ⟨W1, hW1⟩ : ∃ W1, W0.alloc (.loop rc) = W1 := ⟨_, rfl⟩
     have hp1 : Pu w W0 (.deferred (some [])) := by rw [← hW0]; exact Pu.of_push rfl ⟨rfl, rfl⟩
     have hp2 : Pu W0 W1 (.loop rc) := by rw [← hW1]; exact Pu.of_push rfl ⟨rfl, rfl⟩
     have hsz0 := hp1.size;have hsz1 := hp2.size;obtain ⟨s1, e1⟩ := st.sim.push hp1;obtain ⟨s2, e2⟩ := s1.bump (w.heap.size : Int);obtain ⟨s3, e3⟩ := s2.newLoop hrc0 hp2;rw [← Bo] at e2
     have hnx : nx (s.sto.bump.new (.loop .ready)) = nx s.sto + 1 + 1 := by rw [Ap, Bo]
     have e5 := (e1.trans e2).trans e3;rw [← Ap s.sto.bump (.loop .ready)] at e5
     generalize hC4 : (((C.addStm (nx s.sto) (w.heap.size : Int)).setLoop (nx s.sto.bump) (W0.heap.size : Int) rc).add (nx s.sto.bump) W0.heap.size 0) = C4 at s3 e5
     have hstmD : C4.stm (nx s.sto) = (w.heap.size : Int) := by rw [← hC4]; simp [Ctx.add, Ctx.setLoop, Ctx.addStm, Bo]
     have hstmY : C4.stm (nx s.sto + 1) = ((w.heap.size + 1 : Nat) : Int) := by rw [← hC4]; simp [Ctx.add, Ctx.setLoop, Bo, hsz0]
     have hlrY : C4.lr (nx s.sto + 1) = some rc := by rw [← hC4]; simp [Ctx.add, Ctx.setLoop, Bo]
     have hlocY : C4.loc (nx s.sto + 1) = some (w.heap.size + 1, 0) := by rw [← hC4]; simp [Ctx.add, Bo, hsz0]
     have hnD : ¬ C4.own w.heap.size := fun hh => by
      rcases hh with hh | ⟨x, o, hh⟩
      ·have hh' : C.res w.heap.size := by rw [← e5.res.1]; exact hh
       have := st.sim.rlt _ hh'; omega
      ·by_cases hx : x = nx s.sto + 1
       ·subst hx; rw [hlocY] at hh; have := congrArg (fun o => o.map Prod.fst) hh; simp at this
       ·have : x < nx s.sto := by
         obtain ⟨O, hO, _⟩ := s3.dom x _ hh;have hb := s3.bound x O hO;rw [hnx] at hb
         by_cases hx2 : x = nx s.sto
         ·subst hx2
          rw [Sto.get_new, Bo, if_neg (by omega), Dv] at hO
          have := st.sim.bound _ _ hO; omega
         ·omega
        have := st.sim.lt x _ _ (e5.loc x this _ hh); omega
     have hheapD : W1.heap[w.heap.size]? = some (.deferred (some [])) := by rw [hp2.other _ (by omega)]; exact hp1.here
     have hY := Acw (E := E) hR (⟨nx s.sto + 1, s.tm, s.nt, ps, assign, body⟩ : RF)
     have hli : Ee ⟨nx s.sto + 1, s.tm, s.nt, ps, assign, body⟩ C4 (nx (s.sto.bump.new (.loop .ready))) W1 := by
      refine ⟨by rw [hnx]; show nx s.sto + 1 < _; omega, fun c o hc => ?_, rc, hlrY, ?_, ?_, ?_, ?_, ?_⟩
      ·have hc : C4.loc (nx s.sto + 1) = some (c, o) := hc;rw [hlocY] at hc; cases hc; show _ = (C4.stm (nx s.sto + 1)).toNat; rw [hstmY]; rfl
      ·have : TR C (nx s.sto) w s.tm rc.tmps := by rw [hrc]; exact st.tmps
       exact this.ext e5
      ·rw [hrc]; exact st.size
      ·rw [hrc]
      ·rw [hrc]
      ·rw [hrc]
     have hargs : RL C4 (nx (s.sto.bump.new (.loop .ready))) W1 (.yl (nx s.sto + 1) :: cap) (#[Value.func (.yield (w.heap.size + 1)) #[] #[]] ++ lb).toList := by
      simp only [Array.toList_append, List.cons_append, List.nil_append];unfold RL;refine ⟨?_, RL.ext e5 _ _ hlb⟩;unfold R;rw [hstmY, hnx]
      exact ⟨rfl, by omega⟩
     obtain ⟨hbody, hcalls⟩ := Ae1 hR hD hmk hdsum hkfn hY hli s3 (st.glob.ext e5) hargs hcall
     have henter : ∀ args w, (callFunc k args).run E.P w = .ok (.enter k args) w := fun args w => by
      have g2' : kfn.name ≠ "runtime.NumGoroutine" := by simpa using hnum k kfn hkfn
      have g3' : kfn.body ≠ none := fun hh => by rw [hh] at hbody; cases hbody
      simp [callFunc, hkfn, g2', g3']
     refine ⟨w.heap.size + 1, [{ target := .collected w.heap.size, args := #[] }], W1, { target := .fn (.func k) lb, args := #[.func (.yield (w.heap.size + 1)) #[] #[]] }, W1, k,
      #[.func (.yield (w.heap.size + 1)) #[] #[]] ++ lb, W1, ?_, ?_, fun _ _ => trivial, ?_, fun hh => (by cases hh), ?_⟩
     ·rw [← hW1, ← hW0, hrc]; exact run_enterLoop_outer _ _ _ _ _
     ·simp only [resolve, hV]
      simp [go_sem]
     ·simp [invoke, go_sem, henter]
     ·refine (callsIn_wide).2 (hcalls.mono fun e w₃ he => ?_)
      cases e with
      | returned x =>
       obtain ⟨C₃, k1, k2, k3⟩ := he
       have hstmD3 := (k2.stm (nx s.sto) (by rw [hnx]; omega)).trans hstmD
       have hlr3 := (k2.lr (nx s.sto + 1) (by rw [hnx]; omega)).trans hlrY
       obtain ⟨hn4, hk4⟩ := k2.keep w.heap.size (by omega) hnD
       have hd3 := hk4.trans hheapD;obtain ⟨c, r, g1, g2, g3⟩ := k1.obj _ _ hgl;rw [hlr3] at g2;cases g2
       have hcl := k2.loc _ (by rw [hnx]; omega) _ g1
       rw [hlocY] at hcl;cases hcl;obtain ⟨m1, m2⟩ := k1.kill (nx s.sto + 1)
       have hnL : ¬ (C₃.del (nx s.sto + 1)).own (w.heap.size + 1) := fun hh => by
        rcases hh with hh | ⟨x, o, hh⟩
        ·exact k1.rdis _ _ _ g1 hh
        ·by_cases hx : x = nx s.sto + 1
         ·simp [Ctx.del, hx] at hh
         ·simp [Ctx.del, hx] at hh
          exact hx (k1.inj _ _ _ _ _ hh g1)
       have hnD' : ¬ (C₃.del (nx s.sto + 1)).own w.heap.size := fun hh => hn4 (by
        rcases hh with hh | ⟨x, o, hh⟩
        ·exact .inl hh
        ·by_cases hx : x = nx s.sto + 1
         ·simp [Ctx.del, hx] at hh
         ·simp [Ctx.del, hx] at hh; exact .inr ⟨x, o, hh⟩)
       have t : Fp w₃ (w₃.putObj (w.heap.size + 1) (.loop { Dp rc st' with state := .exhausted })) (w.heap.size + 1) := Fp.put g3 rfl rfl
       have e6 := ((e5.trans k2).trans m2).turnNew t hnL (by omega)
       rw [← Ck σ' (nx s.sto + 1)] at e6
       have hst6 : SSt E (C₃.del (nx s.sto + 1)) (w₃.putObj (w.heap.size + 1) (.loop { Dp rc st' with state := .exhausted })) ⟨s.tm, s.nt, (D6, [.yl (nx s.sto), .yl b]) :: s.df, σ'.kill (nx s.sto + 1)⟩ { a with defers := [{ target := .collected w.heap.size, args := #[] }] ++ a.defers } := by
        refine ⟨m1.turn t hnL, st.glob.ext e6, st.tmps.ext e6, st.size, ?_⟩
        show DR _ _ _ _ ({ target := Target.collected w.heap.size, args := #[] } :: a.defers)
        unfold DR;refine ⟨.inr ⟨rfl, nx s.sto, b, rfl, ⟨?_, ?_, ?_⟩, ?_, ?_, ?_⟩, st.dfs.ext e6⟩
        ·show nx s.sto < nx (σ'.kill _); rw [Ck]; have := k2.next; rw [hnx] at this; omega
        ·show b < nx (σ'.kill _); rw [Ck]; have := k2.next; rw [hnx] at this; have := hi.1; omega
        ·show (C₃.stm b).toNat <= (C₃.stm (nx s.sto)).toNat
         have hb6 := e6.stm b hi.1;have hb6 : C₃.stm b = C.stm b := hb6;rw [hstmD3, hb6, hi.2.1]; exact hi.2.2
        ·show _ = ({ target := .collected (C₃.stm (nx s.sto)).toNat, args := #[] } : Deferred); rw [hstmD3]; rfl
        ·show ¬ (C₃.del _).own (C₃.stm (nx s.sto)).toNat; rw [hstmD3]; exact hnD'
        ·show (w₃.putObj _ _).heap[(C₃.stm (nx s.sto)).toNat]? = _
         rw [hstmD3]
         exact (t.other w.heap.size (by omega)).trans hd3
       cases st' with
       | ready =>
        cases h
        have hend := run_endLoop (P := E.P) g3 (by simp [Dp])
        exact ⟨none, _, hend, _, List.mem_singleton_self _, _, rfl, hst6, e6⟩
       | busy => cases h
       | done x =>
        have hend := run_endLoop (P := E.P) g3 (by simp [Dp])
        cases x with
        | normal => cases h
        | ret => cases h; exact ⟨some .ret, _, hend, wpIn_ret ⟨_, List.mem_singleton_self _, _, rfl, hst6, e6⟩⟩
        | exit id => cases h; exact ⟨some (.exit id), _, hend, wpIn_exit ⟨_, List.mem_singleton_self _, _, rfl, hst6, e6⟩⟩
      | panicked _ => exact he.elim
      | outgrown => exact he.elim
    ·cases h
   ·cases h
  ·cases h
 ·cases h
theorem Ae2 {b B : Nat} {fn : Func} {C₀ C₁ : Ctx} {N₀ : Nat} {w₀ w : World} {s : St} {a : Act} {x : XE} {v : AV} {σ' : Sto} {l : List (XE × St)} {n : Nat} (hB : B = w₀.heap.size) (hi : Ef b B C₁ (nx s.sto) w) (st : SSt E C₁ w s a) (hext : Ext C₀ N₀ w₀ C₁ (nx s.sto) w) (hx : x = .normal ∨ x = .ret)
  (hl : (x, s) ∈ l) (h : Ais E b fn l = some (v, σ')) : LeavesInM Fence.wide n E.P fn a.tmps (Aac E.P C₀ N₀ w₀ v σ') a.defers .returning w := by
 unfold Ais at h
 split at h
 ·rename_i rs hrs
  obtain ⟨z, hz, hfin⟩ := Hd hrs _ (List.mem_map_of_mem hl);have hfin' : (match Sq E.P s.tm s.sto fn.results.toList with
   | some vs => match s.df with
    | [] => some (Np vs, s.sto)
    | [(k, [.yl _, .yl b'])] => cond (Nat.beq k D6 && Nat.beq b' b) (some (Np vs, s.sto)) none
    | _ => none
   | none => none) = some z := by
   rcases hx with rfl | rfl <;> exact hfin
  split at hfin'
  ·rename_i vs hvs
   split at hfin'
   ·rename_i hdf
    cases hfin';have hd := st.dfs;rw [hdf] at hd
    have hds : a.defers = [] := by
     cases hds : a.defers with
     | nil => rfl
     | cons d ds => rw [hds] at hd; unfold DR at hd; exact hd.elim
    rw [hds]
    show LeavesIn _ _ _ _ _ _ [] .returning _
    obtain ⟨y, k1, k2⟩ := Dd st.sim st.tmps hvs;obtain ⟨C₃, q1, q2, q3⟩ := J8 h _ hz st.sim k2;exact ⟨y, k1, C₃, q1, hext.trans q2, q3⟩
   ·rename_i k aD b' hdf
    cases hb : (Nat.beq k D6 && Nat.beq b' b)
    ·simp [hb] at hfin'
    ·simp only [hb, cond_true, Option.some.injEq] at hfin';subst hfin';simp only [Bool.and_eq_true] at hb;have hbb := Nat.eq_of_beq_eq_true hb.2;have hkk := Nat.eq_of_beq_eq_true hb.1;subst hbb;have hd := st.dfs;rw [hdf] at hd
     obtain ⟨d, hds⟩ : ∃ d, a.defers = [d] /\ DR C₁ (nx s.sto) w [(k, [.yl aD, .yl b'])] [d] := by
      cases hds : a.defers with
      | nil => rw [hds] at hd; unfold DR at hd; exact hd.elim
      | cons d ds =>
       rw [hds] at hd;cases ds with
       | nil => exact ⟨d, rfl, hd⟩
       | cons d' ds' => unfold DR at hd; have := hd.2; unfold DR at this; exact this.elim
     obtain ⟨hds, hd⟩ := hds;unfold DR at hd;obtain ⟨hd, _⟩ := hd
     rcases hd with ⟨h0, _⟩ | ⟨h0, a1, b1, h1, ⟨h2, h3, h4⟩, h5, h6, h7⟩
     ·exact absurd hkk h0
     ·simp only [List.cons.injEq, AV.yl.injEq, and_true] at h1;obtain ⟨rfl, rfl⟩ := h1;rw [hds, h5]
      refine ⟨by simp, .inl ⟨_, _, rfl, run_takeDeferred h7, ?_⟩⟩
      show LeavesIn _ _ _ _ _ _ [] .returning _
      have t : Fp w (w.putObj (C₁.stm aD).toNat (.deferred none)) (C₁.stm aD).toNat := Fp.put h7 rfl rfl
      have hge : w₀.heap.size <= (C₁.stm aD).toNat := by rw [← hB, ← hi.2.1]; exact h4
      have st2 : Sim E.P C₁ _ s.sto := st.sim.turn t h6;have tm2 : TR C₁ (nx s.sto) _ s.tm a.tmps := fun i v hv => R.turn t _ _ (st.tmps i v hv)
      obtain ⟨y, k1, k2⟩ := Dd st2 tm2 hvs;obtain ⟨C₃, q1, q2, q3⟩ := J8 h _ hz st2 k2;exact ⟨y, k1, C₃, q1, (hext.turnNew t h6 hge).trans q2, q3⟩
   ·cases hfin'
  ·cases hfin'
 ·cases h
theorem Ae3 (hR : Bc E Rr) (hD : Ij E Rr) (hnum : ∀ (f : Nat) (fn : Func), E.P.funcs[f]? = some fn -> (fn.name == "runtime.NumGoroutine") = false) (hmk : E.dsum D6 = none) (hdsum : ∀ f d, E.dsum f = some d -> N1 E f d)
  (lf f : Nat) (fn : Func) (hfn : E.P.funcs[f]? = some fn) : Em E f (Amh E lf Rr fn) := by
 intro C w σ args vs v σ' hs hg hargs h;unfold Amh at h
 split at h
 ·rename_i c hc
  split at h
  ·rename_i hle
   rw [Au] at h
   split at h
   ·rename_i l hl
    refine ⟨⟨fn, hfn, hnum f fn hfn, by rw [hc]; rfl⟩, ?_⟩
    obtain ⟨s1, e1⟩ := hs.bump (w.heap.size : Int);rw [← Bo] at e1;refine (callsIn_wide (n := 1)).1 (callsIn_of_wp_marks hfn hc trivial ((wpIn_wide (n := 1)).2 ?_))
    have hi : Ef (nx σ) w.heap.size (C.addStm (nx σ) (w.heap.size : Int)) (nx σ.bump) w := ⟨by rw [Bo]; omega, by simp [Ctx.addStm], nl⟩
    have hcode := Vb (Inv := Ef (nx σ) w.heap.size) (H := ⟨fun _ => none, Acx E lf Rr (nx σ)⟩) hR hD (fun h e => h.ext e) lf
     ⟨fun id g hg' ops => (by cases hg'), fun f ps a b => Acy hR hD hnum hmk hdsum lf _ _ f ps a b⟩ c (C.addStm (nx σ) (w.heap.size : Int)) w _ _ l hi
     (L3 s1 (hg.ext e1) (RL.ext e1 _ _ hargs) (Nat.le_of_ble_eq_true hle)) hl
    refine wp_mono hcode fun e a' w' hq => ?_
    obtain ⟨y, hy, C₁, hye, hst, hext⟩ := hq;obtain ⟨x, s⟩ := y;subst hye;cases x with
    | normal => exact Ae2 rfl (hi.ext hext) hst (e1.trans hext) (.inl rfl) hy h
    | ret => exact Ae2 rfl (hi.ext hext) hst (e1.trans hext) (.inr rfl) hy h
    | exit id =>
     unfold Ais at h
     split at h
     ·rename_i rs hrs
      obtain ⟨z, hz, hfin⟩ := Hd hrs _ (List.mem_map_of_mem hy)
      simp [finM] at hfin
     ·cases h
   ·cases h
  ·cases h
 ·cases h
end
section
variable {E : Env} {nt B : Nat} {Q Q' : Dh} {ρ ρ' : Al} {σ σ' : Sto}
def TRd (E : Env) (nt B : Nat) (c : Code) (Q : Dh) (ρ : Al) (σ : Sto) : Prop :=
 ∀ (l₀ n : Nat) (C : Ctx) (w : World) (tm : Tr AV) (a : Act), Has tm ρ -> SSt E C w ⟨tm, nt, [], σ⟩ a -> B <= nx σ -> c.wpIn (Vf (some l₀)) n E.P (N6 E nt [] B Q C w) a w
theorem Ao4 {x y : Code} (h : TRd E nt B x (Ng (TRd E nt B y Q) Q) ρ σ) : TRd E nt B (.seq x y) Q ρ σ := by
 intro l₀ n C w tm a ht st hB;refine wpIn_seq (wpIn_mono (h l₀ n C w tm a ht st hB) fun e a' w' he => ?_)
 obtain ⟨x', tm', ρ', σ', C', h1, h2, h3, h4, hB', h5⟩ := he;subst h1;cases x' with
 | normal => exact wpIn_mono (h3 l₀ n C' w' tm' a' h2 h4 hB') fun e a'' w'' he => he.from h5
 | exit id => exact ⟨.exit id, tm', ρ', σ', C', rfl, h2, h3, h4, hB', h5⟩
 | ret => exact ⟨.ret, tm', ρ', σ', C', rfl, h2, h3, h4, hB', h5⟩
theorem Aaw {id : Nat} {c : Code} (h : TRd E nt B c (Ud id Q) ρ σ) : TRd E nt B (.block id c) Q ρ σ := by
 intro l₀ n C w tm a ht st hB;refine wpIn_block (wpIn_mono (h l₀ n C w tm a ht st hB) fun e a' w' he => ?_)
 obtain ⟨x', tm', ρ', σ', C', h1, h2, h3, h4, hB', h5⟩ := he;subst h1;cases x' with
 | normal => exact ⟨.normal, tm', ρ', σ', C', rfl, h2, h3, h4, hB', h5⟩
 | ret => exact ⟨.ret, tm', ρ', σ', C', rfl, h2, h3, h4, hB', h5⟩
 | exit j =>
  simp only [Ud] at h3
  by_cases hj : j = id
  ·subst hj;rw [Nat.beq_refl] at h3;simp only [Gh, Exit.inBlock, if_true];exact ⟨.normal, tm', ρ', σ', C', rfl, h2, h3, h4, hB', h5⟩
  ·have hb : Nat.beq j id = false := by cases hb : Nat.beq j id with | true => exact absurd (Nat.eq_of_beq_eq_true hb) hj | false => rfl
   rw [hb] at h3;simp only [Gh, Exit.inBlock, if_neg hj];exact ⟨.exit j, tm', ρ', σ', C', rfl, h2, h3, h4, hB', h5⟩
theorem Yn {P : Program} {ro : Option Nat} {n : Nat} {arr : Array Oper} {QQ : Exit -> Act -> World -> Prop} (hlet : ¬ LetsOut QQ) : ∀ (l : List Nat) (a : Act) (w : World), (∀ i ∈ l, ∀ o, arr[i]? = some o -> Lb o.op = false) -> wpOps P arr QQ l a w -> wpOpsIn (Vf ro) n P arr QQ l a w
 | [], a, w, _, h => h
 | i :: l, a, w, hd, h => by
  simp only [wpOps] at h;simp only [wpOpsIn];have ih := Yn (P := P) (ro := ro) (n := n) (arr := arr) hlet l;have hd' : ∀ i ∈ l, ∀ o, arr[i]? = some o -> Lb o.op = false := fun j hj => hd j (List.mem_cons_of_mem _ hj)
  split at h
  ·rename_i he; rw [he]; exact ih a w hd' h
  ·rename_i o he
   rw [he];simp only
   split at h
   ·rename_i hw
    rw [if_pos hw]
    rcases h with h | ⟨_, h⟩
    ·exact Oper.wpIn_mono (fun a w hk => ih a w hd' hk) (Lc (hd i (List.mem_cons_self ..) o he) h)
    ·exact absurd h hlet
   ·rename_i hw
    rw [if_neg hw];exact ⟨fun _ _ => trivial, ih _ w hd' h⟩
theorem Akn {C : Ctx} {w : World} {df : List (Nat × List AV)} : ¬ LetsOut (N6 E nt df B Q C w) := fun ⟨a, w', x, tm', ρ', σ', C', h, _⟩ => by cases x <;> cases h
theorem Kg {id : Nat} {ops : Array Oper} (hn : Kf ops.toList = true) (h : TO E nt [] B ops.toList ops.toList (fun ρ σ => Q .normal ρ σ) ρ σ) : TRd E nt B (.region id ops false) Q ρ σ := by
 intro l₀ n C w tm a ht st hB;refine wpIn_region ?_;rw [List.range_eq_range', ← Array.length_toList];refine Yn Akn _ a w (fun i _ o ho => ?_) ?_
 ·have hm : o ∈ ops.toList := by
   obtain ⟨h2, h3⟩ := Array.getElem?_eq_some_iff.1 ho;rw [← h3]; exact Array.getElem_mem_toList h2
  have := List.all_eq_true.1 hn o hm
  simpa using this
 ·have := h C w tm a ht st hB ops 0 (N6 E nt [] B Q C w) [] rfl (fun j _ => by simp) fun C' w' a' tm' ρ' σ' h1 h2 h3 h4 h5 => ⟨.normal, tm', ρ', σ', C', rfl, h1, h2, h3, h4, h5⟩
  rwa [List.append_nil] at this
end
def YTo (E : Env) (L : RF) (args : List AV) (σ : Sto) (Post : Sto -> Prop) : Prop :=
 ∀ (C : Ctx) (w : World) (vs : Array Value), Ee L C (nx σ) w -> Sim E.P C w σ -> Fv C (nx σ) w E -> RL C (nx σ) w args vs.toList ->
  ∃ r, w.heap[(C.stm L.aY).toNat]? = some (.loop (Dp r .ready)) /\ vs.size = r.params.size /\ ∀ n, RoundIn Fence.wide n E.P (C.stm L.aY).toNat r.fn ((r.params.zip vs).foldl (fun tmps (t, a) => tmps.setIfInBounds t a) r.tmps) r.assign r.body w fun e w' =>
   e = .returned (.bool true) /\ ∃ C' σ', Post σ' /\ Sim E.P C' w' σ' /\ Ext C (nx σ) w C' (nx σ') w'
def Ami : List Nat -> List AV -> Al -> Al
 | p :: ps, x :: xs, ρ => Ami ps xs ((p, x) :: ρ)
 | _, _, ρ => ρ
theorem Vi {C : Ctx} {N : Nat} {w : World} {nt : Nat} : ∀ {ps : List Nat} {args : List AV} {vs : List Value} {tm : Tr AV} {ρ : Al} {tmps : Array Value}, args.length = ps.length -> ps.all (fun p => Nat.blt p nt) = true -> Has tm ρ -> TR C N w tm tmps -> tmps.size = nt -> RL C N w args vs ->
  vs.length = ps.length /\ ∃ tm', Has tm' (Ami ps args ρ) /\ TR C N w tm' ((ps.zip vs).foldl (fun tmps (t, a) => tmps.setIfInBounds t a) tmps) /\ ((ps.zip vs).foldl (fun tmps (t, a) => tmps.setIfInBounds t a) tmps).size = nt
 | [], [], [], tm, ρ, tmps, _, _, ht, hT, hs, _ => ⟨rfl, tm, ht, hT, hs⟩
 | [], [], _ :: _, _, _, _, _, _, _, _, _, h => by unfold RL at h; exact h.elim
 | [], _ :: _, _, _, _, _, h, _, _, _, _, _ => by cases h
 | _ :: _, [], _, _, _, _, h, _, _, _, _, _ => by cases h
 | _ :: _, _ :: _, [], _, _, _, _, _, _, _, _, h => by unfold RL at h; exact h.elim
 | p :: ps, x :: xs, v :: vs, tm, ρ, tmps, hl, hb, ht, hT, hs, hr => by
  unfold RL at hr;simp only [List.all_cons, Bool.and_eq_true] at hb;obtain ⟨tm1, h1, h2⟩ := Dw (nt := nt) (dst := some p) hb.1 ht x;obtain ⟨k1, k2, _⟩ := TR.put (a := { tmps := tmps, defers := [] }) hT hs h1 hr.1
  have hact : (({ tmps := tmps, defers := [] } : Act).put (some p) v).tmps = tmps.setIfInBounds p v := by simp [Act.put]
  rw [hact] at k1 k2
  obtain ⟨q1, tm', q2, q3, q4⟩ := Vi (by simpa using hl) hb.2 h2 k1 k2 hr.2
  exact ⟨by simp [q1], tm', q2, q3, q4⟩
theorem Amj {E : Env} {L : RF} {ρL : Al} {args : List AV} {σ : Sto} {Post : Sto -> Prop} (hL : Has L.tm ρL) (hl : args.length = L.ps.toList.length) (hps : L.ps.toList.all (fun p => Nat.blt p L.nt) = true) (hrd : σ.get L.aY = some (.loop .ready)) (hY0 : L.aY < nx σ)
  (h : TRd E L.nt (nx σ) L.assign (fun | .normal => fun ρ₁ σ₁ => σ₁.get L.aY = some (.loop .ready) /\ TRd E L.nt (nx σ) L.body (fun | .normal => fun _ σ₂ => σ₂.get L.aY = some (.loop .busy) /\ Post (σ₂.set L.aY (.loop .ready)) | _ => fun _ _ => False) ρ₁ (σ₁.set L.aY (.loop .busy)) | _ => fun _ _ => False) (Ami L.ps.toList args ρL) σ) :
  YTo E L args σ Post := by
 intro C w vs hi hs hg hargs;obtain ⟨hY1, hY2, r, hlr, hTR, hsz, hp, has, hbo⟩ := hi;obtain ⟨c, r', h1, h2, h3⟩ := hs.obj _ _ hrd;rw [hlr] at h2;cases h2;have hc := hY2 c 0 h1;subst hc;obtain ⟨q1, tm', q0, q2, q3⟩ := Vi (nt := L.nt) hl hps hL hTR hsz hargs
 have hzip : (L.ps.toList.zip vs.toList).foldl (fun tmps (t, a) => tmps.setIfInBounds t a) r.tmps = (L.ps.zip vs).foldl (fun tmps (t, a) => tmps.setIfInBounds t a) r.tmps := by
  rw [← Array.foldl_toList, Array.toList_zip]
 rw [hzip] at q2 q3
 refine ⟨r, h3, by rw [hp]; simpa using q1, fun n => ?_⟩
 refine roundIn_of_wpIn (F := Fence.wide) trivial ?_;rw [has, hbo, hp]
 have st0 : SSt E C w ⟨tm', L.nt, [], σ⟩ { tmps := (L.ps.zip vs).foldl (fun tmps (t, a) => tmps.setIfInBounds t a) r.tmps, defers := [] } := ⟨hs, hg, q2, q3, by unfold DR; trivial⟩
 refine wpIn_mono (h (C.stm L.aY).toNat n C w tm' _ q0 st0 nl) fun e a₁ w₁ hq => ?_
 obtain ⟨x₁, tm₁, ρ₁, σ₁, C₁, hye, ht₁, hq₁, st₁, hB₁, e₁⟩ := hq;subst hye;cases x₁ with
 | ret => exact hq₁.elim
 | exit _ => exact hq₁.elim
 | normal =>
  obtain ⟨hrd₁, hbody⟩ := hq₁;obtain ⟨c₁, r₁, j1, j2, j3, j4, j5⟩ := st₁.sim.turnLoop hrd₁ .busy
  have hr₁ : r₁ = r := by
   have := e₁.lr _ hY0;rw [j2, hlr] at this;exact Option.some.inj this
  subst hr₁;have hc₁ : c₁ = (C.stm L.aY).toNat := hY2 c₁ 0 (e₁.loc _ hY0 _ j1);subst hc₁;refine ⟨_, run_beginRound j3 rfl, ?_⟩;have st₂ : SSt E C₁ (w₁.putObj (C.stm L.aY).toNat (.loop (Dp r₁ .busy))) ⟨tm₁, L.nt, [], σ₁.set L.aY (.loop .busy)⟩ a₁ :=
   ⟨j4, by show Fv _ (nx (σ₁.set _ _)) _ _; rw [An]; exact st₁.glob.ext j5, by show TR _ (nx (σ₁.set _ _)) _ _ _; rw [An]; exact st₁.tmps.ext j5, st₁.size, by show DR _ (nx (σ₁.set _ _)) _ _ _; rw [An]; exact st₁.dfs.ext j5⟩
  refine wpIn_mono (hbody (C.stm L.aY).toNat n C₁ _ tm₁ _ ht₁ st₂ (by rw [An]; exact hB₁)) fun e a₃ w₃ hq => ?_
  obtain ⟨x₃, tm₃, ρ₃, σ₃, C₂, hye, ht₃, hq₃, st₃, hB₃, e₂⟩ := hq;subst hye;cases x₃ with
  | ret => exact hq₃.elim
  | exit _ => exact hq₃.elim
  | normal =>
   obtain ⟨hbu, hpost⟩ := hq₃;obtain ⟨c₂, r₂, m1, m2, m3, m4, m5⟩ := st₃.sim.turnLoop hbu .ready
   have hr₂ : r₂ = r₁ := by
    have := e₂.lr _ hY0;rw [m2, j2] at this;exact Option.some.inj this
   subst hr₂;have hc₂ : c₂ = (C.stm L.aY).toNat := hY2 c₂ 0 (e₁.loc _ hY0 _ (e₂.loc _ hY0 _ m1));subst hc₂;have hend := run_endRound (P := E.P) none m3;refine ⟨_, _, hend, rfl, C₂, _, hpost, m4, ?_⟩;rw [An];exact (((e₁.trans (j5.base hB₁)).trans e₂).trans (m5.base hB₃)).top hB₃
end Go.AM
