/- A part of the proof; shortened by program. -/
import Derived.Laws.Tables
import Derived.Laws.Append
import Derived.MapKept
import Derived.Test.YtolkkkghemedjaaGreatDoorP00
set_option maxRecDepth 100000
set_option linter.unusedSimpArgs false
set_option linter.unusedVariables false
namespace Go.AM
open Go
section
variable {P : Program} {C : Ctx} {N : Nat} {w : World}
theorem W8 {t : TypeId} {x y : AV} {X Y : Value} (hx : R C N w x X) (hy : R C N w y Y) {b : Bool} (h : Sc P t x y = some b) :
  ∃ l m, X = .agg l /\ Y = .agg m /\ EqR P w t X Y b /\ KT P t X := by
 unfold Sc at h
 split at h
 ·rename_i cs ds
  split at h
  ·rename_i k k' hk hk'
   cases h;obtain ⟨v1, t1⟩ := G1 hk hx;obtain ⟨v2, t2⟩ := G1 hk' hy;unfold R at hx hy;obtain ⟨l, rfl, _⟩ := hx;obtain ⟨m, rfl, _⟩ := hy;have := (Ah7 (P := P) (w := w) v1 v2 t1 t2).2;refine ⟨l, m, rfl, rfl, ⟨?_, ?_⟩, t1⟩
   ·rw [run_eql_struct, this 9998]; rfl
   ·rw [run_neq_struct, this 9998]; rfl
  ·cases h
 ·cases h
theorem Su {t : TypeId} {l : Array Value} (h : KT P t (.agg l)) : P.eqGuardType P.depth t = false := by
 rcases h with ⟨d, ht, h⟩ | ⟨fs, a, ht, _, h1, h2, h3⟩
 ·unfold KS at h; split at h <;> first | (obtain ⟨_, h⟩ := h; cases h) | exact h.elim
 ·have hd : P.depth = (2 * (P.types.size + Made.depth)) + 1 + 1 := by unfold Program.depth; omega
  rw [hd]
  generalize 2 * (P.types.size + Made.depth) = n
  unfold Program.eqGuardType;rw [ht];simp only [← Array.any_toList]
  have key : ∀ (fs : List Field) (vs : List Value), KFs P fs vs -> (fs.any fun f => f.name != "_" && P.eqGuardType (n + 1) f.type) = false := by
   intro fs
   induction fs with
   | nil => intro vs _; rfl
   | cons f fs ih =>
    intro vs hk;cases vs with
    | nil => unfold KFs at hk; exact hk.elim
    | cons v vs =>
     unfold KFs at hk;obtain ⟨⟨i, d, g1, g2, g3, g4, g5, g6⟩, hk⟩ := hk;simp only [List.any_cons, ih vs hk, Bool.or_false]
     have : P.eqGuardType (n + 1) f.type = false := by
      unfold Program.eqGuardType;rw [g2];unfold KS at g5
      split at g5 <;> first | rfl | exact g5.elim
     simp [this]
  exact key _ _ h1
theorem Iz (o : Option Ordering) (x : Ordering) : Sd o x = (o == some x) := by
 cases o with
 | none => cases x <;> rfl
 | some y => cases y <;> cases x <;> rfl
theorem Kz {k : FloatKind} {r : Option Nat} {v : AV} (h : Qv k r = some v) : ∃ n, r = some n /\ v = .flt k n := by
 cases r with
 | none => simp [Qv] at h
 | some n => simp only [Qv, Au, Option.some.injEq] at h; exact ⟨n, rfl, h.symm⟩
theorem Adw {op : BinOp} {k : FloatKind} {a b : Nat} {v : AV} (h : Alg op k a b = some v) (t : TypeId) :
  ∃ x, (binOp op t (.float k a) (.float k b)).run P w = .ok x w /\ R C N w v x := by
 cases op <;> simp only [Alg] at h
 case add => obtain ⟨n, h1, rfl⟩ := Kz h; exact ⟨.float k n, by simp [binOp, Op.floatArith, Sem.run_bind, h1], by unfold R; rfl⟩
 case sub => obtain ⟨n, h1, rfl⟩ := Kz h; exact ⟨.float k n, by simp [binOp, Op.floatArith, Sem.run_bind, h1], by unfold R; rfl⟩
 case mul => obtain ⟨n, h1, rfl⟩ := Kz h; exact ⟨.float k n, by simp [binOp, Op.floatArith, Sem.run_bind, h1], by unfold R; rfl⟩
 case quo => obtain ⟨n, h1, rfl⟩ := Kz h; exact ⟨.float k n, by simp [binOp, Op.floatArith, Sem.run_bind, h1], by unfold R; rfl⟩
 case eql => cases h; exact ⟨_, by simp [binOp, Op.floatCmp]; rfl, by unfold R; rw [Iz]⟩
 case neq => cases h; exact ⟨.bool (!(k.format.order a b == some .eq)), by simp [binOp, Op.floatCmp, bne], by unfold R; rw [Iz]⟩
 case lss => cases h; exact ⟨_, by simp [binOp, Op.floatCmp]; rfl, by unfold R; rw [Iz]⟩
 case leq => cases h; exact ⟨.bool (k.format.order a b == some .lt || k.format.order a b == some .eq), by simp [binOp, Op.floatCmp], by unfold R; rw [Iz, Iz]⟩
 case gtr => cases h; exact ⟨_, by simp [binOp, Op.floatCmp]; rfl, by unfold R; rw [Iz]⟩
 case geq => cases h; exact ⟨.bool (k.format.order a b == some .gt || k.format.order a b == some .eq), by simp [binOp, Op.floatCmp], by unfold R; rw [Iz, Iz]⟩
 all_goals (cases h)
theorem Af9 {op : BinOp} {t : TypeId} {xo yo : Operand} {x y : AV} {X Y : Value} (hx : R C N w x X) (hy : R C N w y Y) {v : AV}
  (h : Zf P op t (Ds xo || Ds yo) x y = some v) : Dg P C N w (do eqGuard op t xo yo X Y; binOp op t X Y) v := by
 have fin : ∀ {v : AV}, (eqGuard op t xo yo X Y).run P w = .ok () w -> Dg P C N w (binOp op t X Y) v -> Dg P C N w (do eqGuard op t xo yo X Y; binOp op t X Y) v := by
  intro v h1 ⟨z, h2, h3⟩
  exact ⟨z, by simp only [Sem.run_bind, h1, Result.andThen_ok, h2], h3⟩
 unfold Zf at h
 split at h
 ·rename_i ti hti
  obtain ⟨i, d, _, hd, hdd, _⟩ := Az hti
  split at h
  ·rename_i k a k' b
   unfold R at hx hy; subst hx; subst hy;cases hk : Id k k'
   ·simp [hk] at h
   ·simp only [hk, cond_true] at h;have := (J2 k k').1 hk;subst this
    exact fin (El (fun _ _ hh => by cases hh.1) (fun hh => by cases hh.1)) (Adt h t)
  ·unfold R at hx hy;obtain ⟨s, rfl, rfl⟩ := hx;obtain ⟨u, rfl, rfl⟩ := hy
   exact fin (El (fun _ _ hh => by cases hh.1) (fun hh => by cases hh.1)) (Adu h t)
  ·rename_i k a k' b
   unfold R at hx hy; subst hx; subst hy
   split at h
   ·rename_i hk
    have := of_decide_eq_true hk;subst this
    exact fin (El (fun _ _ hh => by cases hh.1) (fun hh => by cases hh.1)) (Adw h t)
   ·cases h
  ·rename_i a b
   unfold R at hx hy; subst hx; subst hy
   split at h
   ·rename_i hb
    cases h
    have := EqR.bool (w := w) (hd.trans (by rw [← hdd, hb])) a b
    exact fin (El (fun _ _ hh => by cases hh.1) (fun hh => by cases hh.1)) ⟨_, this.eql, by unfold R; cases a <;> cases b <;> rfl⟩
   ·rename_i hb
    cases h
    have := EqR.bool (w := w) (hd.trans (by rw [← hdd, hb])) a b
    exact fin (El (fun _ _ hh => by cases hh.1) (fun hh => by cases hh.1)) ⟨_, this.neq, by unfold R; cases a <;> cases b <;> rfl⟩
   ·cases h
  ·have other : ∀ b, Kw P ti t (Ds xo || Ds yo) x y = some b -> EqR P w t X Y b /\ (eqGuard op t xo yo X Y).run P w = .ok () w := by
    intro b hb;unfold Kw at hb
    split at hb
    ·rename_i b' hb'
     cases hb
     cases hc : (Ds xo || Ds yo)
     ·simp [hc] at hb'
     ·simp only [hc, cond_true] at hb'
      obtain ⟨h1, h2, h3⟩ := Adv (by rw [hdd]; exact hd) hx hy hb'
      refine ⟨h1, ?_⟩
      by_cases hn : X = .nilIface /\ Y = .nilIface
      ·obtain ⟨rfl, rfl⟩ := hn; exact Zi hc
      ·exact El (fun l m hh => h2 l hh.1) hn
    ·obtain ⟨l, m, rfl, rfl, h1, h2⟩ := W8 hx hy hb;exact ⟨h1, run_eqGuard_agg w op t xo yo l m (Su h2)⟩
   split at h
   ·split at h
    ·rename_i b hb
     cases h;obtain ⟨h1, h2⟩ := other b hb
     exact fin h2 ⟨_, h1.eql, by unfold R; rfl⟩
    ·cases h
   ·split at h
    ·rename_i b hb
     cases h;obtain ⟨h1, h2⟩ := other b hb
     exact fin h2 ⟨_, h1.neq, by unfold R; rfl⟩
    ·cases h
   ·cases h
 ·cases h
theorem Ajy {op : UnOp} {x : AV} {X : Value} (hx : R C N w x X) {v : AV} (h : unA op x = some v) : Dg P C N w (Op.unary op X) v := by
 unfold unA at h
 split at h
 ·cases h; unfold R at hx; subst hx; exact ⟨_, rfl, by unfold R; rfl⟩
 ·cases h; unfold R at hx; subst hx
  refine ⟨_, by simp [Op.unary, Op.intArith]; rfl, ?_⟩
  rw [Lx, T7, Int.zero_sub]; unfold R; rfl
 ·cases h
theorem Q1 {x : AV} {n : Nat} {X : Value} (h : I3 x = some n) (hx : R C N w x X) : ∃ k, X = .int k (n : Int) := by
 unfold I3 at h
 split at h
 ·cases h; unfold R at hx; exact ⟨_, hx⟩
 ·cases h
theorem Nt {t : TypeId} {ti : TI} (hti : Bi P t = some ti) {l : List AV} {c o : Nat} (hc : RC C N w c l o) {v : AV} (h : Et ti l = some v) :
  Dg P C N w (loadVar t ⟨c, o, none⟩) v := by
 obtain ⟨i, d, h1, h2, h3, h4, _, _, h5⟩ := Az hti;unfold Et at h;unfold loadVar Dg;simp only [Sem.run_bind, Ig h2, Result.andThen_ok];rw [← h5];cases ha : ti.isAgg
 ·simp only [ha] at h;simp only [Bool.false_eq_true, if_false]
  split at h
  ·cases h;unfold RC at hc;obtain ⟨⟨x, q1, q2, q3⟩, _⟩ := hc
   exact ⟨x, by simp [q1], q3⟩
  ·cases h
 ·simp only [ha] at h
  split at h
  ·rename_i cs hcs
   cases h;obtain ⟨a, q1, q2, q3⟩ := Zg (P := P) (hc.take _ hcs);have hl := (Gm hcs).2
   refine ⟨.agg a, ?_, by unfold R; exact ⟨a, rfl, q2, q3⟩⟩
   simp only [if_true, Sem.run_bind, Bh h1, Result.andThen_ok];rw [← h4, ← hl, q1]
   simp
  ·cases h
theorem Nu {σ σ' : Sto} (hs : Sim P C w σ) {t : TypeId} {ti : TI} (hti : Bi P t = some ti) {x : AV} {X : Value} (hx : R C (nx σ) w x X) {v : AV} (h : Lt ti x σ = some (v, σ')) :
  σ' = σ /\ Dg P C (nx σ) w (Instr.loadAt t X) v := by
 unfold Lt at h
 split at h
 ·rename_i a off
  split at h
  ·rename_i vs hvs
   split at h
   ·rename_i u hu
    cases h;refine ⟨rfl, ?_⟩;unfold R at hx;obtain ⟨ad, rfl, _, hl⟩ := hx;unfold Sto.cells at hvs
    split at hvs
    ·rename_i vs' hg
     cases hvs;obtain ⟨c, o, cs, T, k1, k2, k3⟩ := hs.obj a _ hg;rw [hl c o k1];exact Nt hti (k3.drop off) hu
    ·cases hvs
   ·cases h
  ·cases h
 ·split at h
  ·rename_i u hu
   cases h;refine ⟨rfl, ?_⟩;unfold R at hx;obtain ⟨c, o, rfl, _, k3⟩ := hx;exact Nt hti k3 hu
  ·cases h
 ·cases h
theorem Sv {x : AV} {X : Value} (hx : R C N w x X) {n : Nat} {v : AV} (h : Qw x n = some v) : ∃ ad, X = .pointer (some ad) /\ R C N w v (.pointer (some (ad.add n))) := by
 unfold Qw at h
 split at h
 ·rw [Au] at h;cases h;unfold R at hx;obtain ⟨ad, rfl, h1, h2⟩ := hx;refine ⟨ad, rfl, ?_⟩;unfold R
  exact ⟨ad.add n, rfl, h1, fun c o hc => by rw [h2 c o hc, Fo, Nat.add_assoc]⟩
 ·cases h;unfold R at hx;obtain ⟨c, o, rfl, h1, h2⟩ := hx;refine ⟨⟨c, o, none⟩, rfl, ?_⟩;rw [Fo];unfold R;refine ⟨c, o + n, rfl, fun hne => h1 ?_, h2.drop n⟩
  intro h; apply hne; rw [h]; simp
 ·cases h
theorem Zj {t : TypeId} {ti : TI} (hti : Bi P t = some ti) {fs : Array Field} (hfs : ti.desc = .struct fs) {i : Nat} {f : Field} (hf : fs.toList[i]? = some f) {tf : TI} (htf : Bi P f.type = some tf)
  (hsz : tf.size ≠ 0) {x : AV} {X : Value} (hx : R C N w x X) {v : AV} (h : Qw x f.offset = some v) : Dg P C N w (Instr.fieldAt t X i) v := by
 obtain ⟨_, d, _, h2, h3, _⟩ := Az hti;obtain ⟨fi, _, g1, _, _, g4, _⟩ := Az htf;obtain ⟨ad, rfl, hr⟩ := Sv hx h;refine ⟨.pointer (some (ad.add f.offset)), ?_, hr⟩;unfold Instr.fieldAt
 have hf' : fs[i]? = some f := by simpa using hf
 simp only [Sem.run_bind, Af (h2.trans (by rw [← h3, hfs])), Result.andThen_ok, hf', Instr.sureAddr, Sem.run_pure, fieldPlace, Bh g1, Sem.run_ite]
 rw [if_neg (by rw [← g4]; exact hsz)]
 simp
theorem Adx {t : TypeId} {ti : TI} (hti : Bi P t = some ti) {fs : Array Field} (hfs : ti.desc = .struct fs) {i : Nat} {f : Field} (hf : fs.toList[i]? = some f) {tf : TI} (htf : Bi P f.type = some tf)
  {cs : List AV} {X : Value} (hx : R C N w (.agg cs) X) {v : AV} (h : Et tf (cs.drop f.offset) = some v) : Dg P C N w (Instr.field t X i) v := by
 obtain ⟨_, d, _, h2, h3, _⟩ := Az hti
 have hf' : fs[i]? = some f := by simpa using hf
 unfold R at hx;obtain ⟨a, rfl, q1, q2⟩ := hx;unfold Instr.field
 have hp : Dg P C N w (part f.type a f.offset) v := by
  obtain ⟨fi, fd, g1, g2, g3, g4, _, _, g5⟩ := Az htf;unfold Et at h;unfold part Dg;simp only [Sem.run_bind, Ig g2, Result.andThen_ok];rw [← g5];have hd := q1.drop f.offset;cases ha : tf.isAgg
  ·simp only [ha] at h;simp only [Bool.false_eq_true, if_false]
   split at h
   ·rename_i u r he
    cases h
    have : (cs.drop f.offset)[0]? = some v := by rw [he]; rfl
    obtain ⟨x, k1, k2⟩ := hd.get 0 v this
    have : a[f.offset]? = some x := by simpa using k1
    exact ⟨x, by simp [this], k2⟩
   ·cases h
  ·simp only [ha] at h
   split at h
   ·rename_i l hl
    cases h
    refine ⟨.agg (a.extract f.offset (f.offset + fi.size)), by simp [Bh g1], ?_⟩
    obtain ⟨t1, t2⟩ := Gm hl;unfold R;refine ⟨_, rfl, ?_, ?_⟩
    ·have e : (a.extract f.offset (f.offset + fi.size)).toList = (a.toList.drop f.offset).take tf.size := by
      rw [g4]; simp [List.drop_take]
     rw [e, t1]
     have key : ∀ (n : Nat) (l : List AV) (vs : List Value), RL C N w l vs -> RL C N w (l.take n) (vs.take n) := by
      intro n
      induction n with
      | zero => intro l vs _; simp only [List.take_zero]; unfold RL; trivial
      | succ n ih => intro l vs hl; cases l <;> cases vs <;> unfold RL at hl <;> first | exact hl.elim | (simp only [List.take_nil]; unfold RL; trivial) | (simp only [List.take_succ_cons]; unfold RL; exact ⟨hl.1, ih _ _ hl.2⟩)
     exact key _ _ _ hd
    ·intro y hy;refine q2 y ?_
     simp at hy
     have hm : y ∈ (a.toList.drop f.offset).take fi.size := by simpa [List.drop_take] using hy
     exact List.mem_of_mem_drop (List.mem_of_mem_take hm)
   ·cases h
 obtain ⟨x, k1, k2⟩ := hp
 exact ⟨x, by simp only [Sem.run_bind, Af (h2.trans (by rw [← h3, hfs])), Result.andThen_ok, hf', asAgg, Sem.run_pure, k1], k2⟩
theorem T8 {σ σ' : Sto} {t e : TypeId} {ti te : TI} (hti : Bi P t = some ti) (hd : ti.desc = .slice e) (hte : Bi P e = some te) {x i : AV} {X I : Value} (hx : R C N w x X) (hi : R C N w i I) {v : AV}
  (h : G0 te.size x i σ = some (v, σ')) : σ' = σ /\ Dg P C N w (Instr.indexAt t X I) v := by
 obtain ⟨_, d, _, h2, h3, _⟩ := Az hti;obtain ⟨ei, _, g1, _, _, g4, _⟩ := Az hte
 have hu := h2.trans (by rw [← h3, hd])
 unfold G0 at h
 split at h
 ·rename_i k n
  unfold R at hi; subst hi
  split at h
  ·rename_i a off sz len cap
   cases hb : Nat.blt n len
   ·simp [hb] at h
   ·simp only [hb, cond_true, Au, Option.some.injEq, Prod.mk.injEq] at h;obtain ⟨rfl, rfl⟩ := h;have hlt : n < len := Nat.le_of_ble_eq_true hb;refine ⟨rfl, ?_⟩;unfold R at hx;obtain ⟨ad, kk, rfl, q1, q2, q3, q4⟩ := hx;refine ⟨.pointer (some (ad.add (n * ei.size))), ?_, ?_⟩
    ·unfold Instr.indexAt;simp only [asIntOf, Sem.run_bind, Sem.run_pure, Result.andThen_ok, Af hu]
     rw [if_pos ⟨by simp, by simpa using hlt⟩]
     simp [Bh g1]
    ·unfold R;refine ⟨_, rfl, q1, fun c o hc => ?_⟩
     rw [(q4 c o hc).1 (by omega), Fo, g4]; congr 1; omega
  ·rename_i cs sz len cap
   cases hb : Nat.blt n len
   ·simp [hb] at h
   ·simp only [hb, cond_true, Option.some.injEq, Prod.mk.injEq] at h;obtain ⟨rfl, rfl⟩ := h;have hlt : n < len := Nat.le_of_ble_eq_true hb;refine ⟨rfl, ?_⟩;unfold R at hx;obtain ⟨ado, kk, rfl, q2, q3, q4, q0, q567⟩ := hx
    obtain _ | ad := ado
    ·have := q0 rfl; omega
    obtain ⟨q5, q6, q7⟩ := q567 ad rfl
    have hsp := q5 (by omega)
    obtain ⟨b, o, sp⟩ := ad;simp only at hsp; subst hsp;refine ⟨.pointer (some ⟨b, o + n * ei.size, none⟩), ?_, ?_⟩
    ·unfold Instr.indexAt;simp only [asIntOf, Sem.run_bind, Sem.run_pure, Result.andThen_ok, Af hu]
     rw [if_pos ⟨by simp, by simpa using hlt⟩]
     simp [Bh g1, Fo]
    ·unfold R;rw [g4]
     exact ⟨b, _, rfl, fun hne => q6 (fun hh => hne (by rw [hh]; simp)), q7.drop _⟩
  ·cases h
 ·cases h
theorem Pk {σ σ' : Sto} {t e : TypeId} {len : Nat} {ti te : TI} (hti : Bi P t = some ti) (hd : ti.desc = .array len e) (hte : Bi P e = some te) {x i : AV} {X I : Value} (hx : R C N w x X) (hi : R C N w i I) {v : AV}
  (h : Fi len te.size x i σ = some (v, σ')) : σ' = σ /\ Dg P C N w (Instr.indexAt t X I) v := by
 obtain ⟨_, d, _, h2, h3, _⟩ := Az hti;obtain ⟨ei, _, g1, _, _, g4, _⟩ := Az hte
 have hu := h2.trans (by rw [← h3, hd])
 unfold Fi at h
 split at h
 ·rename_i k n
  unfold R at hi; subst hi;cases hb : Nat.blt n len
  ·simp [hb] at h
  ·simp only [hb, cond_true] at h
   split at h
   ·rename_i u hp
    cases h;have hlt : n < len := Nat.le_of_ble_eq_true hb;obtain ⟨ad, rfl, hr⟩ := Sv hx hp
    refine ⟨rfl, .pointer (some (ad.add (n * ei.size))), ?_, by rw [← g4]; exact hr⟩
    unfold Instr.indexAt;simp only [asIntOf, Sem.run_bind, Sem.run_pure, Result.andThen_ok, Af hu, Instr.sureAddr]
    rw [if_pos ⟨by simp, by simpa using hlt⟩]
    simp [Bh g1]
   ·cases h
 ·cases h
theorem Ady {s : ByteArray} {n b : Nat} (h : (Ca s)[n]? = some b) : ∃ u : UInt8, s[n]? = some u /\ u.toNat = b := by
 unfold Ca at h;simp only [List.getElem?_map, Option.map_eq_some_iff] at h;obtain ⟨u, h1, h2⟩ := h;refine ⟨u, ?_, h2⟩;have hlt : n < s.data.toList.length := (List.getElem?_eq_some_iff.1 h1).1
 have hlt' : n < s.size := by simpa using hlt
 rw [getElem?_pos s n hlt'];have := (List.getElem?_eq_some_iff.1 h1).2;simp only [Array.getElem_toList] at this;rw [← this]; rfl
theorem Vr {σ σ' : Sto} {t : TypeId} {ti : TI} (hti : Bi P t = some ti) (hd : ti.desc = .string) {x i : AV} {X I : Value} (hx : R C N w x X) (hi : R C N w i I) {v : AV}
  (h : Jt x i σ = some (v, σ')) : σ' = σ /\ Dg P C N w (Instr.index t X I) v := by
 obtain ⟨_, d, _, h2, h3, _⟩ := Az hti
 have hu := h2.trans (by rw [← h3, hd])
 unfold Jt at h
 split at h
 ·rename_i l k n
  split at h
  ·rename_i b hb
   cases h;unfold R at hx hi;subst hi;obtain ⟨s, rfl, rfl⟩ := hx;obtain ⟨u, q1, q2⟩ := Ady hb
   refine ⟨rfl, .int .u8 u.toNat, ?_, by unfold R; rw [q2]; rfl⟩
   unfold Instr.index;simp only [asIntOf, Sem.run_bind, Sem.run_pure, Result.andThen_ok, Af hu]
   have : (if (0 : Int) <= Int.ofNat n then s[(Int.ofNat n).toNat]? else none) = some u := by rw [if_pos (by simp)]; exact q1
   rw [this]
   rfl
  ·cases h
 ·cases h
end
section
variable {P : Program} {C : Ctx} {N : Nat} {w : World}
def RO (C : Ctx) (N : Nat) (w : World) : Option AV -> Option Value -> Prop
 | none, none => True
 | some x, some v => R C N w x v
 | _, _ => False
theorem Gn {n y : Nat} {k : IntKind} {code : BoundsCode} (h : n <= y) : (Instr.sliceBound (.int k (n : Int)) y code).run P w = .ok n w := by
 unfold Instr.sliceBound;simp only [asIntOf, Sem.run_bind, Sem.run_pure, Result.andThen_ok]
 rw [if_pos ⟨by omega, by omega⟩]
 simp
theorem Gp {len cap k : Nat} {acap : Option Nat} (hk : len <= k) (hcap : ∀ q, acap = some q -> k = q) {lo hi mx : Option AV} {LO HI MX : Option Value} (h1 : RO C N w lo LO) (h2 : RO C N w hi HI) (h3 : RO C N w mx MX)
  {l h : Nat} {c : Option Nat} (hb : C6 len acap lo hi mx = some (l, h, c)) (sl : Bool) :
  ∃ m, (Instr.sliceBounds sl len k LO HI MX).run P w = .ok (l, h, m) w /\ l <= h /\ h <= m /\ m <= k /\ (∀ q, c = some q -> m - l = q) /\ (mx = none -> m = k /\ c = Lg acap l) := by
 have hcapOk : ∀ n, Ls len acap n = true -> n <= k := fun n hn => by
  unfold Ls at hn;cases hb : Nat.ble n len
  ·simp only [hb, cond_false] at hn
   split at hn
   ·rename_i q; have := hcap q rfl; have := Nat.le_of_ble_eq_true hn; omega
   ·cases hn
  ·have := Nat.le_of_ble_eq_true hb; omega
 unfold C6 at hb
 split at hb
 ·rename_i l' h' hl hh
  have hLO : (LO = none /\ l' = 0) ∨ ∃ kk, LO = some (.int kk (l' : Int)) := by
   cases lo with
   | none =>
    cases LO with
    | none => simp at hl; exact .inl ⟨rfl, hl.symm⟩
    | some _ => unfold RO at h1; exact h1.elim
   | some v =>
    cases LO with
    | none => unfold RO at h1; exact h1.elim
    | some V =>
     unfold RO at h1;simp only at hl;obtain ⟨kk, rfl⟩ := Q1 hl h1;exact .inr ⟨kk, rfl⟩
  have hHI : (hi = none /\ HI = none /\ h' = len) ∨ ∃ kk, HI = some (.int kk (h' : Int)) := by
   cases hi with
   | none =>
    cases HI with
    | none => simp at hh; exact .inl ⟨rfl, rfl, hh.symm⟩
    | some _ => unfold RO at h2; exact h2.elim
   | some v =>
    cases HI with
    | none => unfold RO at h2; exact h2.elim
    | some V =>
     unfold RO at h2;simp only at hh;obtain ⟨kk, rfl⟩ := Q1 hh h2;exact .inr ⟨kk, rfl⟩
  split at hb
  ·have hMX : MX = none := by
    cases MX with
    | none => rfl
    | some _ => unfold RO at h3; exact h3.elim
   subst hMX;cases hc : (Nat.ble l' h' && Ls len acap h')
   ·simp [hc] at hb
   ·simp only [hc, cond_true, Option.some.injEq, Prod.mk.injEq] at hb;obtain ⟨rfl, rfl, rfl⟩ := hb;simp only [Bool.and_eq_true] at hc;have hle := Nat.le_of_ble_eq_true hc.1;have hk' := hcapOk h' hc.2;refine ⟨k, ?_, hle, hk', nl, fun q hq => ?_, fun _ => ⟨rfl, rfl⟩⟩
    ·unfold Instr.sliceBounds
     rcases hHI with ⟨_, rfl, rfl⟩ | ⟨kk, rfl⟩ <;> rcases hLO with ⟨rfl, rfl⟩ | ⟨kk', rfl⟩ <;>
      simp only [Sem.run_bind, Sem.run_pure, Result.andThen_ok, Gn hk', Gn hle]
    ·unfold Lg at hq
     split at hq
     ·rename_i q'; cases hq; have := hcap q' rfl; omega
     ·cases hq
  ·rename_i mv
   split at hb
   ·rename_i m hv hm
    have hMX : ∃ kk, MX = some (.int kk (m : Int)) := by
     cases MX with
     | none => unfold RO at h3; exact h3.elim
     | some V => unfold RO at h3; obtain ⟨kk, rfl⟩ := Q1 hm h3; exact ⟨kk, rfl⟩
    obtain ⟨k3, rfl⟩ := hMX;cases hc : (Nat.ble l' h' && Nat.ble h' m && Ls len acap m)
    ·simp [hc] at hb
    ·simp only [hc, cond_true, Option.some.injEq, Prod.mk.injEq] at hb;obtain ⟨rfl, rfl, rfl⟩ := hb;simp only [Bool.and_eq_true] at hc;have hle := Nat.le_of_ble_eq_true hc.1.1;have hle' := Nat.le_of_ble_eq_true hc.1.2;have hk' := hcapOk m hc.2
     refine ⟨m, ?_, hle, hle', hk', fun q hq => by cases hq; rfl, fun hh => by cases hh⟩
     unfold Instr.sliceBounds
     rcases hHI with ⟨hn, _, _⟩ | ⟨kk, rfl⟩
     ·cases hn
     ·rcases hLO with ⟨rfl, rfl⟩ | ⟨kk', rfl⟩ <;>
       simp only [Sem.run_bind, Sem.run_pure, Result.andThen_ok, Gn hk', Gn hle, Gn hle']
   ·cases hb
 ·cases hb
theorem Ab2 {σ σ' : Sto} {t e : TypeId} {ti te : TI} (hti : Bi P t = some ti) (hd : ti.desc = .slice e) (hte : Bi P e = some te) {x : AV} {X : Value} (hx : R C N w x X) {lo hi mx : Option AV} {LO HI MX : Option Value}
  (h1 : RO C N w lo LO) (h2 : RO C N w hi HI) (h3 : RO C N w mx MX) {v : AV} (h : Mc te.size x lo hi mx σ = some (v, σ')) : σ' = σ /\ Dg P C N w (Instr.sliceAt t X LO HI MX) v := by
 obtain ⟨_, d, _, g2, g3, _⟩ := Az hti;obtain ⟨ei, _, e1, _, _, e4, _⟩ := Az hte
 have hu := g2.trans (by rw [← g3, hd])
 unfold Mc at h
 split at h
 ·rename_i a off sz len cap
  split at h
  ·rename_i hsz
   split at h
   ·rename_i l hh c hb
    simp only [Au, Option.some.injEq, Prod.mk.injEq] at h;obtain ⟨rfl, rfl⟩ := h;refine ⟨rfl, ?_⟩;unfold R at hx;obtain ⟨ad, k, rfl, q1, q2, q3, q4⟩ := hx;obtain ⟨m, b1, b2, b3, b4, b5, _⟩ := Gp (P := P) (cap := 0) q2 q3 h1 h2 h3 hb true
    have hs : sz = ei.size := by rw [← e4]; exact Nat.eq_of_beq_eq_true hsz
    refine ⟨.slice (if m = l then some ad else some (ad.add (l * ei.size))) (hh - l) (m - l), ?_, ?_⟩
    ·unfold Instr.sliceAt;simp only [Sem.run_bind, Af hu, Result.andThen_ok];unfold Instr.slice;simp only [Sem.run_bind, Af hu, Result.andThen_ok, b1, Bh e1, Sem.run_pure, Option.map_some]
    ·unfold R
     refine ⟨if m = l then ad else ad.add (l * ei.size), m - l, by split <;> rfl, q1, by omega, b5, fun c' o hc => ?_⟩
     obtain ⟨q5, q6⟩ := q4 c' o hc;refine ⟨fun hpos => ?_, ?_⟩
     ·rw [if_neg (by omega), q5 (by omega), Fo, hs]; congr 1; omega
     ·have : (m - l) * sz + l * sz <= k * sz := by rw [← Nat.add_mul]; exact Nat.mul_le_mul_right _ (by omega)
      omega
   ·cases h
  ·cases h
 ·rename_i cs sz len cap
  split at h
  ·rename_i hsz
   split at h
   ·rename_i l hh c hb
    split at h
    ·rename_i cs' hcs
     simp only [Au, Option.some.injEq, Prod.mk.injEq] at h;obtain ⟨rfl, rfl⟩ := h;refine ⟨rfl, ?_⟩;unfold R at hx;obtain ⟨ado, k, rfl, q2, q3, q4, q0, q567⟩ := hx;obtain ⟨m, b1, b2, b3, b4, b5, _⟩ := Gp (P := P) (cap := 0) q2 q3 h1 h2 h3 hb true
     have hs : sz = ei.size := by rw [← e4]; exact Nat.eq_of_beq_eq_true hsz
     obtain ⟨t1, t2⟩ := Gm hcs
     obtain _ | ad := ado
     ·have hk0 := q0 rfl
      have : m = l /\ hh - l = 0 /\ m - l = 0 := by omega
      refine ⟨.slice none (hh - l) (m - l), ?_, ?_⟩
      ·unfold Instr.sliceAt;simp only [Sem.run_bind, Af hu, Result.andThen_ok];unfold Instr.slice;simp only [Sem.run_bind, Af hu, Result.andThen_ok, b1, Bh e1, Sem.run_pure, Option.map_none]
       split <;> rfl
      ·unfold R
       exact ⟨none, m - l, rfl, by omega, b5, t2, fun _ => this.2.2, fun ad ha => by cases ha⟩
     obtain ⟨q5, q6, q7⟩ := q567 ad rfl;refine ⟨.slice (if m = l then some ad else some (ad.add (l * ei.size))) (hh - l) (m - l), ?_, ?_⟩
     ·unfold Instr.sliceAt;simp only [Sem.run_bind, Af hu, Result.andThen_ok];unfold Instr.slice;simp only [Sem.run_bind, Af hu, Result.andThen_ok, b1, Bh e1, Sem.run_pure, Option.map_some]
     ·have hne : cs' ≠ [] -> ¬ m = l := fun hne hml => by
       apply hne
       have : hh - l = 0 := by omega
       rw [this] at t2; simp at t2; exact t2
      unfold R
      refine ⟨some (if m = l then ad else ad.add (l * ei.size)), m - l, by split <;> rfl, by omega, b5, t2, fun hh => (by cases hh), fun ad' ha => ?_⟩
      cases ha;refine ⟨fun hpos => ?_, fun hne' => ?_, ?_⟩
      ·rw [if_neg (by omega)]
       have := q5 (by omega)
       obtain ⟨b, o, sp⟩ := ad;simp only at this; subst this;rw [Fo]
      ·have hcs0 : cs ≠ [] := fun h0 => by
        apply hne'; rw [t1, h0]; simp
       rw [if_neg (hne hne')]
       have hlen : 0 < k := by
        rcases Nat.eq_zero_or_pos k with h0 | h0
        ·exfalso; apply hne'; have : hh - l = 0 := by omega
         rw [this] at t2; simpa using t2
        ·exact h0
       have := q5 hlen;obtain ⟨b, o, sp⟩ := ad;simp only at this; subst this;rw [Fo];exact q6 hcs0
      ·by_cases hne' : cs' = []
       ·rw [hne']; unfold RC; trivial
       ·rw [if_neg (hne hne')]
        have hlen : 0 < k := by
         rcases Nat.eq_zero_or_pos k with h0 | h0
         ·exfalso; apply hne'; have : hh - l = 0 := by omega
          rw [this] at t2; simpa using t2
         ·exact h0
        have := q5 hlen;obtain ⟨b, o, sp⟩ := ad;simp only at this; subst this;rw [Fo, ← hs];exact (q7.drop (l * sz)).take _ hcs
    ·cases h
   ·cases h
  ·cases h
 ·split at h
  ·rename_i b hb
   cases h;refine ⟨rfl, ?_⟩;obtain ⟨l, hh, c⟩ := b;unfold R at hx;obtain ⟨rfl, hn⟩ := hx
   obtain ⟨m, b1, b2, b3, b4, b5, _⟩ := Gp (P := P) (cap := 0) (k := 0) nl (fun q hq => by cases hq; rfl) h1 h2 h3 hb true
   have : hh - l = 0 /\ m - l = 0 := by omega
   refine ⟨.slice none 0 0, ?_, by unfold R; exact ⟨rfl, hn⟩⟩
   unfold Instr.sliceAt;simp only [Sem.run_bind, Af hu, Result.andThen_ok];unfold Instr.slice;simp only [Sem.run_bind, Af hu, Result.andThen_ok, b1, Bh e1, Sem.run_pure, Option.map_none, this.1, this.2]
   split <;> rfl
  ·cases h
 ·cases h
theorem Vs (s : ByteArray) (l h : Nat) : Ca (s.extract l h) = ((Ca s).take h).drop l := by
 unfold Ca;rw [List.drop_take]
 simp [ByteArray.data_extract, List.map_take, List.map_drop]
theorem Vt {σ σ' : Sto} {t : TypeId} {ti : TI} (hti : Bi P t = some ti) (hd : ti.desc = .string) {x : AV} {X : Value} (hx : R C N w x X) {lo hi : Option AV} {LO HI : Option Value}
  (h1 : RO C N w lo LO) (h2 : RO C N w hi HI) {v : AV} (h : Js x lo hi σ = some (v, σ')) : σ' = σ /\ Dg P C N w (Instr.sliceAt t X LO HI none) v := by
 obtain ⟨_, d, _, g2, g3, _⟩ := Az hti
 have hu := g2.trans (by rw [← g3, hd])
 unfold Js at h
 split at h
 ·rename_i l
  split at h
  ·rename_i a b c hb
   cases h;refine ⟨rfl, ?_⟩;unfold R at hx;obtain ⟨s, rfl, rfl⟩ := hx
   obtain ⟨m, b1, b2, b3, b4, b5, _⟩ := Gp (P := P) (cap := 0) (k := (Ca s).length) nl (fun q hq => by cases hq; rfl) h1 h2 (show RO C N w none none by unfold RO; trivial) hb false
   rw [Ev] at b1
   refine ⟨.string (s.extract a b), ?_, by unfold R; exact ⟨_, rfl, Vs s a b⟩⟩
   unfold Instr.sliceAt;simp only [Sem.run_bind, Af hu, Result.andThen_ok];unfold Instr.slice;simp only [Sem.run_bind, Af hu, Result.andThen_ok, Option.isSome_none, Bool.false_eq_true, if_false, b1, Sem.run_pure]
  ·cases h
 ·cases h
theorem W9 {σ σ' : Sto} {i : Nat} {x : AV} {X : Value} (hx : R C N w x X) {v : AV} (h : Lu i x σ = some (v, σ')) : σ' = σ /\ Dg P C N w (Instr.extract X i) v := by
 unfold Lu at h
 split at h
 ·split at h
  ·rename_i vs u hu
   cases h;unfold R at hx;obtain ⟨a, rfl, q⟩ := hx;obtain ⟨z, k1, k2⟩ := q.get i _ hu
   have : a[i]? = some z := by simpa using k1
   exact ⟨rfl, z, by simp [Instr.extract, this], k2⟩
  ·cases h
 ·cases h
theorem Vu {σ σ' : Sto} {x : AV} {X : Value} (hx : R C N w x X) {v : AV} (h : Jr x σ = some (v, σ')) (dst : Option Tmp) (o : Operand) (ρ : Operand -> Value) (hρ : ρ o = X) (ty : TypeId) (pos : String) (after : Array Edge) (g : Option (Nat × Bool)) :
  σ' = σ /\ (execOp ρ ⟨dst, .nilCheck o, ty, pos, after, g⟩).run P w = .ok (.value X) w /\ R C N w v X := by
 unfold Jr at h
 split at h
 ·cases h;refine ⟨rfl, ?_, hx⟩;unfold R at hx;obtain ⟨ad, rfl, _⟩ := hx
  simp [execOp, hρ]
 ·cases h;refine ⟨rfl, ?_, hx⟩;unfold R at hx;obtain ⟨c, o', rfl, _⟩ := hx
  simp [execOp, hρ]
 ·cases h;refine ⟨rfl, ?_, hx⟩;unfold R at hx;obtain ⟨a, b, rfl, _⟩ := hx
  simp [execOp, hρ]
 ·cases h
theorem Vv {σ σ' : Sto} {t e : TypeId} {n : Nat} {ti te : TI} (hti : Bi P t = some ti) (hd : ti.desc = .array n e) (hte : Bi P e = some te) {x : AV} {X : Value} (hx : R C N w x X) (hsim : ∀ a vs, σ.get a = some (.cells vs) -> vs ≠ [] -> ∃ c o, C.loc a = some (c, o) /\ o + vs.length <= csize w c)
  {lo hi mx : Option AV} {LO HI MX : Option Value}
  (h1 : RO C N w lo LO) (h2 : RO C N w hi HI) (h3 : RO C N w mx MX) {v : AV} (h : Oy n te.size x lo hi mx σ = some (v, σ')) : σ' = σ /\ Dg P C N w (Instr.sliceAt t X LO HI MX) v := by
 obtain ⟨_, d, _, g2, g3, _⟩ := Az hti;obtain ⟨ei, _, e1, _, _, e4, _⟩ := Az hte
 have hu := g2.trans (by rw [← g3, hd])
 unfold Oy at h
 split at h
 ·rename_i a off
  split at h
  ·rename_i vs hvs
   split at h
   ·rename_i hroom
    split at h
    ·rename_i l hh c hb
     simp only [Au, Option.some.injEq, Prod.mk.injEq] at h;obtain ⟨rfl, rfl⟩ := h;refine ⟨rfl, ?_⟩;unfold R at hx;obtain ⟨ad, rfl, q1, q4⟩ := hx
     obtain ⟨m, b1, b2, b3, b4, b5, _⟩ := Gp (P := P) (cap := 0) (k := n) nl (fun q hq => by cases hq; rfl) h1 h2 h3 hb false
     refine ⟨.slice (some (if m = l then ad else ad.add (l * ei.size))) (hh - l) (m - l), ?_, ?_⟩
     ·unfold Instr.sliceAt;simp only [Sem.run_bind, Af hu, Result.andThen_ok, Instr.sureAddr, b1, Bh e1, Sem.run_pure]
     ·unfold R
      refine ⟨_, m - l, rfl, q1, by omega, b5, fun c' o hc => ⟨fun hpos => ?_, ?_⟩⟩
      ·rw [if_neg (by omega), q4 c' o hc, Fo, e4]; congr 1; omega
      ·unfold Sto.cells at hvs
       split at hvs
       ·rename_i vs' hg
        cases hvs;rw [Bool.and_eq_true] at hroom;obtain ⟨hne, hroom⟩ := hroom
        obtain ⟨c2, o2, k1, k2⟩ := hsim a _ hg (fun h0 => by rw [h0] at hne; cases hne)
        rw [hc] at k1; cases k1;have hr := Nat.le_of_ble_eq_true hroom
        have : (m - l) * te.size + l * te.size <= n * te.size := by rw [← Nat.add_mul]; exact Nat.mul_le_mul_right _ (by omega)
        omega
       ·cases hvs
    ·cases h
   ·cases h
  ·cases h
 ·cases h
theorem RC.room : ∀ {vs : List AV} {c o : Nat}, RC C N w c vs o -> vs ≠ [] -> o + vs.length <= csize w c
 | [x], c, o, h, _ => by
  unfold RC at h;obtain ⟨⟨v, h1, _⟩, _⟩ := h;unfold World.cell? at h1;unfold csize
  split at h1
  ·rename_i cs _ _ heq
   simp only [heq];simp only [Option.isSome_none, Bool.false_eq_true, if_false] at h1;have := (Array.getElem?_eq_some_iff.1 h1).1;simp only [List.length_singleton];omega
  ·cases h1
 | x :: y :: r, c, o, h, _ => by
  unfold RC at h
  have := RC.room h.2 (by simp)
  simp only [List.length_cons] at *;omega
theorem Zk {σ σ' : Sto} {t xt : TypeId} {ti : TI} (hti : Bi P t = some ti) (hd : ∀ m, ti.desc ≠ .interface m) {ok : Bool} {x : AV} {X : Value} (hx : R C N w x X) {v : AV} (h : Sj t (I4 ti) ok x σ = some (v, σ')) :
  σ' = σ /\ Dg P C N w (Instr.typeAssert X xt t ok) v := by
 obtain ⟨i, d, g1, g2, g3, g4, _, g6, g7⟩ := Az hti
 have hnd : ∀ m, d ≠ .interface m := fun m => by rw [← g3]; exact hd m
 have fails : ok = true -> ∀ z, I4 ti = some z -> (∃ u y, X = .iface u y /\ u ≠ t) ∨ X = .nilIface -> Dg P C N w (Instr.typeAssert X xt t ok) (.tup [z, .bool false]) := by
  intro hok z hz hX;subst hok;obtain ⟨Z, q1, q2⟩ := Mi (P := P) (C := C) (N := N) (w := w) hti hz
  refine ⟨.tuple #[Z, .bool false], ?_, by unfold R; exact ⟨_, rfl, by unfold RL; exact ⟨q2, by unfold RL; exact ⟨by unfold R; rfl, by unfold RL; trivial⟩⟩⟩⟩
  unfold Instr.typeAssert;simp only [Sem.run_bind, Af g2, Result.andThen_ok]
  rcases hX with ⟨u, y, rfl, hne⟩ | rfl
  ·cases d <;> first | (exact absurd rfl (hnd _)) | simp [hne, q1]
  ·cases d <;> first | (exact absurd rfl (hnd _)) | simp [q1]
 unfold Sj at h
 split at h
 ·rename_i t' y
  unfold R at hx;obtain ⟨Y, rfl, hy⟩ := hx
  split at h
  ·rename_i ht
   have ht := Nat.eq_of_beq_eq_true ht;subst ht;cases h;refine ⟨rfl, ?_⟩;cases ok
   ·refine ⟨Y, ?_, hy⟩;unfold Instr.typeAssert;simp only [Sem.run_bind, Af g2, Result.andThen_ok]
    cases d <;> first | (exact absurd rfl (hnd _)) | simp
   ·refine ⟨.tuple #[Y, .bool true], ?_, by simp only [Si]; unfold R; exact ⟨_, rfl, by unfold RL; exact ⟨hy, by unfold RL; exact ⟨by unfold R; rfl, by unfold RL; trivial⟩⟩⟩⟩
    unfold Instr.typeAssert;simp only [Sem.run_bind, Af g2, Result.andThen_ok]
    cases d <;> first | (exact absurd rfl (hnd _)) | simp
  ·rename_i ht
   split at h
   ·rename_i z hz
    cases h
    exact ⟨rfl, fails rfl z hz (.inl ⟨t', Y, rfl, fun he => by rw [he] at ht; simp at ht⟩)⟩
   ·cases h
 ·unfold R at hx;obtain ⟨rfl, _⟩ := hx
  split at h
  ·rename_i z hz
   cases h;exact ⟨rfl, fails rfl z hz (.inr rfl)⟩
  ·cases h
 ·cases h
end
section
variable {P : Program} {C C' : Ctx} {N N' : Nat} {w w' : World}
theorem RL.of_get : ∀ {l : List AV} {vs : List Value}, l.length = vs.length -> (∀ (i : Nat) (x : AV), l[i]? = some x -> ∃ v, vs[i]? = some v /\ R C N w x v) -> RL C N w l vs
 | [], [], _, _ => by unfold RL; trivial
 | x :: r, v :: s, hl, h => by
  unfold RL;obtain ⟨v', h1, h2⟩ := h 0 x rfl
  simp at h1; subst h1
  exact ⟨h2, RL.of_get (by simpa using hl) fun i y hy => by have := h (i + 1) y (by simpa using hy); simpa using this⟩
 | [], _ :: _, hl, _ => by simp at hl
 | _ :: _, [], hl, _ => by simp at hl
theorem RC.of_get : ∀ {cs : List AV} {c o : Nat}, (∀ (i : Nat) (x : AV), cs[i]? = some x -> ∃ v, w.cell? ⟨c, o + i, none⟩ = some v /\ v.oneCell = true /\ R C N w x v) -> RC C N w c cs o
 | [], _, _, _ => by unfold RC; trivial
 | x :: r, c, o, h => by
  unfold RC
  exact ⟨h 0 x rfl, RC.of_get fun i y hy => by have := h (i + 1) y (by simpa using hy); rwa [show o + 1 + i = o + (i + 1) by omega]⟩
theorem Mj : ∀ {l : List AV} {off : Nat} {xs l' : List AV}, setAt l off xs = some l' ->
  l'.length = l.length /\ off + xs.length <= l.length /\ ∀ j : Nat, l'[j]? = if off <= j /\ j < off + xs.length then xs[j - off]? else l[j]?
 | l, 0, [], l', h => by
  have : l = l' := by cases l <;> simpa [setAt] using h
  subst this
  exact ⟨rfl, by simp, fun j => by rw [if_neg (by simp)]⟩
 | y :: r, 0, x :: xs, l', h => by
  simp only [setAt] at h
  split at h
  ·rename_i m hm
   cases h;obtain ⟨h1, h2, h3⟩ := Mj hm
   refine ⟨by simp [h1], by simp at h2 ⊢; omega, fun j => ?_⟩
   cases j with
   | zero => rw [if_pos (by simp)]; rfl
   | succ j =>
    have := h3 j;simp only [List.getElem?_cons_succ, this];simp only [List.length_cons]
    by_cases hj : j < xs.length
    ·rw [if_pos (by omega), if_pos (by omega)]; simp
    ·rw [if_neg (by omega), if_neg (by omega)]
  ·cases h
 | y :: r, k + 1, xs, l', h => by
  have h' : ∃ m, setAt r k xs = some m /\ y :: m = l' := by
   cases xs with
   | nil =>
    simp only [setAt] at h;cases hm : setAt r k [] with
    | none => rw [hm] at h; cases h
    | some m => rw [hm] at h; simp only [Option.some.injEq] at h; exact ⟨m, rfl, h⟩
   | cons x xs =>
    simp only [setAt] at h;cases hm : setAt r k (x :: xs) with
    | none => rw [hm] at h; cases h
    | some m => rw [hm] at h; simp only [Option.some.injEq] at h; exact ⟨m, rfl, h⟩
  obtain ⟨m, hm, he⟩ := h';subst he
  ·obtain ⟨h1, h2, h3⟩ := Mj hm
   refine ⟨by simp [h1], by simp; omega, fun j => ?_⟩
   cases j with
   | zero => rw [if_neg (by omega)]; rfl
   | succ j =>
    simp only [List.getElem?_cons_succ, h3 j]
    by_cases hj : k <= j /\ j < k + xs.length
    ·rw [if_pos hj, if_pos (by omega), show j + 1 - (k + 1) = j - k by omega]
    ·rw [if_neg hj, if_neg (by omega)]
 | [], 0, x :: xs, l', h => by simp [setAt] at h
 | [], k + 1, xs, l', h => by cases xs <;> simp [setAt] at h
theorem RL.set {l xs l' : List AV} {off : Nat} {cs : Array Value} {vs : List Value} (h : RL C N w l cs.toList) (hx : RL C N w xs vs) (hs : setAt l off xs = some l') : RL C N w l' (T6 cs off vs).toList /\ off + vs.length <= cs.size := by
 obtain ⟨h1, h2, h3⟩ := Mj hs;have hl := h.length;have hxl := hx.length
 have hle : off + vs.length <= cs.size := by rw [← hxl]; simp at hl; omega
 refine ⟨RL.of_get (by rw [h1, hl]; simp [Lv]) fun i x hi => ?_, hle⟩
 rw [h3 i] at hi;rw [Array.getElem?_toList, Nq vs cs off hle]
 by_cases hc : off <= i /\ i < off + xs.length
 ·rw [if_pos hc] at hi
  rw [if_pos (by omega)]
  exact hx.get _ x hi
 ·rw [if_neg hc] at hi
  rw [if_neg (by omega), ← Array.getElem?_toList]
  exact h.get i x hi
theorem Aln {vs : List Value} {cs : Array Value} {off : Nat} (h : ∀ x ∈ cs.toList, x.oneCell = true) (hv : ∀ x ∈ vs, x.oneCell = true) (hle : off + vs.length <= cs.size) : ∀ x ∈ (T6 cs off vs).toList, x.oneCell = true := by
 intro x hx;obtain ⟨i, hi⟩ := List.mem_iff_getElem?.1 hx;rw [Array.getElem?_toList, Nq vs cs off hle] at hi
 split at hi
 ·exact hv x (List.mem_of_getElem? hi)
 ·exact h x (by rw [← Array.getElem?_toList] at hi; exact List.mem_of_getElem? hi)
theorem Aga (l : List Value) : ∀ (off k : Nat) (cs : Array Value), ((l.zipIdx k).foldl (fun cs (x : Value × Nat) => cs.setIfInBounds (off + x.2) x.1) cs) = T6 cs (off + k) l := by
 induction l with
 | nil => intro off k cs; rfl
 | cons v r ih =>
  intro off k cs;simp only [List.zipIdx_cons, List.foldl_cons, T6];rw [ih off (k + 1)]
  rfl
def K0 (C : Ctx) (N : Nat) (w : World) (place : Nat -> Option (Nat × Nat)) : List (Nat × Nat × AV) -> List (Nat × Value) -> Prop
 | [], [] => True
 | x :: r, p :: s => (place p.1 = some (x.1, x.2.1) /\ R C N w x.2.2 p.2) /\ K0 C N w place r s
 | _, _ => False
theorem Mk {place : Nat -> Option (Nat × Nat)} : ∀ {ps : List (Nat × Nat × AV)} {vs : List (Nat × Value)} {l l' : List AV} {cs : Array Value}, K0 C N w place ps vs -> RL C N w l cs.toList -> (∀ x ∈ cs.toList, x.oneCell = true) -> R7 l ps = some l' ->
  ∃ cs', Instr.fill place cs vs = some cs' /\ RL C N w l' cs'.toList /\ (∀ x ∈ cs'.toList, x.oneCell = true) /\ cs'.size = cs.size
 | [], [], l, l', cs, _, h1, h2, h => by
  simp only [R7, Option.some.injEq] at h; subst h;exact ⟨cs, rfl, h1, h2, rfl⟩
 | x :: r, p :: s, l, l', cs, hp, h1, h2, h => by
  obtain ⟨off, size, v⟩ := x;obtain ⟨i, V⟩ := p;unfold K0 at hp;obtain ⟨⟨hp1, hp2⟩, hp3⟩ := hp;simp only [R7] at h
  split at h
  ·rename_i m hm
   split at h
   ·rename_i l1 hl1
    obtain ⟨q1, q2, q3, q4⟩ := Hm hm hp2;obtain ⟨k1, k2⟩ := h1.set q1 hl1;obtain ⟨cs', g1, g2, g3, g4⟩ := Mk hp3 k1 (Aln h2 q4 k2) h
    refine ⟨cs', ?_, g2, g3, by rw [g4, Lv]⟩
    have hsz : V.cells.toList.length = V.cells.size := by simp
    simp only [Instr.fill, hp1]
    rw [if_neg (by simp; exact ⟨q2, by omega⟩)]
    rw [← g1]
    congr 1
    have := Aga V.cells.toList off 0 cs;rw [Nat.add_zero] at this;rw [← this, ← Array.foldl_toList]
    congr 1
    simp
   ·cases h
  ·cases h
 | [], _ :: _, _, _, _, hp, _, _, _ => by unfold K0 at hp; exact hp.elim
 | _ :: _, [], _, _, _, hp, _, _, _ => by unfold K0 at hp; exact hp.elim
end
section
variable {P : Program} {C C' : Ctx} {N N' : Nat} {w w' : World} {σ σ' : Sto}
theorem Ii {c o : Nat} {cs : Array Value} {T : TypeId} {fz : Nat × Nat} (h : w.heap[c]? = some (.cells cs T fz)) : w.cell? ⟨c, o, none⟩ = cs[o]? := by
 unfold World.cell?; simp [h]
theorem E5 {c : Nat} {cs : Array Value} {T : TypeId} {fz : Nat × Nat} (h : w.heap[c]? = some (.cells cs T fz)) : csize w c = cs.size := by
 unfold csize; simp [h]
theorem RC.of_cells {c o : Nat} {cs : Array Value} {T : TypeId} {fz : Nat × Nat} {l : List AV} {vs : List Value} (hh : w.heap[c]? = some (.cells cs T fz)) (h : RL C N w l vs) (h1 : ∀ x ∈ vs, x.oneCell = true)
  (hv : ∀ (i : Nat) (v : Value), vs[i]? = some v -> cs[o + i]? = some v) : RC C N w c l o := by
 refine RC.of_get fun i x hi => ?_
 obtain ⟨v, k1, k2⟩ := h.get i x hi;exact ⟨v, (Ii hh).trans (hv i v k1), h1 v (List.mem_of_getElem? k1), k2⟩
theorem Nv (hs : Sim P C w σ) {cs : Array Value} {T : TypeId} {l : List AV} {vs : List Value} (p : Pu w w' (.cells cs T (0, 0))) (h : RL C (nx σ) w l vs) (h1 : ∀ x ∈ vs, x.oneCell = true)
  (hv : ∀ (i : Nat) (v : Value), vs[i]? = some v -> cs[i]? = some v) :
  Sim P (C.add (nx σ) w.heap.size 0) w' (σ.new (.cells l)) /\ Ext C (nx σ) w (C.add (nx σ) w.heap.size 0) (nx σ + 1) w' := by
 refine hs.new p (.cells l) rfl fun e => ?_
 refine ⟨w.heap.size, 0, cs, T, by simp [Ctx.add], p.here, ?_⟩
 rw [Ap]
 exact RC.of_cells p.here (h.ext e) h1 fun i v hi => by rw [Nat.zero_add]; exact hv i v hi
theorem R.newPtr {c o N : Nat} {a : Nat} (ha : a < N) (hl : C.loc a = some (c, o)) : R C N w (.pr a 0) (.pointer (some ⟨c, o, none⟩)) := by
 unfold R;refine ⟨_, rfl, ha, fun c' o' hc => ?_⟩
 rw [hl] at hc; cases hc; simp
theorem R.newSlice {c o N len k sz : Nat} {a : Nat} {cap : Option Nat} (ha : a < N) (hl : C.loc a = some (c, o)) (h1 : len <= k) (h2 : ∀ q, cap = some q -> k = q) (h3 : o + k * sz <= csize w c) :
  R C N w (.sr a 0 sz len cap) (.slice (some ⟨c, o, none⟩) len k) := by
 unfold R;refine ⟨_, k, rfl, ha, h1, h2, fun c' o' hc => ?_⟩
 rw [hl] at hc; cases hc
 exact ⟨fun _ => by simp, by omega⟩
theorem Ctx.add_loc (C : Ctx) (a c o : Nat) : (C.add a c o).loc a = some (c, o) := by simp [Ctx.add]
theorem Jm (w : World) (O : Obj) : Pu w { w with heap := w.heap.push O } O := Pu.of_push rfl ⟨rfl, rfl⟩
theorem Aol (w : World) (O : Obj) : Pu w { w with heap := w.heap.push O, drawn := w.drawn + 1 } O := Pu.of_push rfl ⟨rfl, rfl⟩
theorem De {t : TypeId} {i : TypeInfo} {z : Value} (h : P.info? t = some i) (hz : i.zero = some z) (w : World) : (zeroValue t).run P w = .ok z w := by
 unfold zeroValue; simp [Cy h, hz]
theorem Ab3 (hs : Sim P C w σ) {t : TypeId} {ti : TI} (hti : Bi P t = some ti) {z : List AV} (hz : ti.zero = some z) {v : AV} (h : Wt z σ = some (v, σ')) : Hl P C w σ (Instr.alloc t true (.tuple #[])) v σ' := by
 obtain ⟨i, d, g1, g2, g3, g4, _, g6, g7⟩ := Az hti;rw [g6] at hz;obtain ⟨Z, q1, q2, q3, _, _⟩ := E6 (C := C) (w := w) (N := nx σ) hz;unfold Wt at h;cases h;have p := Jm w (.cells Z.cells t (0, 0))
 obtain ⟨k1, k2⟩ := Nv hs p q2 q3 (fun i v hi => by rwa [Array.getElem?_toList] at hi)
 refine ⟨_, _, _, _, ?_, rfl, k1, by rw [Ap]; exact k2, by rw [Ap]; exact R.newPtr (Nat.lt_succ_self _) (Ctx.add_loc ..)⟩
 unfold Instr.alloc
 simp [De g1 q1, newVar, newRow]
theorem Agb (hs : Sim P C w σ) {t : TypeId} {n : Nat} {x : AV} {X : Value} (hx : R C (nx σ) w x X) {v : AV} (h : sBox n x σ = some (v, σ')) : Hl P C w σ (Instr.box t X) v σ' := by
 unfold sBox at h
 split at h
 ·rename_i cs hcs
  cases h;obtain ⟨q1, q2, q3, q4⟩ := Hm hcs hx;have p := Jm w (.cells X.cells t (0, 0))
  obtain ⟨k1, k2⟩ := Nv hs p q1 q4 (fun i v hi => by rwa [Array.getElem?_toList] at hi)
  refine ⟨_, _, _, _, ?_, rfl, k1, by rw [Ap]; exact k2, by rw [Ap]; exact R.newPtr (Nat.lt_succ_self _) (Ctx.add_loc ..)⟩
  unfold Instr.box
  simp [newVar, newRow]
 ·cases h
theorem Ml (z : List AV) : ∀ n, (rep z n).length = n * z.length
 | 0 => by simp [rep]
 | n + 1 => by simp [rep, Ml z n, Nat.succ_mul]; omega
theorem Ah8 (z : List AV) (hz : 0 < z.length) : ∀ (n i : Nat) (x : AV), (rep z n)[i]? = some x -> z[i % z.length]? = some x
 | 0, i, x, h => by simp [rep] at h
 | n + 1, i, x, h => by
  simp only [rep] at h
  by_cases hi : i < z.length
  ·rw [List.getElem?_append_left hi] at h;rw [Nat.mod_eq_of_lt hi]; exact h
  ·rw [List.getElem?_append_right (by omega)] at h
   have := Ah8 z hz n _ x h
   rw [Nat.mod_eq_sub_mod (by omega)]; exact this
theorem RL.rep {z : List AV} {zc : Array Value} (h : RL C N w z zc.toList) (n : Nat) : RL C N w (rep z n) ((Array.range (n * zc.size)).map (zc[· % zc.size]!)).toList := by
 have hl := h.length
 have hl' : z.length = zc.size := by simpa using hl
 refine RL.of_get (by rw [Ml]; simp [hl']) fun i x hi => ?_
 have hb := (List.getElem?_eq_some_iff.1 hi).1;rw [Ml] at hb
 have hz : 0 < z.length := by
  rcases Nat.eq_zero_or_pos z.length with h0 | h0
  ·rw [h0] at hb; omega
  ·exact h0
 obtain ⟨v, k1, k2⟩ := h.get _ _ (Ah8 z hz n i x hi);refine ⟨v, ?_, k2⟩;rw [hl'] at k1 hb
 have k1' : zc[i % zc.size]? = some v := by simpa using k1
 simp only [Array.toList_map, List.getElem?_map, Array.getElem?_toList, Array.getElem?_range]
 simp [hb, getElem!_def, k1']
theorem K3 {zc : Array Value} (h : ∀ x ∈ zc.toList, x.oneCell = true) (n : Nat) : ∀ x ∈ ((Array.range (n * zc.size)).map (zc[· % zc.size]!)).toList, x.oneCell = true := by
 intro x hx;simp only [Array.toList_map, List.mem_map] at hx;obtain ⟨i, h1, rfl⟩ := hx
 have hi : i < n * zc.size := by simpa using h1
 have hz : 0 < zc.size := by
  rcases Nat.eq_zero_or_pos zc.size with h0 | h0
  ·rw [h0] at hi; omega
  ·exact h0
 have hm : i % zc.size < zc.size := Nat.mod_lt _ hz;rw [getElem!_pos zc _ hm]
 exact h _ (by simp)
end
section
variable {P : Program} {C C' : Ctx} {N N' : Nat} {w w' : World} {σ σ' : Sto}
theorem Mm : ∀ {fs : List Field}, Ox P fs = true -> ∃ places, fs.mapM (fun f => (P.info? f.type).map fun i => (f.offset, i.size)) = some places /\
  ∀ (i : Nat) (f : Field), fs[i]? = some f -> ∃ fi, P.info? f.type = some fi /\ places[i]? = some (f.offset, fi.size)
 | [], _ => ⟨[], by simp, fun i f h => by simp at h⟩
 | f :: r, h => by
  simp only [Ox] at h
  split at h
  ·rename_i fi hfi
   obtain ⟨pl, h1, h2⟩ := Mm h
   refine ⟨(f.offset, fi.size) :: pl, by simp [List.mapM_cons, hfi, h1], fun i g hg => ?_⟩
   cases i with
   | zero => simp at hg; subst hg; exact ⟨fi, hfi, rfl⟩
   | succ i => obtain ⟨gi, k1, k2⟩ := h2 i g (by simpa using hg); exact ⟨gi, k1, by simpa using k2⟩
  ·cases h
theorem Qi {E : Env} {tm : Tr AV} {a : Act} (hE : E.P = P) (hg : Fv C N w E) (ht : TR C N w tm a.tmps) {fs : List Field} {place : Nat -> Option (Nat × Nat)}
  (hp : ∀ (i : Nat) (f : Field), fs[i]? = some f -> ∃ fi, P.info? f.type = some fi /\ place i = some (f.offset, fi.size)) :
  ∀ {parts : List (Nat × Operand)} {ps : List (Nat × Nat × AV)}, Iq P E tm fs parts = some ps -> K0 C N w place ps (parts.map fun (i, x) => (i, a.eval x))
 | [], ps, h => by simp only [Iq, Option.some.injEq] at h; subst h; simp only [List.map_nil]; unfold K0; trivial
 | (i, x) :: r, ps, h => by
  simp only [Iq] at h
  split at h
  ·rename_i f l hf hl
   split at h
   ·rename_i ti hti
    cases h;obtain ⟨fi, d, g1, _, _, g4, _⟩ := Az hti;obtain ⟨fi', k1, k2⟩ := hp i f hf;rw [g1] at k1; cases k1;simp only [List.map_cons];unfold K0
    exact ⟨⟨by rw [k2, g4], B4 hg ht x⟩, Qi hE hg ht hp hl⟩
   ·cases h
  ·cases h
theorem Li {E : Env} {tm : Tr AV} {a : Act} (hg : Fv C N w E) (ht : TR C N w tm a.tmps) (size : Nat) :
  ∀ (parts : List (Nat × Operand)), K0 C N w (fun i => some (i * size, size)) (Hj E tm size parts) (parts.map fun (i, x) => (i, a.eval x))
 | [] => by simp only [Hj, List.map_nil]; unfold K0; trivial
 | (i, x) :: r => by
  simp only [Hj, List.map_cons];unfold K0;exact ⟨⟨rfl, B4 hg ht x⟩, Li hg ht size r⟩
theorem Sw {t : TypeId} {ti : TI} (hti : Bi P t = some ti) {fs : Array Field} (hd : ti.desc = .struct fs) {z : List AV} (hz : ti.zero = some z) (hi : Ox P fs.toList = true)
  {ps : List (Nat × Nat × AV)} {parts : Array (Nat × Value)} {place : Nat -> Option (Nat × Nat)}
  (hplace : ∀ places, fs.toList.mapM (fun f => (P.info? f.type).map fun i => (f.offset, i.size)) = some places -> place = (places.toArray[·]?))
  (hp : K0 C N w place ps parts.toList) {v : AV} (h : Lh z ps σ = some (v, σ')) : σ' = σ /\ Dg P C N w (Instr.build t parts) v := by
 obtain ⟨i, d, g1, g2, g3, g4, _, g6, g7⟩ := Az hti;rw [g6] at hz;obtain ⟨Z, q1, q2, q3, _, _⟩ := E6 (C := C) (w := w) (N := N) hz;obtain ⟨pl, h1, _⟩ := Mm hi
 have hu := g2.trans (by rw [← g3, hd])
 unfold Lh at h
 split at h
 ·rename_i cs hcs
  cases h;obtain ⟨cs', k1, k2, k3, _⟩ := Mk hp q2 q3 hcs
  refine ⟨rfl, .agg cs', ?_, by unfold R; exact ⟨_, rfl, k2, k3⟩⟩
  rw [hplace pl h1] at k1;refine run_build w t parts cs' ?_;unfold Program.built;simp only [g1, hu, q1, h1];exact k1
 ·cases h
theorem Xa {t e : TypeId} {n : Nat} {ti te : TI} (hti : Bi P t = some ti) (hd : ti.desc = .array n e) (hte : Bi P e = some te) {z : List AV} (hz : ti.zero = some z)
  {ps : List (Nat × Nat × AV)} {parts : Array (Nat × Value)}
  (hp : K0 C N w (fun i => some (i * te.size, te.size)) ps parts.toList) {v : AV} (h : Lh z ps σ = some (v, σ')) : σ' = σ /\ Dg P C N w (Instr.build t parts) v := by
 obtain ⟨i, d, g1, g2, g3, g4, _, g6, g7⟩ := Az hti;obtain ⟨ei, _, e1, _, _, e4, _⟩ := Az hte;rw [g6] at hz;obtain ⟨Z, q1, q2, q3, _, _⟩ := E6 (C := C) (w := w) (N := N) hz
 have hu := g2.trans (by rw [← g3, hd])
 unfold Lh at h
 split at h
 ·rename_i cs hcs
  cases h;obtain ⟨cs', k1, k2, k3, _⟩ := Mk hp q2 q3 hcs
  refine ⟨rfl, .agg cs', ?_, by unfold R; exact ⟨_, rfl, k2, k3⟩⟩
  unfold Instr.build;simp only [Sem.run_bind, De g1 q1, Result.andThen_ok, Af hu, Bh e1];rw [e4] at k1;simp only [k1, Sem.run_pure]
 ·cases h
theorem Z7 {e : TypeId} {ei : TypeInfo} {Z : Value} (h : P.info? e = some ei) (hz : ei.zero = some Z) (hsz : Z.cells.size = ei.size) (n : Nat) :
  ∃ zc, (∀ {α : Type} (K : Array Value -> Sem α), (if n * ei.size = 0 then do let zero ← pure #[]; K zero else do let l ← zeroValue e; let zero ← pure l.cells; K zero).run P w = (K zc).run P w) /\
   (Array.range (n * ei.size)).map (zc[· % zc.size]!) = (Array.range (n * Z.cells.size)).map (Z.cells[· % Z.cells.size]!) := by
 by_cases h0 : n * ei.size = 0
 ·refine ⟨#[], fun K => by rw [if_pos h0]; simp, ?_⟩
  rw [hsz, h0]; simp
 ·refine ⟨Z.cells, fun K => by rw [if_neg h0]; simp [De h hz], by rw [hsz]⟩
theorem Sx (hs : Sim P C w σ) {t e : TypeId} {len : Nat} {ti te : TI} (hti : Bi P t = some ti) (hd : ti.desc = .slice e) (hte : Bi P e = some te) {z : List AV} (hz : te.zero = some z) (hzl : z.length = te.size)
  (hlim : len * te.size <= 16777216) {byref : Bool} {ps : List (Nat × Nat × AV)} {parts : Array (Nat × Value)}
  (hp : K0 C (nx σ) w (fun i => some (i * te.size, te.size)) ps parts.toList) {v : AV} (h : Hc z te.size len byref ps σ = some (v, σ')) :
  Hl P C w σ (Instr.buildSlice t len parts) v σ' /\ (byref = false -> σ' = σ) := by
 obtain ⟨i, d, g1, g2, g3, g4, _, _, _⟩ := Az hti;obtain ⟨ei, ed, e1, e2, e3, e4, _, e6, e7⟩ := Az hte;rw [e6] at hz;obtain ⟨Z, q1, q2, q3, _, _⟩ := E6 (C := C) (w := w) (N := nx σ) hz
 have hu := g2.trans (by rw [← g3, hd])
 have hZ : Z.cells.size = ei.size := by have := q2.length; simp at this; omega
 obtain ⟨zc, r1, r2⟩ := Z7 (P := P) (w := w) e1 q1 hZ len;unfold Hc at h
 split at h
 ·rename_i cs hcs
  obtain ⟨cs', k1, k2, k3, k4⟩ := Mk hp (q2.rep len) (K3 q3 len) hcs
  have hrun : (Instr.buildSlice t len parts).run P w = .ok (.slice (some ⟨w.heap.size, 0, none⟩) len len) { w with heap := w.heap.push (.cells cs' e) } := by
   unfold Instr.buildSlice;simp only [Sem.run_bind, Result.andThen_ok, Af hu, Bh e1]
   rw [Sem.run_ite, if_neg (by rw [← e4]; omega)]
   rw [r1];simp only [r2];rw [e4] at k1;simp only [k1]
   simp [newRow]
  have p := Jm w (.cells cs' e (0, 0))
  have hsz' : cs'.size = len * te.size := by rw [k4]; simp [hZ, e4]
  cases byref with
  | true =>
   simp only [Option.some.injEq, Prod.mk.injEq] at h;obtain ⟨rfl, rfl⟩ := h
   obtain ⟨s1, s2⟩ := Nv hs p k2 k3 (fun i v hi => by rwa [Array.getElem?_toList] at hi)
   refine ⟨⟨_, _, _, _, hrun, rfl, s1, by rw [Ap]; exact s2, ?_⟩, fun hh => by cases hh⟩
   rw [Ap]
   refine R.newSlice (Nat.lt_succ_self _) (Ctx.add_loc ..) nl (fun q hq => by cases hq; rfl) ?_
   rw [E5 p.here, hsz']; omega
  | false =>
   simp only [Option.some.injEq, Prod.mk.injEq] at h;obtain ⟨rfl, rfl⟩ := h;obtain ⟨s1, s2⟩ := hs.push p;refine ⟨⟨_, _, _, _, hrun, rfl, s1, s2, ?_⟩, fun _ => rfl⟩
   have hl := k2.length;unfold R
   refine ⟨some ⟨w.heap.size, 0, none⟩, len, rfl, nl, fun q hq => by cases hq; rfl, by simp at hl; omega, fun hh => (by cases hh), fun ad ha => ?_⟩
   cases ha;refine ⟨fun _ => rfl, fun _ ho => ?_, ?_⟩
   ·have := hs.own_lt ho; simp at this
   ·exact RC.of_cells p.here (k2.ext s2) k3 fun i v hi => by simpa using hi
 ·cases h
end
section
variable {P : Program} {C C' : Ctx} {N N' : Nat} {w w' : World} {σ σ' : Sto}
theorem Sto.cells_get {a : Nat} {vs : List AV} (h : σ.cells a = some vs) : σ.get a = some (.cells vs) := by
 unfold Sto.cells at h
 split at h
 ·rename_i vs' hg; cases h; exact hg
 ·cases h
theorem Mn (hs : Sim P C w σ) {a off : Nat} {vs vs' l : List AV} {xs : List Value} (hg : σ.get a = some (.cells vs)) (hset : setAt vs off l = some vs') (hl : RL C (nx σ) w l xs) (h1 : ∀ x ∈ xs, x.oneCell = true) :
  ∃ c o w', C.loc a = some (c, o) /\ (storeCells ⟨c, o + off, none⟩ xs).run P w = .ok () w' /\ Sim P C w' (σ.set a (.cells vs')) /\ Ext C (nx σ) w C (nx σ) w' := by
 obtain ⟨c, o, cs, T, k1, k2, k3⟩ := hs.obj a _ hg;obtain ⟨s1, s2, s3⟩ := Mj hset;have hlen := hl.length
 have hroom : xs ≠ [] -> o + off + xs.length <= cs.size := fun hne => by
  have hv : vs ≠ [] := fun h0 => by
   apply hne
   have : l.length = 0 := by rw [h0] at s2; simp only [List.length_nil] at s2; omega
   exact List.eq_nil_of_length_eq_zero (by omega)
  have := k3.room hv;rw [E5 k2] at this; omega
 have hw : ∃ w', (storeCells ⟨c, o + off, none⟩ xs).run P w = .ok () w' /\ Wr w w' c (.cells (T6 cs (o + off) xs) T (0, 0)) := by
  by_cases hx : xs = []
  ·subst hx; exact ⟨w, by simp [storeCells], rfl, k2, fun _ _ => rfl, rfl, rfl⟩
  ·exact J0 xs w c (o + off) 0 cs T k2 h1 (hroom hx)
 obtain ⟨w', r1, r2⟩ := hw;refine ⟨c, o, w', k1, r1, ?_⟩
 refine hs.upd k1 r2 (by rw [E5 r2.here, E5 k2, Lv]) hg (.cells vs') rfl (fun _ _ _ h => by cases h) fun e => ?_
 refine ⟨c, o, _, T, k1, r2.here, ?_⟩;rw [An];refine RC.of_get fun i x hi => ?_
 rw [s3 i] at hi;rw [Ii r2.here]
 by_cases hx : xs = []
 ·subst hx
  simp at hlen
  rw [if_neg (by simp [hlen])] at hi
  obtain ⟨v, q1, q2, q3⟩ := k3.get i x hi;rw [Ii k2] at q1;exact ⟨v, q1, q2, R.ext e _ _ q3⟩
 ·have hr := hroom hx;rw [Nq xs cs (o + off) hr]
  by_cases hc : off <= i /\ i < off + l.length
  ·rw [if_pos hc] at hi
   rw [if_pos (by omega)]
   obtain ⟨v, q1, q2⟩ := hl.get _ x hi
   exact ⟨v, by rw [← q1]; congr 1; omega, h1 v (List.mem_of_getElem? q1), R.ext e _ _ q2⟩
  ·rw [if_neg hc] at hi
   rw [if_neg (by omega)]
   obtain ⟨v, q1, q2, q3⟩ := k3.get i x hi;rw [Ii k2] at q1;exact ⟨v, q1, q2, R.ext e _ _ q3⟩
theorem Ab4 (hs : Sim P C w σ) {t : TypeId} {ti : TI} (hti : Bi P t = some ti) {x v : AV} {X V : Value} (hx : R C (nx σ) w x X) (hv : R C (nx σ) w v V) {u : AV} (h : Abw ti.size x v σ = some (u, σ')) :
  u = Bd /\ ∃ w', (Instr.storeAt t X V).run P w = .ok () w' /\ Sim P C w' σ' /\ Ext C (nx σ) w C (nx σ') w' := by
 obtain ⟨i, d, g1, g2, g3, g4, _⟩ := Az hti;unfold Abw at h
 split at h
 ·rename_i a off l hl
  split at h
  ·rename_i vs hvs
   split at h
   ·rename_i vs' hset
    cases h;obtain ⟨q1, q2, q3, q4⟩ := Hm hl hv;obtain ⟨c, o, w', r1, r2, r3, r4⟩ := Mn hs (Sto.cells_get hvs) hset q1 q4
    refine ⟨rfl, w', ?_, r3, by rw [An]; exact r4⟩
    unfold R at hx;obtain ⟨ad, rfl, _, hl⟩ := hx;rw [hl c o r1];unfold Instr.storeAt storeVar;simp only [Instr.sureAddr, Sem.run_bind, Sem.run_pure, Result.andThen_ok, Bh g1, Sem.run_ite]
    rw [if_neg (by rw [q2, g4]; simp)]
    first | exact r2 | (simp only [Sem.run_bind, Sem.run_pure, Result.andThen_ok]; exact r2)
   ·cases h
  ·cases h
 ·cases h
theorem F9 (z : Array Value) (n : Nat) : Builtin.zeroCells z n = (Array.range (n * z.size)).map (z[· % z.size]!) := rfl
theorem Ab5 (hs : Sim P C w σ) {t e ty : TypeId} {ti te : TI} (hti : Bi P t = some ti) (hd : ti.desc = .slice e) (hte : Bi P e = some te) {z : List AV} (hz : te.zero = some z) (hzl : z.length = te.size)
  {x : AV} {X : Value} (hx : R C (nx σ) w x X) {u : AV} (h : Aby z te.size x σ = some (u, σ')) :
  u = Bd /\ ∃ w', (Builtin.clear_ #[t] ty #[X]).run P w = .ok (.tuple #[]) w' /\ Sim P C w' σ' /\ Ext C (nx σ) w C (nx σ') w' := by
 obtain ⟨i, d, g1, g2, g3, g4, _, _, _⟩ := Az hti;obtain ⟨ei, ed, e1, e2, e3, e4, _, e6, e7⟩ := Az hte;rw [e6] at hz;obtain ⟨Z, q1, q2, q3, _, _⟩ := E6 (C := C) (w := w) (N := nx σ) hz
 have hu := g2.trans (by rw [← g3, hd])
 have hZ : z.length = Z.cells.size := by have := q2.length; simpa using this
 unfold Aby at h
 split at h
 ·rename_i a off sz len cap
  split at h
  ·rename_i vs hsz hvs
   split at h
   ·rename_i vs' hset
    cases h;refine ⟨rfl, ?_⟩;obtain ⟨c, o, w', r1, r2, r3, r4⟩ := Mn (P := P) hs (Sto.cells_get hvs) hset (q2.rep len) (K3 q3 len)
    refine ⟨w', ?_, r3, by rw [An]; exact r4⟩
    unfold R at hx;obtain ⟨ad, k, rfl, _, hk, _, hl⟩ := hx;unfold Builtin.clear_;cases len with
    | zero =>
     have : w' = w := by
      have : ((Array.range (0 * Z.cells.size)).map (Z.cells[· % Z.cells.size]!)).toList = [] := by simp
      rw [this] at r2; simp [storeCells] at r2; exact r2.symm
     subst this
     simp [Af hu]
    | succ n =>
     rw [(hl c o r1).1 (by omega)]
     simp only [Array.toList_map, Array.toList_range] at r2
     simp [Af hu, De e1 q1, F9, r2]
   ·cases h
  ·cases h
 ·cases h;unfold R at hx;obtain ⟨rfl, _⟩ := hx;refine ⟨rfl, w, ?_, hs, Ext.refl _ _ _⟩;unfold Builtin.clear_; simp [Af hu]
 ·cases h;unfold R at hx;obtain ⟨ad, k, rfl, _⟩ := hx;refine ⟨rfl, w, ?_, hs, Ext.refl _ _ _⟩;cases ad <;> (unfold Builtin.clear_; simp [Af hu])
 ·cases h
theorem O7 {c b : Nat} (h : c * (b + 1) <= sizeLim) : c <= sizeLim /\ c * b <= sizeLim := by
 have h1 : c * 1 <= c * (b + 1) := Nat.mul_le_mul_left _ (by omega)
 have h2 : c * b <= c * (b + 1) := Nat.mul_le_mul_left _ (by omega)
 constructor <;> omega
theorem Mo {n : Nat} (h : n <= sizeLim) : IntKind.i64.wrap (Int.ofNat n) = Int.ofNat n :=
 Ns .i64 _ (by simp only [Mb]; rw [Nat.ble_eq]; unfold sizeLim at h; omega)
theorem T9 (hs : Sim P C w σ) {t e : TypeId} {ti te : TI} (hti : Bi P t = some ti) (hd : ti.desc = .slice e) (hte : Bi P e = some te) {z : List AV} (hz : te.zero = some z) (hzl : z.length = te.size)
  {l c : AV} {L K : Value} (hl : R C (nx σ) w l L) (hc : R C (nx σ) w c K) {v : AV} (h : Qx z te.size te.bytes l c σ = some (v, σ')) : Hl P C w σ (Instr.makeSlice t L K) v σ' := by
 obtain ⟨i, d, g1, g2, g3, g4, _, _, _⟩ := Az hti;obtain ⟨ei, ed, e1, e2, e3, e4, e5, e6, e7⟩ := Az hte;rw [e6] at hz;obtain ⟨Z, q1, q2, q3, _, _⟩ := E6 (C := C) (w := w) (N := nx σ) hz
 have hu := g2.trans (by rw [← g3, hd])
 have hZ : Z.cells.size = ei.size := by have := q2.length; simp at this; omega
 unfold Qx at h
 split at h
 ·rename_i n m
  cases hb : (Nat.ble n m && Nat.ble (m * (te.bytes + 1)) sizeLim)
  ·simp [hb] at h
  ·simp only [hb, cond_true, Option.some.injEq, Prod.mk.injEq] at h;obtain ⟨rfl, rfl⟩ := h;simp only [Bool.and_eq_true, Nat.ble_eq] at hb;obtain ⟨hb1, hb2⟩ := hb;obtain ⟨hb3, hb4⟩ := O7 hb2;unfold R at hl hc;subst hl hc;obtain ⟨zc, r1, r2⟩ := Z7 (P := P) (w := w) e1 q1 hZ m;have p := Jm w (.cells ((Array.range (m * Z.cells.size)).map (Z.cells[· % Z.cells.size]!)) e (0, 0))
   obtain ⟨s1, s2⟩ := Nv hs p (q2.rep m) (K3 q3 m) (fun i v hi => by rwa [Array.getElem?_toList] at hi)
   refine ⟨.slice (some ⟨w.heap.size, 0, none⟩) n m, _, _, _, ?_, rfl, s1, by rw [Ap]; exact s2, ?_⟩
   ·unfold Instr.makeSlice;simp only [Sem.run_bind, Result.andThen_ok, Af hu, asInt, asIntOf, Sem.run_pure, Cy e1, Mo hb3, Mo (Nat.le_trans hb1 hb3)]
    have hm : ¬ ((ei.bytes : Int) * (m : Int) > 2 ^ 48) := by
     rw [e5] at hb4
     have h1 : ei.bytes * m <= sizeLim := by rw [Nat.mul_comm]; exact hb4
     have h2 := Int.ofNat_le.2 h1;rw [Int.natCast_mul] at h2
     have h3 : ((sizeLim : Nat) : Int) < 2 ^ 48 := by decide
     generalize (ei.bytes : Int) * (m : Int) = q at *
     generalize (2 : Int) ^ 48 = r at *
     omega
    rw [Sem.run_ite, if_neg]
    ·simp only [Sem.run_bind, run_askRoom, Result.andThen_ok, Bh e1, Int.toNat_natCast, Int.ofNat_eq_natCast, r1];rw [r2]
     simp [newRow]
    ·simp only [Int.ofNat_eq_natCast, Bool.or_eq_true, decide_eq_true_eq, not_or]
     refine ⟨⟨⟨by omega, hm⟩, by omega⟩, by omega⟩
   ·rw [Ap]
    refine R.newSlice (Nat.lt_succ_self _) (Ctx.add_loc ..) hb1 (fun q hq => by cases hq; rfl) ?_
    rw [E5 p.here]
    simp [hZ, e4]
 ·cases h
end
section
variable {P : Program} {C C' : Ctx} {N N' : Nat} {w w' : World} {σ σ' : Sto}
theorem RL.take : ∀ (n : Nat) {l : List AV} {vs : List Value}, RL C N w l vs -> RL C N w (l.take n) (vs.take n)
 | 0, _, _, _ => by simp only [List.take_zero]; unfold RL; trivial
 | n + 1, [], [], _ => by simp only [List.take_nil]; unfold RL; trivial
 | n + 1, x :: r, v :: s, h => by
  unfold RL at h;simp only [List.take_succ_cons]; unfold RL;exact ⟨h.1, RL.take n h.2⟩
 | _ + 1, [], _ :: _, h => by unfold RL at h; exact h.elim
 | _ + 1, _ :: _, [], h => by unfold RL at h; exact h.elim
theorem Agc {t : TypeId} {tf : TI} (htf : Bi P t = some tf) {cs : List AV} {a : Array Value} (q1 : RL C N w cs a.toList) (q2 : ∀ x ∈ a.toList, x.oneCell = true) {off : Nat} {v : AV} (h : Et tf (cs.drop off) = some v) :
  Dg P C N w (part t a off) v := by
 obtain ⟨fi, fd, g1, g2, g3, g4, _, _, g5⟩ := Az htf;unfold Et at h;unfold part Dg;simp only [Sem.run_bind, Ig g2, Result.andThen_ok];rw [← g5];have hd := q1.drop off;cases ha : tf.isAgg
 ·simp only [ha] at h;simp only [Bool.false_eq_true, if_false]
  split at h
  ·rename_i u r he
   cases h
   have : (cs.drop off)[0]? = some v := by rw [he]; rfl
   obtain ⟨x, k1, k2⟩ := hd.get 0 v this
   have : a[off]? = some x := by simpa using k1
   exact ⟨x, by simp [this], k2⟩
  ·cases h
 ·simp only [ha] at h
  split at h
  ·rename_i l hl
   cases h
   refine ⟨.agg (a.extract off (off + fi.size)), by simp [Bh g1], ?_⟩
   obtain ⟨t1, t2⟩ := Gm hl;unfold R;refine ⟨_, rfl, ?_, ?_⟩
   ·have e : (a.extract off (off + fi.size)).toList = (a.toList.drop off).take tf.size := by
     rw [g4]; simp [List.drop_take]
    rw [e, t1];exact hd.take _
   ·intro y hy;refine q2 y ?_
    simp at hy
    have hm : y ∈ (a.toList.drop off).take fi.size := by simpa [List.drop_take] using hy
    exact List.mem_of_mem_drop (List.mem_of_mem_take hm)
  ·cases h
theorem Vw {t e : TypeId} {len : Nat} {ti te : TI} (hti : Bi P t = some ti) (hd : ti.desc = .array len e) (hte : Bi P e = some te) {x i : AV} {X I : Value} (hx : R C N w x X) (hi : R C N w i I) {v : AV}
  (h : Ju te len x i σ = some (v, σ')) : σ' = σ /\ Dg P C N w (Instr.index t X I) v := by
 obtain ⟨_, d, _, h2, h3, _⟩ := Az hti;obtain ⟨ei, _, g1, _, _, g4, _⟩ := Az hte
 have hu := h2.trans (by rw [← h3, hd])
 unfold Ju at h
 split at h
 ·rename_i cs k n
  cases hb : Nat.blt n len
  ·simp [hb] at h
  ·simp only [hb, cond_true] at h
   split at h
   ·rename_i u hu'
    cases h;have hlt : n < len := Nat.le_of_ble_eq_true hb;unfold R at hx hi;subst hi;obtain ⟨a, rfl, q1, q2⟩ := hx;obtain ⟨z, k1, k2⟩ := Agc (P := P) hte q1 q2 hu';refine ⟨rfl, z, ?_, k2⟩;unfold Instr.index;simp only [asIntOf, Sem.run_bind, Sem.run_pure, Result.andThen_ok, Af hu]
    rw [if_pos ⟨by simp, by simpa using hlt⟩]
    rw [g4] at k1
    simp [Bh g1, k1]
   ·cases h
 ·cases h
theorem Uz : ∀ (l : List Nat) (i : Nat), (Hh l)[i]? = (l[i]?).map fun b => .int .u8 (.ofNat b)
 | [], i => by simp [Hh]
 | b :: r, 0 => by simp [Hh]
 | b :: r, i + 1 => by simp [Hh, Uz r i]
theorem Nw (l : List Nat) : (Hh l).length = l.length := by induction l with | nil => rfl | cons b r ih => simp [Hh, ih]
theorem RL.bytes (s : ByteArray) : RL C N w (Hh (Ca s)) ((s.data.map fun b => Value.int .u8 b.toNat).toList) := by
 refine RL.of_get (by rw [Nw]; simp [Ca]) fun i x hi => ?_
 rw [Uz] at hi;unfold Ca at hi;simp only [List.getElem?_map, Option.map_map, Option.map_eq_some_iff] at hi;obtain ⟨b, h1, h2⟩ := hi
 refine ⟨.int .u8 b.toNat, by simp only [Array.toList_map, List.getElem?_map, h1]; rfl, ?_⟩
 rw [← h2]; unfold R; rfl
theorem Qj (s : ByteArray) : ∀ x ∈ (s.data.map fun b => Value.int .u8 b.toNat).toList, x.oneCell = true := by
 intro x hx;simp only [Array.toList_map, List.mem_map] at hx;obtain ⟨b, _, rfl⟩ := hx; rfl
theorem J4 : ∀ (cs : List AV) (c o i : Nat) (acc : Array Value), RC C N w c cs (o + i) ->
  ∃ l, (∀ k, (loadCellsFrom ⟨c, o, none⟩ i cs.length acc).run P { w with drawn := k } = .ok (acc ++ l.toArray) { w with drawn := k }) /\ RL C N w cs l /\ ∀ x ∈ l, x.oneCell = true
 | [], c, o, i, acc, _ => ⟨[], by simp [loadCellsFrom], by unfold RL; trivial, by simp⟩
 | x :: r, c, o, i, acc, h => by
  unfold RC at h;obtain ⟨⟨v, h1, h2, h3⟩, h4⟩ := h;obtain ⟨l, k1, k2, k3⟩ := J4 r c o (i + 1) (acc.push v) h4
  refine ⟨v :: l, fun k => ?_, by unfold RL; exact ⟨h3, k2⟩, by simpa [h2] using k3⟩
  have h1' : World.cell? { w with drawn := k } ⟨c, o + i, none⟩ = some v := h1;simp only [List.length_cons, loadCellsFrom, Sem.run_bind, run_load, Fo, h1', Result.andThen_ok, k1]
  simp
theorem Nx {cs : List AV} {c o : Nat} (h : RC C N w c cs o) :
  ∃ a, (∀ k, (loadCells ⟨c, o, none⟩ cs.length).run P { w with drawn := k } = .ok a { w with drawn := k }) /\ RL C N w cs a.toList /\ ∀ x ∈ a.toList, x.oneCell = true := by
 obtain ⟨l, h1, h2, h3⟩ := J4 (P := P) cs c o 0 #[] h
 exact ⟨l.toArray, by simpa [loadCells] using h1, by simpa using h2, by simpa using h3⟩
theorem Ex (hs : Sim P C w σ) {x : AV} {X : Value} (hx : R C (nx σ) w x X) {sz n m : Nat} (hl : lenA x = some m) (hn : n <= m) {cs : List AV} (h : Gl σ sz x n = some cs) :
  (∀ w', (Builtin.lenOf X).run P w' = .ok m w') /\ ∃ a, (∀ k, (Builtin.firstCells sz n X).run P { w with drawn := k } = .ok a { w with drawn := k }) /\ RL C (nx σ) w cs a.toList /\ (∀ y ∈ a.toList, y.oneCell = true) /\ cs.length = n * sz := by
 unfold Gl at h
 split at h
 ·rename_i b off sz' len cap
  simp only [lenA, Option.some.injEq] at hl; subst hl
  split at h
  ·rename_i vs hvs
   unfold R at hx;obtain ⟨ad, k, rfl, _, hk, _, hloc⟩ := hx;refine ⟨fun _ => rfl, ?_⟩
   have hlen := (Gm h).2
   rcases Nat.eq_zero_or_pos n with h0 | h0
   ·subst h0;rw [Nat.zero_mul] at h hlen ⊢
    simp [D1] at h; subst h
    refine ⟨#[], fun _ => by unfold Builtin.firstCells; rw [Nat.zero_mul]; rfl, by unfold RL; trivial, by simp, rfl⟩
   ·obtain ⟨c, o, cs', T, k1, k2, k3⟩ := hs.obj b _ (Sto.cells_get hvs)
    have e := (hloc c o k1).1 (by omega)
    obtain ⟨a, r1, r2, r3⟩ := Nx (P := P) ((k3.drop off).take _ h);refine ⟨a, ?_, r2, r3, hlen⟩;unfold Builtin.firstCells;rw [e, ← hlen]; exact r1
  ·cases h
 ·rename_i cs' sz' len cap
  simp only [lenA, Option.some.injEq] at hl; subst hl;unfold R at hx;obtain ⟨ado, k, rfl, hk, _, hcl, hnone, hall⟩ := hx;refine ⟨fun _ => rfl, ?_⟩
  have hlen := (Gm h).2
  rcases Nat.eq_zero_or_pos n with h0 | h0
  ·subst h0;rw [Nat.zero_mul] at h hlen ⊢
   simp [D1] at h; subst h
   refine ⟨#[], fun _ => by cases ado <;> (unfold Builtin.firstCells; rw [Nat.zero_mul]; rfl), by unfold RL; trivial, by simp, rfl⟩
  ·obtain _ | ad := ado
   ·have := hnone rfl; omega
   obtain ⟨hsp, hown, hrc⟩ := hall ad rfl
   have e := hsp (by omega)
   obtain ⟨b, o, sp⟩ := ad;simp only at e; subst e;obtain ⟨a, r1, r2, r3⟩ := Nx (P := P) (hrc.take _ h);refine ⟨a, ?_, r2, r3, hlen⟩;unfold Builtin.firstCells;rw [← hlen]; exact r1
 ·simp only [lenA, Option.some.injEq] at hl; subst hl
  split at h
  ·cases h;unfold R at hx;obtain ⟨rfl, _⟩ := hx
   exact ⟨fun _ => rfl, #[], fun _ => rfl, by unfold RL; trivial, by simp, by simp⟩
  ·cases h
 ·rename_i l
  simp only [lenA, Option.some.injEq] at hl; subst hl;unfold R at hx;obtain ⟨s, rfl, rfl⟩ := hx
  split at h
  ·refine ⟨fun _ => by unfold Builtin.lenOf; rw [Ev]; rfl, ?_⟩
   obtain ⟨t1, t2⟩ := Gm h
   have e : ((s.extract 0 n).data.map fun b => Value.int .u8 b.toNat).toList = ((s.data.map fun b => Value.int .u8 b.toNat).toList).take n := by
    simp [ByteArray.data_extract, List.map_take]
   refine ⟨_, fun _ => rfl, by rw [e, t1]; exact (RL.bytes s).take n, Qj _, by omega⟩
  ·cases h
 ·cases h
theorem Sy : ∀ {cs : List AV} {l : List Nat} {vs : List Value}, R9 cs = some l -> RL C N w cs vs -> ∃ bs : List UInt8, vs = bs.map (fun b => Value.int .u8 b.toNat) /\ bs.map UInt8.toNat = l
 | [], l, vs, h, hr => by
  simp only [R9, Option.some.injEq] at h; subst h;cases vs with
  | nil => exact ⟨[], rfl, rfl⟩
  | cons v s => unfold RL at hr; exact hr.elim
 | x :: r, l, vs, h, hr => by
  unfold R9 at h
  split at h
  ·rename_i heq; cases heq
  ·rename_i n r' heq
   cases heq
   split at h
   ·rename_i l' hl'
    cases hb : Nat.blt n 256
    ·simp [hb] at h
    ·simp only [hb, cond_true, Option.some.injEq] at h; subst h;have hlt : n < 256 := Nat.le_of_ble_eq_true hb;cases vs with
     | nil => unfold RL at hr; exact hr.elim
     | cons v s =>
      unfold RL at hr;obtain ⟨bs, k1, k2⟩ := Sy hl' hr.2;have hv := hr.1;unfold R at hv;refine ⟨UInt8.ofNat n :: bs, ?_, ?_⟩
      ·rw [hv, k1]; simp [Nat.mod_eq_of_lt hlt]
      ·simp [k2, Nat.mod_eq_of_lt hlt]
   ·cases h
  ·cases h
end
section
variable {P : Program} {C C' : Ctx} {N N' : Nat} {w w' : World} {σ σ' : Sto}
theorem Xb {s d : TypeId} {ts : TypeDesc} {k : IntKind} (hs : P.underlying s = some ts) (hd : P.underlying d = some (.int k)) {x : AV} {X : Value} (hx : R C N w x X) {v : AV} (h : Se k x σ = some (v, σ')) :
  σ' = σ /\ Dg P C N w (convert s d X) v := by
 unfold Se at h
 split at h
 ·cases h;unfold R at hx; subst hx
  refine ⟨rfl, _, ?_, by rw [Lx]; unfold R; rfl⟩
  unfold convert;simp only [Sem.run_bind, Af hs, Af hd, Result.andThen_ok, Conv.intToInt, Sem.run_pure]
 ·cases h
theorem Xc {s d : TypeId} {ts : TypeDesc} {k : FloatKind} (hs : P.underlying s = some ts) (hd : P.underlying d = some (.float k)) {x : AV} {X : Value} (hx : R C N w x X) {v : AV} (h : Sf k x σ = some (v, σ')) :
  σ' = σ /\ Dg P C N w (convert s d X) v := by
 unfold Sf at h
 split at h
 ·rw [Au] at h;cases h;unfold R at hx; subst hx
  refine ⟨rfl, _, ?_, by unfold R; rfl⟩
  unfold convert;simp only [Sem.run_bind, Af hs, Af hd, Result.andThen_ok, Conv.intToFloat, Sem.run_pure]
 ·cases h
theorem Xd {s d : TypeId} {ts : TypeDesc} (hs : P.underlying s = some ts) (hd : P.underlying d = some .string) {x : AV} {X : Value} (hx : R C N w x X) {v : AV} (h : Sg x σ = some (v, σ')) :
  σ' = σ /\ Dg P C N w (convert s d X) v := by
 unfold Sg at h
 split at h
 ·cases h;refine ⟨rfl, X, ?_, hx⟩;unfold R at hx;obtain ⟨b, rfl, _⟩ := hx;unfold convert;simp only [Sem.run_bind, Af hs, Af hd, Result.andThen_ok, Sem.run_pure]
 ·cases h
theorem Alo {X : Value} {n : Nat} (h : lenA (.nil X) = some n) : X = .slice none 0 0 /\ n = 0 := by
 unfold lenA at h
 split at h
 ·rename_i heq; cases heq
 ·rename_i heq; cases heq
 ·rename_i heq; cases heq; cases h; exact ⟨rfl, rfl⟩
 ·rename_i heq; cases heq
 ·cases h
theorem Xe (f : Value -> ByteArray -> Sem (ForInStep ByteArray)) (hf : ∀ (b : UInt8) (acc : ByteArray), f (.int .u8 b.toNat) acc = pure (ForInStep.yield (acc.push b))) : ∀ (bs : List UInt8) (acc : ByteArray),
  (forIn (bs.map fun b => Value.int .u8 b.toNat) acc f : Sem ByteArray).run P w = .ok ⟨acc.data ++ bs.toArray⟩ w
 | [], acc => by simp
 | b :: r, acc => by
  simp only [List.map_cons, List.forIn_cons, hf, Sem.run_bind, Sem.run_pure, Result.andThen_ok];rw [Xe f hf r]
  congr 1
  congr 1
  simp [ByteArray.push]
theorem Q2 (hs : Sim P C w σ) {s d e : TypeId} (hsu : P.underlying s = some (.slice e)) (hd : P.underlying d = some .string) (he : P.underlying e = some (.int .u8)) {x : AV} {X : Value} (hx : R C (nx σ) w x X) {v : AV}
  (h : Jj x σ = some (v, σ')) : σ' = σ /\ Dg P C (nx σ) w (convert s d X) v := by
 unfold Jj at h
 split at h
 ·rename_i n hns hn
  split at h
  ·rename_i cs hcs
   split at h
   ·rename_i l hl
    cases h;refine ⟨rfl, ?_⟩;obtain ⟨_, a, q1, q2, _, _⟩ := Ex (P := P) hs hx hn nl hcs;obtain ⟨bs, k1, k2⟩ := Sy hl q2;have q1 := q1 w.drawn
    have hconv : ∀ base len cap, X = .slice base len cap -> Dg P C (nx σ) w (Conv.bytesToString X) (.str l) -> Dg P C (nx σ) w (convert s d X) (.str l) := by
     rintro base len cap rfl ⟨z, z1, z2⟩;refine ⟨z, ?_, z2⟩;unfold convert;simp only [Sem.run_bind, Af hsu, Af hd, Result.andThen_ok, Af he];exact z1
    have main : ∀ base k, X = .slice base n k -> Dg P C (nx σ) w (Conv.bytesToString X) (.str l) := by
     intro base k hX;subst hX;cases base with
     | none =>
      have : a = #[] := by
       have : (Builtin.firstCells 1 n (.slice none n k)).run P w = .ok #[] w := rfl;rw [this] at q1; cases q1; rfl
      subst this
      have hb : bs = [] := by simpa using k1.symm
      subst hb
      simp at k2; subst k2
      exact ⟨.string .empty, rfl, by unfold R; exact ⟨_, rfl, rfl⟩⟩
     | some ad =>
      refine ⟨.string ⟨bs.toArray⟩, ?_, by unfold R; exact ⟨_, rfl, by simpa [Ca] using k2⟩⟩
      unfold Builtin.firstCells at q1;rw [Nat.mul_one] at q1;unfold Conv.bytesToString;simp only [Sem.run_bind, q1, Result.andThen_ok];rw [← Array.forIn_toList, k1]
      rw [Xe _ (fun b acc => by simp) bs]
      simp
    unfold R at hx
    split at hx <;> first | (simp [lenA] at hn; done) | (simp [Wu] at hns; done) | skip
    ·rename_i y
     obtain ⟨rfl, hnil⟩ := hx;obtain ⟨rfl, rfl⟩ := Alo hn;exact hconv _ _ _ rfl (main _ _ rfl)
    ·obtain ⟨ad, k, rfl, _⟩ := hx;simp only [lenA, Option.some.injEq] at hn; subst hn;exact hconv _ _ _ rfl (main _ _ rfl)
    ·obtain ⟨ad, k, rfl, _⟩ := hx;simp only [lenA, Option.some.injEq] at hn; subst hn;exact hconv _ _ _ rfl (main _ _ rfl)
   ·cases h
  ·cases h
 ·cases h
theorem Ny (w : World) (need old : Nat) (e : TypeId) : need <= grownCap w need old e := by
 unfold grownCap Question.cut; simp
theorem Q3 (hs : Sim P C w σ) {s d e : TypeId} (hsu : P.underlying s = some .string) (hd : P.underlying d = some (.slice e)) (he : P.underlying e = some (.int .u8)) {x : AV} {X : Value} (hx : R C (nx σ) w x X) {v : AV}
  (h : Ji x σ = some (v, σ')) : σ' = σ /\ Hl P C w σ (convert s d X) v σ' := by
 unfold Ji at h
 split at h
 ·rename_i l
  unfold R at hx;obtain ⟨b, rfl, hb⟩ := hx
  have key : v = .sv (Hh l) 1 l.length none /\ σ' = σ := by
   split at h
   ·cases h; exact ⟨rfl, rfl⟩
   ·cases h; exact ⟨rfl, rfl⟩
  obtain ⟨rfl, rfl⟩ := key;refine ⟨rfl, ?_⟩
  have hsz : l.length = b.size := by rw [← hb, Ev]
  let cs : Array Value := (b.data.map fun b => Value.int .u8 b.toNat) ++ Array.replicate (grownCap w b.size 0 e - b.size) (.int .u8 0)
  let w' : World := ({ w with heap := w.heap.push (.cells cs e (0, 0)), drawn := w.drawn + 1 } : World).freeze ⟨w.heap.size, cs.size, none⟩ 1
  have hrun : (convert s d (.string b)).run P w = .ok (.slice (some ⟨w.heap.size, 0, none⟩) b.size (grownCap w b.size 0 e)) w' := by
   unfold convert;simp only [Sem.run_bind, Af hsu, Af hd, Result.andThen_ok, Af he];unfold Conv.stringToBytes
   simp [-World.alloc_eq, -World.drew_eq, Question.forced, newRow, markStringish, World.shape?, grownCap, w', cs]
  have hp : ∃ fz, Pu w w' (.cells cs e fz) := by
   refine ⟨(cs.size, cs.size + 1), by simp [w', World.freeze], ?_, fun x hx => ?_, by simp [w', World.freeze]⟩
   ·simp [w', World.freeze, Array.getElem_modify]
   ·simp only [w', World.freeze]
    rw [if_neg (by decide)]
    simp only [Array.getElem?_modify]
    rw [if_neg (by omega)]
    rw [Array.getElem?_push_lt hx]; exact (Array.getElem?_eq_getElem hx).symm
  obtain ⟨fz, p⟩ := hp;obtain ⟨s1, s2⟩ := hs.push p;refine ⟨_, _, w', C, hrun, rfl, s1, s2, ?_⟩;unfold R
  refine ⟨_, _, by rw [hsz], by rw [hsz]; exact Ny _ _ _ _, fun q hq => (by cases hq), by rw [Nw, Nat.mul_one], fun hh => (by cases hh), fun ad ha => ?_⟩
  cases ha;refine ⟨fun _ => rfl, fun _ ho => ?_, ?_⟩
  ·have := hs.own_lt ho; simp at this
  ·refine RC.of_cells p.here (vs := (b.data.map fun b => Value.int .u8 b.toNat).toList) (by rw [← hb]; exact RL.bytes b) (Qj b) fun i v hi => ?_
   have hlt := (List.getElem?_eq_some_iff.1 hi).1;rw [Nat.zero_add]
   rw [Array.getElem?_append_left (by simpa using hlt)]
   rwa [Array.getElem?_toList] at hi
 ·cases h
end
section
variable {P : Program} {C C' : Ctx} {N N' : Nat} {w w' : World} {σ σ' : Sto}
def Ah9 (P : Program) (w : World) (e : TypeId) (ei : TypeInfo) (Z : Value) (t2 : TypeId) (x : Value) (n : Nat) (new : Array Value) : Prop :=
 (∃ d2, P.underlying t2 = some d2 /\ (∀ k, d2 ≠ .int k) /\ (∀ k, (Builtin.lenOf x).run P { w with drawn := k } = .ok n { w with drawn := k }) /\ ∀ k, (Builtin.firstCells ei.size n x).run P { w with drawn := k } = .ok new { w with drawn := k }) ∨
 (∃ k, P.underlying t2 = some (.int k) /\ x = .int .i64 (.ofNat n) /\ n * (ei.bytes + 1) <= sizeLim /\ new = Builtin.zeroCells Z.cells n)
theorem U0 {d : TypeDesc} (h : ∀ k, d ≠ .int k) : (match d with | .int _ => true | _ => false) = false := by
 cases d <;> first | rfl | exact absurd rfl (h _)
theorem J5 {t t2 ty e : TypeId} {ei : TypeInfo} {Z : Value} (ht : P.underlying t = some (.slice e)) (he : P.info? e = some ei) (hz : ei.zero = some Z) (hZ : Z.cells.size = ei.size) {base : Option Addr} {sLen I5 n : Nat} {x : Value} {new : Array Value}
  (hg : Ah9 P w e ei Z t2 x n new) (hfit : sLen + n <= I5) {w' : World}
  (hst : ∀ a, base = some a -> (storeCells (a.add (sLen * ei.size)) new.toList).run P w = .ok () w') (hno : base = none -> w' = w) :
  (Builtin.append_ #[t, t2] ty #[.slice base sLen I5, x]).run P w = .ok (.slice base (sLen + n) I5) w' := by
 rcases hg with ⟨d2, h1, h2, h3, h4⟩ | ⟨k, h1, rfl, h3, rfl⟩
 ·have hl := h3 w.drawn;have hf := h4 w.drawn;have hm := U0 h2;cases base with
  | none =>
   rw [hno rfl]
   simp [Builtin.append_, Af ht, Af h1, hm, Bh he, hl, hfit, hf]
  | some a =>
   have := hst a rfl
   simp [Builtin.append_, Af ht, Af h1, hm, Bh he, hl, hfit, hf, this]
 ·obtain ⟨h5, h6⟩ := O7 h3;have hw := Mo h5
  have hb : ¬ (281474976710656 < (n : Int) * (ei.bytes : Int)) := by
   have h2 := Int.ofNat_le.2 h6;rw [Int.natCast_mul] at h2
   have h7 : ((sizeLim : Nat) : Int) <= 281474976710656 := by decide
   generalize (n : Int) * (ei.bytes : Int) = q at *
   omega
  have hn0 : ¬ ((n : Int) < 0) := by omega
  simp only [Int.ofNat_eq_natCast] at hw
  by_cases h0 : n * ei.size = 0
  ·have hz0 : Builtin.zeroCells Z.cells n = #[] := by rw [F9, hZ, h0]; simp
   rw [hz0] at hst;cases base with
   | none =>
    rw [hno rfl]
    simp [Builtin.append_, Af ht, Af h1, Bh he, Cy he, asInt, asIntOf, hw, hn0, hb, hfit, h0]
   | some a =>
    have := hst a rfl
    simp [Builtin.append_, Af ht, Af h1, Bh he, Cy he, asInt, asIntOf, hw, hn0, hb, hfit, h0, this]
  ·cases base with
   | none =>
    rw [hno rfl]
    simp [Builtin.append_, Af ht, Af h1, Bh he, Cy he, asInt, asIntOf, hw, hn0, hb, hfit, h0, De he hz]
   | some a =>
    have := hst a rfl
    simp [Builtin.append_, Af ht, Af h1, Bh he, Cy he, asInt, asIntOf, hw, hn0, hb, hfit, h0, De he hz, this]
theorem Vx {t t2 ty e : TypeId} {ei : TypeInfo} {Z : Value} (ht : P.underlying t = some (.slice e)) (he : P.info? e = some ei) (hz : ei.zero = some Z) (hZ : Z.cells.size = ei.size) {base : Option Addr} {sLen I5 n : Nat} {x : Value} {old new : Array Value}
  (hg : Ah9 P w e ei Z t2 x n new) (hgrow : I5 < sLen + n) (hlim : (sLen + n) * (ei.bytes + 1) <= sizeLim)
  (hold : ∀ k, (Builtin.firstCells ei.size sLen (.slice base sLen I5)).run P { w with drawn := k } = .ok old { w with drawn := k }) :
  ∃ rest, (Builtin.append_ #[t, t2] ty #[.slice base sLen I5, x]).run P w = .ok (.slice (some ⟨w.heap.size, 0, none⟩) (sLen + n) (grownCap w (sLen + n) I5 e))
   { w with heap := w.heap.push (.cells (old ++ new ++ rest) e), drawn := w.drawn + 1 } /\ rest.size = (grownCap w (sLen + n) I5 e - (sLen + n)) * ei.size := by
 refine ⟨Builtin.zeroCells Z.cells (grownCap w (sLen + n) I5 e - (sLen + n)), ?_, by rw [F9, hZ]; simp⟩
 obtain ⟨l1, l2⟩ := O7 hlim
 have hn : ¬ (sLen + n <= I5) := by omega
 have h63' : ¬ (9223372036854775807 < ((sLen : Int) + (n : Int))) := by unfold sizeLim at l1; omega
 have hfit : Builtin.nextslicecap (sLen + n) I5 * ei.bytes <= 281474976710656 := growslice_fits hgrow (by unfold sizeLim at l2; omega)
 have h48' : ¬ (281474976710656 < Builtin.nextslicecap (sLen + n) I5 * ei.bytes) := by omega
 have ho : ∀ k, (Builtin.firstCells ei.size sLen (.slice base sLen I5)).run P { w with drawn := k } = .ok old { w with drawn := k } := hold
 rcases hg with ⟨d2, h1, h2, h3, h4⟩ | ⟨k, h1, rfl, h3, rfl⟩
 ·have hl := h3 w.drawn;have hf := h4 (w.drawn + 1);have ho' := ho (w.drawn + 1);have hm := U0 h2
  simp [-World.drew_eq, Builtin.append_, Af ht, Af h1, hm, Bh he, Cy he, hl, hn, h63', h48', Question.forced, hf, ho', newRow, grownCap, De he hz]
  rfl
 ·obtain ⟨h5, h6⟩ := O7 h3;have hw := Mo h5
  have hb : ¬ (281474976710656 < (n : Int) * (ei.bytes : Int)) := by
   have h2 := Int.ofNat_le.2 h6;rw [Int.natCast_mul] at h2
   have h7 : ((sizeLim : Nat) : Int) <= 281474976710656 := by decide
   generalize (n : Int) * (ei.bytes : Int) = q at *
   omega
  have hn0 : ¬ ((n : Int) < 0) := by omega
  have ho' := ho (w.drawn + 1);simp only [Int.ofNat_eq_natCast] at hw
  by_cases h0 : n * ei.size = 0
  ·have hz0 : Builtin.zeroCells Z.cells n = #[] := by rw [F9, hZ, h0]; simp
   rw [hz0]
   simp [-World.drew_eq, Builtin.append_, Af ht, Af h1, Bh he, Cy he, asInt, asIntOf, hw, hn0, hb, hn, h63', h48', Question.forced, ho', newRow, grownCap, De he hz, h0]
   rfl
  ·simp [-World.drew_eq, Builtin.append_, Af ht, Af h1, Bh he, Cy he, asInt, asIntOf, hw, hn0, hb, hn, h63', h48', Question.forced, ho', newRow, grownCap, De he hz, h0]
   rfl
end
section
variable {P : Program} {C C' : Ctx} {N N' : Nat} {w w' : World} {σ σ' : Sto}
theorem Mp (hs : Sim P C w σ) {t t2 ty e : TypeId} {ei : TypeInfo} {Z : Value} {sz bytes : Nat} (ht : P.underlying t = some (.slice e)) (he : P.info? e = some ei) (hsz : sz = ei.size) (hby : bytes = ei.bytes) (hz : ei.zero = some Z) (hZ : Z.cells.size = ei.size)
  {base : Option Addr} {sLen I5 n : Nat} {y : Value} {old new : Array Value} {oldA newA : List AV} (hg : Ah9 P w e ei Z t2 y n new)
  (hold : ∀ k, (Builtin.firstCells ei.size sLen (.slice base sLen I5)).run P { w with drawn := k } = .ok old { w with drawn := k })
  (ho : RL C (nx σ) w oldA old.toList) (ho1 : ∀ x ∈ old.toList, x.oneCell = true) (hol : oldA.length = sLen * sz)
  (hn : RL C (nx σ) w newA new.toList) (hn1 : ∀ x ∈ new.toList, x.oneCell = true) (hnl : newA.length = n * sz)
  (hgrow : I5 < sLen + n) {v : AV} (h : Jz sz bytes n newA oldA sLen σ = some (v, σ')) :
  Hl P C w σ (Builtin.append_ #[t, t2] ty #[.slice base sLen I5, y]) v σ' := by
 unfold Jz at h;cases hb : Nat.ble ((sLen + n) * (bytes + 1)) sizeLim
 ·simp [hb] at h
 ·simp only [hb, cond_true, Au, Option.some.injEq, Prod.mk.injEq] at h;obtain ⟨rfl, rfl⟩ := h
  have hlim : (sLen + n) * (ei.bytes + 1) <= sizeLim := by rw [← hby]; exact Nat.le_of_ble_eq_true hb
  obtain ⟨rest, r1, r2⟩ := Vx (ty := ty) ht he hz hZ hg hgrow hlim hold;have p := Aol w (.cells (old ++ new ++ rest) e (0, 0))
  obtain ⟨s1, s2⟩ := Nv hs p (ho.append hn) (fun x hx => (List.mem_append.1 hx).elim (ho1 x) (hn1 x)) (fun i v hi => by
   have hlt := (List.getElem?_eq_some_iff.1 hi).1
   rw [Array.getElem?_append_left (by simpa using hlt)]
   rw [← Array.getElem?_toList, Array.toList_append]; exact hi)
  refine ⟨_, _, _, _, r1, rfl, s1, by rw [Ap]; exact s2, ?_⟩
  rw [Ap]
  refine R.newSlice (Nat.lt_succ_self _) (Ctx.add_loc ..) (Ny _ _ _ _) (fun q hq => by cases hq) ?_
  rw [E5 p.here];have h1 := ho.length;have h2 := hn.length;have h3 := Ny w (sLen + n) I5 e;simp only [Array.length_toList] at h1 h2;simp only [Array.size_append, r2];rw [← h1, ← h2, hol, hnl, ← hsz, Nat.zero_add, ← Nat.add_mul, ← Nat.add_mul]
  exact Nat.mul_le_mul_right _ (by omega)
theorem RL.nil_iff {vs : List Value} : RL C N w [] vs -> vs = [] := by
 cases vs with
 | nil => intro; rfl
 | cons v r => intro h; unfold RL at h; exact h.elim
theorem Zl {vs old : List AV} {a b : Nat} (h : D1 b (vs.drop a) = some old) : ∀ (i : Nat) (x : AV), old[i]? = some x -> vs[a + i]? = some x := by
 intro i x hi;rw [(Gm h).1, List.getElem?_take] at hi
 split at hi
 ·rwa [List.getElem?_drop] at hi
 ·cases hi
theorem Qk (hs : Sim P C w σ) {t t2 ty e : TypeId} {ei : TypeInfo} {Z : Value} {sz bytes : Nat} (ht : P.underlying t = some (.slice e)) (he : P.info? e = some ei) (hsz : sz = ei.size) (hby : bytes = ei.bytes) (hz : ei.zero = some Z) (hZ : Z.cells.size = ei.size)
  {d : AV} {D y : Value} {n : Nat} {new : Array Value} {newA : List AV} (hd : R C (nx σ) w d D) (hg : Ah9 P w e ei Z t2 y n new)
  (hn : RL C (nx σ) w newA new.toList) (hn1 : ∀ x ∈ new.toList, x.oneCell = true) (hnl : newA.length = n * sz) {v : AV} (h : Cj σ sz bytes d n newA = some (v, σ')) :
  Hl P C w σ (Builtin.append_ #[t, t2] ty #[D, y]) v σ' := by
 cases n with
 | zero =>
  have hnew : new.toList = [] := RL.nil_iff (C := C) (N := nx σ) (w := w) (by rwa [show newA = [] from List.eq_nil_of_length_eq_zero (by omega)] at hn)
  have same : ∀ base len k, D = .slice base len k -> len <= k -> Hl P C w σ (Builtin.append_ #[t, t2] ty #[D, y]) d σ := by
   rintro base len k rfl hk
   refine ⟨_, _, w, C, J5 (ty := ty) (w' := w) ht he hz hZ hg (by omega) (fun a _ => by rw [hnew]; simp [storeCells]) (fun _ => rfl), rfl, hs, Ext.refl _ _ _, hd⟩
  simp only [Cj] at h
  split at h
  ·cases h; unfold R at hd; obtain ⟨rfl, _⟩ := hd; exact same _ _ _ rfl nl
  ·cases h;have hd' := hd;unfold R at hd'; obtain ⟨ad, k, rfl, hk, _⟩ := hd'; exact same _ _ _ rfl hk
  ·cases h;have hd' := hd;unfold R at hd'; obtain ⟨ad, k, rfl, _, hk, _⟩ := hd'; exact same _ _ _ rfl hk
  ·cases h
 | succ n' =>
  simp only [Cj] at h
  split at h
  ·unfold R at hd; obtain ⟨rfl, _⟩ := hd
   exact Mp (old := #[]) hs ht he hsz hby hz hZ hg (fun k => rfl) (by unfold RL; trivial) (by simp) (by simp) hn hn1 hnl (by omega) h
  ·rename_i cs sz' len q
   cases hb : (Nat.beq sz' sz && !Nat.ble (len + (n' + 1)) q)
   ·simp [hb] at h
   ·simp only [hb, cond_true] at h;simp only [Bool.and_eq_true, Bool.not_eq_true'] at hb;have hsz' := Nat.eq_of_beq_eq_true hb.1
    have hq : ¬ (len + (n' + 1) <= q) := fun hle => by have := Nat.ble_eq_true_of_le hle; rw [this] at hb; cases hb.2
    have hd' := hd;unfold R at hd';obtain ⟨ad, k, rfl, hk, hcap, hcl, _⟩ := hd';have hkq := hcap q rfl
    have hsrc : Gl σ ei.size (.sv cs sz' len (some q)) len = some cs := by
     have : D1 (len * ei.size) cs = some cs := by
      have key : ∀ (l : List AV), D1 l.length l = some l := by
       intro l; induction l with
       | nil => rfl
       | cons x r ih => simp [D1, ih]
      rw [← hsz, ← hsz', ← hcl]; exact key cs
     exact this
    obtain ⟨_, old, o1, o2, o3, o4⟩ := Ex (P := P) hs hd (m := len) rfl nl hsrc
    exact Mp hs ht he hsz hby hz hZ hg o1 o2 o3 (by rw [hsz]; exact o4) hn hn1 hnl (by omega) h
  ·rename_i a off sz' len cap
   cases hb : Nat.beq sz' sz
   ·simp [hb] at h
   ·simp only [hb, cond_true] at h;have hsz' := Nat.eq_of_beq_eq_true hb
    split at h
    ·cases h
    ·rename_i vs hvs
     split at h
     ·cases h
     ·rename_i oldA hold
      have hgo := Sto.cells_get hvs;have hd' := hd;unfold R at hd';obtain ⟨ad, k, rfl, han, hk, hcap, hloc⟩ := hd'
      have hsrc : Gl σ ei.size (.sr a off sz' len cap) len = some oldA := by
       simp only [Gl, hvs, ← hsz]; exact hold
      obtain ⟨_, old, o1, o2, o3, o4⟩ := Ex (P := P) hs hd (m := len) rfl nl hsrc;rw [← hsz] at o4;obtain ⟨c, o, cs, T, l1, l2, l3⟩ := hs.obj a _ hgo;obtain ⟨had, hroom⟩ := hloc c o l1
      split at h
      ·rename_i q
       have hkq := hcap q rfl;subst hkq
       split at h
       ·rename_i hfit
        have hfit := Nat.le_of_ble_eq_true hfit
        split at h
        ·rename_i vs' hset
         simp only [Au, Option.some.injEq, Prod.mk.injEq] at h;obtain ⟨rfl, rfl⟩ := h;obtain ⟨c', o', w', r1, r2, r3, r4⟩ := Mn hs hgo hset hn hn1;rw [l1] at r1; cases r1
         have e := had (by omega)
         refine ⟨_, _, w', C, J5 (ty := ty) ht he hz hZ hg hfit (fun b hb' => ?_) (fun hb' => by cases hb'), rfl, r3, by rw [An]; exact r4, ?_⟩
         ·cases hb';rw [e, Fo, ← hsz]; rw [Nat.add_assoc]; exact r2
         ·rw [An];unfold R
          refine ⟨ad, k, rfl, han, hfit, fun q hq => by cases hq; rfl, fun c' o' hc' => ?_⟩
          rw [l1] at hc'; cases hc'
          exact ⟨fun _ => e, by rw [← hsz', r4.bsz a han c o l1]; exact hroom⟩
        ·cases h
       ·rename_i hfit
        have hq : ¬ (len + (n' + 1) <= k) := fun hle => by have := Nat.ble_eq_true_of_le hle; rw [this] at hfit; cases hfit
        exact Mp hs ht he hsz hby hz hZ hg o1 o2 o3 o4 hn hn1 hnl (by omega) h
      ·by_cases hfit : len + (n' + 1) <= k
       ·-- in place: the object is renamed
        unfold Jz at h;cases hb2 : Nat.ble ((len + (n' + 1)) * (bytes + 1)) sizeLim
        ·simp [hb2] at h
        ·simp only [hb2, cond_true, Au, Option.some.injEq, Prod.mk.injEq] at h;obtain ⟨rfl, rfl⟩ := h
         have e := had (by omega)
         have hnl' := hn.length;simp only [Array.length_toList] at hnl';have hcs : csize w c = cs.size := E5 l2;rw [hcs] at hroom;have hm1 : (len + (n' + 1)) * sz <= k * sz := Nat.mul_le_mul_right _ hfit;rw [Nat.add_mul] at hm1
         have hroom2 : o + (off + len * sz) + 0 + new.toList.length <= cs.size := by
          simp only [Array.length_toList]; rw [hsz'] at hroom; omega
         obtain ⟨w', r1, r2⟩ := J0 (P := P) new.toList w c (o + (off + len * sz)) 0 cs T l2 hn1 hroom2;rw [Nat.add_zero] at r2 hroom2
         have hcs' : csize w' c = cs.size := by rw [E5 r2.here, Lv]
         obtain ⟨s1, s2⟩ := hs.replace l1 r2 hgo (.cells (oldA ++ newA)) rfl (o' := o + off) (fun ex => by
          refine ⟨c, o + off, _, T, by simp [Ctx.add], r2.here, ?_⟩
          rw [Ap, Ck];refine RC.of_get fun i x hi => ?_
          rw [Ii r2.here, Nq _ _ _ hroom2]
          by_cases hlt : i < oldA.length
          ·rw [List.getElem?_append_left hlt] at hi
           rw [if_neg (by omega)]
           obtain ⟨u, q1, q2, q3⟩ := l3.get _ x (Zl hold i x hi);rw [Ii l2] at q1
           exact ⟨u, by rw [← q1]; congr 1; omega, q2, R.ext ex _ _ q3⟩
          ·rw [List.getElem?_append_right (by omega)] at hi
           have hlt2 := (List.getElem?_eq_some_iff.1 hi).1
           rw [if_pos (by simp only [Array.length_toList]; omega)]
           obtain ⟨u, q1, q2⟩ := hn.get _ x hi
           exact ⟨u, by rw [← q1]; congr 1; omega, hn1 u (List.mem_of_getElem? q1), R.ext ex _ _ q2⟩)
         have hnxk : nx ((σ.kill a).new (.cells (oldA ++ newA))) = nx σ + 1 := by rw [Ap, Ck]
         refine ⟨_, _, w', _, J5 (ty := ty) ht he hz hZ hg hfit (fun b hb' => ?_) (fun hb' => by cases hb'), rfl, s1, by rw [hnxk]; exact s2, ?_⟩
         ·cases hb';rw [e, Fo, ← hsz, Nat.add_assoc]; exact r1
         ·rw [hnxk, Ck];unfold R
          refine ⟨ad, k, rfl, Nat.lt_succ_self _, hfit, fun q hq => (by cases hq), fun c' o' hc' => ?_⟩
          simp only [Ctx.add, if_true] at hc';cases hc'
          exact ⟨fun _ => by rw [e, Nat.add_zero], by rw [hcs', ← hsz']; omega⟩
       ·obtain ⟨k1, k2⟩ := hs.kill a;have hnk : nx (σ.kill a) = nx σ := Ck σ a
        obtain ⟨yy, xx, w', C2, g1, g2, g3, g4, g5⟩ := Mp (σ := σ.kill a) (σ' := σ') k1 ht he hsz hby hz hZ hg o1 (by rw [hnk]; exact o2.ext k2) o3 o4 (by rw [hnk]; exact hn.ext k2) hn1 hnl (by omega) h
        exact ⟨yy, xx, w', C2, g1, g2, g3, k2.trans (by rwa [hnk] at g4), g5⟩
  ·cases h
theorem Z8 {e : TypeId} {te : TI} (hte : Bi P e = some te) {z : List AV} (hz : te.zero = some z) (hzl : z.length = te.size) :
  ∃ ei Z, P.info? e = some ei /\ te.size = ei.size /\ te.bytes = ei.bytes /\ ei.zero = some Z /\ Z.cells.size = ei.size /\ (∀ x ∈ Z.cells.toList, x.oneCell = true) /\ ∀ (C : Ctx) (N : Nat) (w : World), RL C N w z Z.cells.toList := by
 obtain ⟨ei, ed, e1, e2, e3, e4, e5, e6, e7⟩ := Az hte;rw [e6] at hz;obtain ⟨Z, q1, q2, q3, _, _⟩ := E6 (C := ⟨fun _ => none, fun _ => 0, fun _ => False, fun _ => none⟩) (w := default) (N := 0) hz
 refine ⟨ei, Z, e1, e4, e5, q1, ?_, q3, fun C N w => ?_⟩
 ·have := q2.length; simp at this; omega
 ·obtain ⟨Z', q1', q2', _⟩ := E6 (C := C) (w := w) (N := N) hz;rw [q1] at q1'; cases q1'; exact q2'
theorem Ql (hs : Sim P C w σ) {t t2 ty e : TypeId} {d2 : TypeDesc} {te : TI} (ht : P.underlying t = some (.slice e)) (hte : Bi P e = some te) {z : List AV} (hz : te.zero = some z) (hzl : z.length = te.size)
  (h2 : P.underlying t2 = some d2) (hd2 : ∀ k, d2 ≠ .int k) {d s : AV} {D S : Value} (hd : R C (nx σ) w d D) (hS : R C (nx σ) w s S) {v : AV} (h : Sl te.size te.bytes d s σ = some (v, σ')) :
  Hl P C w σ (Builtin.append_ #[t, t2] ty #[D, S]) v σ' := by
 obtain ⟨ei, Z, e1, e2, e3, e4, e5, e6, e7⟩ := Z8 hte hz hzl;unfold Sl at h
 split at h
 ·rename_i n hn
  split at h
  ·rename_i new hnew
   obtain ⟨f1, a, f2, f3, f4, f5⟩ := Ex (P := P) hs hS hn nl hnew
   exact Qk hs ht e1 e2 e3 e4 e5 hd (.inl ⟨d2, h2, hd2, fun k => f1 _, fun k => by rw [← e2]; exact f2 k⟩) f3 f4 f5 h
  ·cases h
 ·cases h
theorem Xf (hs : Sim P C w σ) {t t2 ty e : TypeId} {k : IntKind} {te : TI} (ht : P.underlying t = some (.slice e)) (hte : Bi P e = some te) {z : List AV} (hz : te.zero = some z) (hzl : z.length = te.size)
  (h2 : P.underlying t2 = some (.int k)) {d s : AV} {D S : Value} (hd : R C (nx σ) w d D) (hS : R C (nx σ) w s S) {v : AV} (h : Sm z te.size te.bytes d s σ = some (v, σ')) :
  Hl P C w σ (Builtin.append_ #[t, t2] ty #[D, S]) v σ' := by
 obtain ⟨ei, Z, e1, e2, e3, e4, e5, e6, e7⟩ := Z8 hte hz hzl;unfold Sm at h
 split at h
 ·rename_i n
  cases hb : Nat.ble (n * (te.bytes + 1)) sizeLim
  ·simp [hb] at h
  ·simp only [hb, cond_true] at h;unfold R at hS; subst hS
   refine Qk hs ht e1 e2 e3 e4 e5 hd (.inr ⟨k, h2, rfl, by rw [← e3]; exact Nat.le_of_ble_eq_true hb, rfl⟩) ?_ ?_ ?_ h
   ·rw [F9]; exact (e7 C _ w).rep n
   ·rw [F9]; exact K3 e6 n
   ·rw [Ml, hzl]
 ·cases h
theorem Adz (hs : Sim P C w σ) {t t2 ty e : TypeId} {te : TI} (ht : P.underlying t = some (.slice e)) (hte : Bi P e = some te) {d s : AV} {D S : Value} (hd : R C (nx σ) w d D) (hS : R C (nx σ) w s S) {v : AV}
  (h : Ali te.size d s σ = some (v, σ')) : Hl P C w σ (Builtin.copy_ #[t, t2] ty #[D, S]) v σ' := by
 obtain ⟨ei, ed, e1, _, _, e4, _⟩ := Az hte;unfold Ali at h
 split at h
 ·rename_i dl sl hdl hsl
  split at h
  ·rename_i cs hcs
   obtain ⟨f1, a, f2, f3, f4, f5⟩ := Ex (P := P) hs hS hsl (Nat.min_le_left sl dl) hcs;have f1' := f1 w;have f2' := f2 w.drawn;rw [e4] at f2'
   split at h
   ·rename_i b off sz len cap
    simp only [lenA, Option.some.injEq] at hdl; subst hdl
    split at h
    ·rename_i vs hsz hvs
     split at h
     ·rename_i vs' hset
      simp only [Au, Option.some.injEq, Prod.mk.injEq] at h;obtain ⟨rfl, rfl⟩ := h;obtain ⟨c, o, w', r1, r2, r3, r4⟩ := Mn hs (Sto.cells_get hvs) hset f3 f4;unfold R at hd;obtain ⟨ad, k, rfl, _, hk, _, hloc⟩ := hd
      refine ⟨_, _, w', C, ?_, rfl, r3, by rw [An]; exact r4, by unfold R; rfl⟩
      rcases Nat.eq_zero_or_pos k with h0 | h0
      ·have hl0 : len = 0 := by omega
       subst hl0
       have : a.toList = [] := by
        have := f3.length; rw [f5] at this; simp at this; simpa using this.symm
       rw [this] at r2
       have hw : w' = w := by simpa [storeCells] using r2.symm
       subst hw;rw [show min sl 0 = 0 from Nat.min_zero sl] at f2'
       simp [Builtin.copy_, Af ht, f1', Bh e1, f2', this, storeCells, goInt]
      ·rw [(hloc c o r1).1 h0]
       simp [Builtin.copy_, Af ht, f1', Bh e1, f2', r2, goInt]
     ·cases h
    ·cases h
   ·cases h;simp only [lenA, Option.some.injEq] at hdl; subst hdl;unfold R at hd; obtain ⟨rfl, _⟩ := hd
    refine ⟨_, _, w, C, ?_, rfl, hs, Ext.refl _ _ _, by unfold R; rfl⟩
    rw [show min sl 0 = 0 from Nat.min_zero sl] at f2'
    simp [Builtin.copy_, Af ht, f1', Bh e1, f2', goInt]
   ·cases h
  ·cases h
 ·cases h
end
section
variable {P : Program} {C C' : Ctx} {N N' : Nat} {w w' : World} {σ σ' : Sto}
theorem Apt {d : TypeDesc} {v : Value} (h : KS d v) : ∃ k, KV k v := by
 unfold KS at h
 split at h
 ·obtain ⟨n, rfl⟩ := h; exact ⟨.int _ n, by unfold KV; rfl⟩
 ·obtain ⟨s, rfl⟩ := h; exact ⟨.str (Ca s), by unfold KV; exact ⟨s, rfl, rfl⟩⟩
 ·obtain ⟨b, rfl⟩ := h; exact ⟨.bool b, by unfold KV; rfl⟩
 ·exact h.elim
theorem Aia : ∀ {fs : List Field} {vs : List Value}, KFs P fs vs -> ∃ ks, KVs ks vs
 | [], [], _ => ⟨[], by unfold KVs; trivial⟩
 | f :: fs, v :: vs, h => by
  unfold KFs at h;obtain ⟨⟨i, d, _, _, _, _, hk, _⟩, h2⟩ := h;obtain ⟨k, hk⟩ := Apt hk;obtain ⟨ks, hks⟩ := Aia h2
  exact ⟨k :: ks, by unfold KVs; exact ⟨hk, hks⟩⟩
 | [], _ :: _, h => by unfold KFs at h; exact h.elim
 | _ :: _, [], h => by unfold KFs at h; exact h.elim
theorem Apu {kt : TypeId} {v : Value} (h : KT P kt v) : ∃ k, KV k v := by
 rcases h with ⟨d, _, h⟩ | ⟨fs, a, _, rfl, h, _⟩
 ·exact Apt h
 ·obtain ⟨ks, hk⟩ := Aia h
  exact ⟨.agg ks, by unfold KV; exact ⟨a, rfl, hk⟩⟩
theorem Agd {d : TypeDesc} {v : Value} (h : KS d v) : v.oneCell = true := by
 unfold KS at h
 split at h
 ·obtain ⟨n, rfl⟩ := h; rfl
 ·obtain ⟨s, rfl⟩ := h; rfl
 ·obtain ⟨b, rfl⟩ := h; rfl
 ·exact h.elim
theorem U1 : ∀ {fs : List Field} {vs : List Value}, KFs P fs vs -> ∀ x ∈ vs, x.oneCell = true
 | [], [], _, x, hx => by simp at hx
 | f :: fs, v :: vs, h, x, hx => by
  unfold KFs at h
  rcases List.mem_cons.1 hx with rfl | hx
  ·obtain ⟨⟨i, d, _, _, _, _, hk, _⟩, _⟩ := h; exact Agd hk
  ·exact U1 h.2 x hx
 | [], _ :: _, h, _, _ => by unfold KFs at h; exact h.elim
 | _ :: _, [], h, _, _ => by unfold KFs at h; exact h.elim
theorem Alp : ∀ {ks : List Key} {vs : List Value}, KVs ks vs ->
  RL C N w (ks.map fun | .bool b => .bool b | .int k n => .int k n | .str l => .str l | .agg _ => .any) vs
 | [], [], _ => by simp only [List.map_nil]; unfold RL; trivial
 | k :: ks, v :: vs, h => by
  unfold KVs at h;simp only [List.map_cons];unfold RL;refine ⟨?_, Alp h.2⟩;have h1 := h.1;cases k <;> unfold KV at h1 <;> unfold R
  ·exact h1
  ·exact h1
  ·exact h1
  ·trivial
 | [], _ :: _, h => by unfold KVs at h; exact h.elim
 | _ :: _, [], h => by unfold KVs at h; exact h.elim
theorem KV_R {kt : TypeId} {k : Key} {v : Value} (h : KV k v) (t : KT P kt v) : R C N w (Qf k) v := by
 cases k with
 | bool b => unfold KV at h; unfold Qf R; exact h
 | int j n => unfold KV at h; unfold Qf R; exact h
 | str l => unfold KV at h; unfold Qf R; exact h
 | agg cs =>
  unfold KV at h;obtain ⟨a, rfl, h⟩ := h;unfold Qf R;refine ⟨a, rfl, Alp h, ?_⟩
  rcases t with ⟨d, _, t⟩ | ⟨fs, b, _, e, t, _⟩
  ·unfold KS at t
   split at t
   ·obtain ⟨_, t⟩ := t; cases t
   ·obtain ⟨_, t⟩ := t; cases t
   ·obtain ⟨_, t⟩ := t; cases t
   ·exact t.elim
  ·cases e; exact U1 t
theorem Ab6 {d : TypeDesc} {v v' : Value} (h : KS d v) (h' : KS d v') : ∃ b, Instr.sameNow d v v' = some b /\ (b = true ↔ v = v') := by
 unfold KS at h h'
 split at h
 ·obtain ⟨n, rfl⟩ := h;obtain ⟨n', rfl⟩ := h'
  exact ⟨n == n', by simp [Instr.sameNow], by simp⟩
 ·obtain ⟨n, rfl⟩ := h;obtain ⟨n', rfl⟩ := h'
  exact ⟨n == n', by simp [Instr.sameNow], by rw [Go.MapKept.bytes_beq]; simp⟩
 ·obtain ⟨n, rfl⟩ := h;obtain ⟨n', rfl⟩ := h'
  exact ⟨n == n', by simp [Instr.sameNow], by simp⟩
 ·exact h.elim
def Z9 (v : Value) (es : List MapEntry) (i : Nat) : Option (Nat × Value) -> Prop
 | some (j, x) => ∃ e, i <= j /\ es[j - i]? = some e /\ e.key = v /\ e.val = x
 | none => ∀ e ∈ es, e.key ≠ v
theorem Z9.cons {v : Value} {e : MapEntry} {es : List MapEntry} {i : Nat} {r : Option (Nat × Value)} (h : Z9 v es (i + 1) r) (hne : e.key ≠ v) : Z9 v (e :: es) i r := by
 cases r with
 | none =>
  intro f hf
  rcases List.mem_cons.1 hf with rfl | hf
  ·exact hne
  ·exact h f hf
 | some p =>
  obtain ⟨f, h1, h2, h3, h4⟩ := h
  refine ⟨f, by omega, ?_, h3, h4⟩
  rw [show p.1 - i = (p.1 - (i + 1)) + 1 by omega]; exact h2
theorem Sz {d : TypeDesc} {v : Value} (h : KS d v) : ∀ {es : List MapEntry}, (∀ e ∈ es, KS d e.key) -> ∀ i, ∃ r, Instr.findNow d v es i = some r /\ Z9 v es i r
 | [], _, i => ⟨none, rfl, fun e he => by simp at he⟩
 | e :: es, he, i => by
  obtain ⟨b, h1, h2⟩ := Ab6 h (he e (by simp))
  cases b with
  | true => exact ⟨some (i, e.val), by simp only [Instr.findNow, h1], e, nl, by simp, (h2.1 rfl).symm, rfl⟩
  | false =>
   obtain ⟨r, k1, k2⟩ := Sz h (fun f hf => he f (List.mem_cons_of_mem _ hf)) (i + 1)
   exact ⟨r, by simp only [Instr.findNow, h1, k1], k2.cons fun hh => by have := h2.2 hh.symm; cases this⟩
theorem Nf {kt : TypeId} {v : Value} (h : KT P kt v) : ∀ {es : List MapEntry}, (∀ e ∈ es, KT P kt e.key) -> ∀ i, ∃ r, (Instr.findAsking kt v es i).run P w = .ok r w /\ Z9 v es i r
 | [], _, i => ⟨none, rfl, fun e he => by simp at he⟩
 | e :: es, he, i => by
  obtain ⟨k, hk⟩ := Apu h
  obtain ⟨k', hk'⟩ := Apu (he e (by simp))
  obtain ⟨h1, h2⟩ := Ah7 (w := w) hk hk' h (he e (by simp))
  have h3 : (Op.equal kt v e.key).run P w = .ok (Key.eq k k') w := h2 9998;cases hb : Key.eq k k' with
  | true =>
   refine ⟨some (i, e.val), by simp [Instr.findAsking, h3, hb], e, nl, by simp, (h1.1 hb).symm, rfl⟩
  | false =>
   obtain ⟨r, k1, k2⟩ := Nf h (fun f hf => he f (List.mem_cons_of_mem _ hf)) (i + 1)
   exact ⟨r, by simp [Instr.findAsking, h3, hb, k1], k2.cons fun hh => by have := h1.2 hh.symm; rw [hb] at this; cases this⟩
theorem Mq {kt : TypeId} {v : Value} (h : KT P kt v) {es : List MapEntry} (he : ∀ e ∈ es, KT P kt e.key) : ∃ r, (Instr.findKey kt v es).run P w = .ok r w /\ Z9 v es 0 r := by
 obtain ⟨r, k1, k2⟩ := Nf (w := w) h he 0
 rcases h with ⟨d, ht, h⟩ | ⟨fs, a, ht, rfl, h⟩
 ·have he' : ∀ e ∈ es, KS d e.key := fun e hm => by
   rcases he e hm with ⟨d', ht', h'⟩ | ⟨fs, b, ht', _, _⟩
   ·rw [ht] at ht'; cases ht'; exact h'
   ·rw [ht] at ht'; cases ht'; unfold KS at h; exact h.elim
  obtain ⟨r, h1, h2⟩ := Sz h he' 0
  exact ⟨r, by simp [Instr.findKey, Af ht, h1], h2⟩
 ·cases es with
  | nil => exact ⟨none, by simp [Instr.findKey, Af ht, Instr.findNow], fun e hm => by simp at hm⟩
  | cons e es =>
   have : Instr.findNow (.struct fs) (.agg a) (e :: es) 0 = none := by simp [Instr.findNow, Instr.sameNow]
   exact ⟨r, by simp [Instr.findKey, Af ht, this, k1], k2⟩
end
section
variable {P : Program} {C C' : Ctx} {N N' : Nat} {w w' : World} {σ σ' : Sto}
theorem Xg {kv : Key} {x : AV} : ∀ {es : List (Key × AV)}, D2 kv es = some x ->
  ∃ a k' b, es = a ++ (k', x) :: b /\ Key.eq kv k' = true /\ (∀ v, Pj kv v es = a ++ (k', v) :: b) /\ Ze kv es = a ++ b
 | [], h => by simp [D2] at h
 | (k', y) :: r, h => by
  simp only [D2] at h;cases hb : Key.eq kv k'
  ·simp only [hb, cond_false] at h;obtain ⟨a, k2, b, h1, h2, h3, h4⟩ := Xg h
   exact ⟨(k', y) :: a, k2, b, by simp [h1], h2, fun v => by simp [Pj, hb, h3], by simp [Ze, hb, h4]⟩
  ·simp only [hb, cond_true, Option.some.injEq] at h;subst h
   exact ⟨[], k', r, rfl, hb, fun v => by simp [Pj, hb], by simp [Ze, hb]⟩
theorem Q4 {kv : Key} : ∀ {es : List (Key × AV)}, D2 kv es = none -> (∀ x ∈ es, Key.eq kv x.1 = false) /\ Ze kv es = es
 | [], _ => ⟨fun x hx => by simp at hx, rfl⟩
 | (k', y) :: r, h => by
  simp only [D2] at h;cases hb : Key.eq kv k'
  ·simp only [hb, cond_false] at h;obtain ⟨h1, h2⟩ := Q4 h
   refine ⟨fun x hx => ?_, by simp [Ze, hb, h2]⟩
   rcases List.mem_cons.1 hx with rfl | hx
   ·exact hb
   ·exact h1 x hx
  ·simp [hb] at h
theorem Xh (kv : Key) (v : AV) : ∀ (es : List (Key × AV)), ∃ a b, es = a ++ b /\ Nm kv v es = a ++ (kv, v) :: b
 | [] => ⟨[], [], rfl, rfl⟩
 | (k', y) :: r => by
  simp only [Nm];cases hb : Key.lt kv k'
  ·obtain ⟨a, b, h1, h2⟩ := Xh kv v r
   exact ⟨(k', y) :: a, b, by simp [h1], by simp [h2]⟩
  ·exact ⟨[], (k', y) :: r, rfl, rfl⟩
theorem ER.split : ∀ {a b : List (Key × AV)} {L : List MapEntry}, ER C N w (a ++ b) L -> ∃ A B, L = A ++ B /\ ER C N w a A /\ ER C N w b B
 | [], b, L, h => ⟨[], L, rfl, by unfold ER; trivial, h⟩
 | x :: a, b, [], h => by rw [List.cons_append] at h; unfold ER at h; exact h.elim
 | x :: a, b, e :: L, h => by
  rw [List.cons_append] at h; unfold ER at h;obtain ⟨A, B, h1, h2, h3⟩ := ER.split h.2
  exact ⟨e :: A, B, by simp [h1], by unfold ER; exact ⟨h.1, h2⟩, h3⟩
theorem ER.append : ∀ {a b : List (Key × AV)} {A B : List MapEntry}, ER C N w a A -> ER C N w b B -> ER C N w (a ++ b) (A ++ B)
 | [], b, [], B, _, h => h
 | x :: a, b, e :: A, B, h, k => by unfold ER at h; rw [List.cons_append, List.cons_append]; unfold ER; exact ⟨h.1, ER.append h.2 k⟩
 | [], _, _ :: _, _, h, _ => by unfold ER at h; exact h.elim
 | _ :: _, _, [], _, h, _ => by unfold ER at h; exact h.elim
theorem ER.length : ∀ {a : List (Key × AV)} {A : List MapEntry}, ER C N w a A -> a.length = A.length
 | [], [], _ => rfl
 | x :: a, e :: A, h => by unfold ER at h; simp [ER.length h.2]
 | [], _ :: _, h => by unfold ER at h; exact h.elim
 | _ :: _, [], h => by unfold ER at h; exact h.elim
theorem ER.mem : ∀ {a : List (Key × AV)} {A : List MapEntry}, ER C N w a A -> ∀ e ∈ A, ∃ x ∈ a, KV x.1 e.key /\ R C N w x.2 e.val
 | [], [], _, e, he => by simp at he
 | x :: a, f :: A, h, e, he => by
  unfold ER at h
  rcases List.mem_cons.1 he with rfl | he
  ·exact ⟨x, by simp, h.1⟩
  ·obtain ⟨y, h1, h2⟩ := ER.mem h.2 e he; exact ⟨y, by simp [h1], h2⟩
 | [], _ :: _, h, _, _ => by unfold ER at h; exact h.elim
 | _ :: _, [], h, _, _ => by unfold ER at h; exact h.elim
theorem Xi {α β : Type} {f : α -> β} {A B : List α} {e g : α} (h : ((A ++ e :: B).map f).Nodup) {j : Nat} (hj : (A ++ e :: B)[j]? = some g) (hg : f g = f e) : j = A.length /\ g = e := by
 have h1 : ((A ++ e :: B).map f)[j]? = some (f e) := by rw [List.getElem?_map, hj]; simp [hg]
 have h2 : ((A ++ e :: B).map f)[A.length]? = some (f e) := by rw [List.getElem?_map]; simp
 obtain ⟨l1, l1'⟩ := List.getElem?_eq_some_iff.1 h1;obtain ⟨l2, l2'⟩ := List.getElem?_eq_some_iff.1 h2;have : j = A.length := (List.getElem?_inj l1 h).1 (h1.trans h2.symm);subst this
 simp at hj
 exact ⟨rfl, hj.symm⟩
structure At (C : Ctx) (N : Nat) (w : World) (es : List (Key × AV)) (E : Array MapEntry) (V : Value) (x : AV) (kv : Key) where
 A : List MapEntry
 e : MapEntry
 B : List MapEntry
 a : List (Key × AV)
 k' : Key
 b : List (Key × AV)
 A' : List MapEntry
 B' : List MapEntry
 hE : E.toList = A ++ e :: B
 key : e.key = V
 val : R C N w x e.val
 kk : KV k' e.key
 hes : es = a ++ (k', x) :: b
 ea : ER C N w a A'
 eb : ER C N w b B'
 perm : (A' ++ B').Perm (A ++ B)
 set : ∀ v, Pj kv v es = a ++ (k', v) :: b
 del : Ze kv es = a ++ b
theorem Do.locate {kt : TypeId} {es : List (Key × AV)} {E : Array MapEntry} {clock : Nat} (h : Do P C N w kt es E clock) {kv : Key} {V : Value} (hk : KV kv V) (ht : KT P kt V) :
  (∃ x, D2 kv es = some x /\ ∃ q : At C N w es E V x kv, ∀ w', (Instr.findKey kt V E.toList).run P w' = .ok (some (q.A.length, q.e.val)) w') ∨
  (D2 kv es = none /\ (∀ e ∈ E.toList, e.key ≠ V) /\ ∀ w', (Instr.findKey kt V E.toList).run P w' = .ok none w') := by
 obtain ⟨L, hp, hL⟩ := h.perm;cases hm : D2 kv es with
 | none =>
  obtain ⟨h1, _⟩ := Q4 hm
  have hno : ∀ e ∈ E.toList, e.key ≠ V := fun e he hh => by
   obtain ⟨x, hx, hxk, _⟩ := ER.mem hL e (hp.symm.subset he);have := (Ah7 (w := w) hk hxk ht (h.typed e he)).1.2 hh.symm;rw [h1 x hx] at this; cases this
  refine .inr ⟨rfl, hno, fun w' => ?_⟩
  obtain ⟨r, k1, k2⟩ := Mq (w := w') ht h.typed;cases r with
  | none => exact k1
  | some p =>
   obtain ⟨f, _, f2, f3, _⟩ := k2;exact absurd f3 (hno f (List.mem_of_getElem? f2))
 | some x =>
  obtain ⟨a, k', b, h1, h2, h3, h4⟩ := Xg hm;have hL' := hL;rw [h1] at hL';obtain ⟨A', L2, q1, q2, q3⟩ := hL'.split;cases L2 with
  | nil => unfold ER at q3; exact q3.elim
  | cons e B' =>
   unfold ER at q3;obtain ⟨⟨q4, q5⟩, q6⟩ := q3
   have he : e ∈ E.toList := hp.subset (by rw [q1]; simp)
   obtain ⟨A, B, hE⟩ := List.append_of_mem he;have hkey : e.key = V := ((Ah7 (w := w) hk q4 ht (h.typed e he)).1.1 h2).symm
   have hperm : (A' ++ B').Perm (A ++ B) := by
    have := hp; rw [q1, hE] at this;exact (List.perm_middle.symm.trans (this.trans List.perm_middle)).cons_inv
   refine .inl ⟨x, rfl, ⟨A, e, B, a, k', b, A', B', hE, hkey, q5, q4, h1, q2, q6, hperm, h3, h4⟩, fun w' => ?_⟩
   obtain ⟨r, k1, k2⟩ := Mq (w := w') ht h.typed;cases r with
   | none => exact absurd hkey (k2 e he)
   | some p =>
    obtain ⟨f, _, f2, f3, f4⟩ := k2;obtain ⟨j, y⟩ := p;simp only [Nat.sub_zero] at f2 f4;have hnd := h.keys;rw [hE] at hnd f2;obtain ⟨g1, g2⟩ := Xi hnd f2 (f3.trans hkey.symm);subst g1 g2;rw [k1, ← f4]
theorem Mr {α : Type} (f : α -> α) (e : α) (B : List α) : ∀ A : List α, (A ++ e :: B).modify A.length f = A ++ f e :: B
 | [] => rfl
 | x :: A => by simp only [List.cons_append, List.length_cons, List.modify_succ_cons, Mr f e B A]
theorem Do.set {kt : TypeId} {es : List (Key × AV)} {E : Array MapEntry} {clock : Nat} (h : Do P C N w kt es E clock) {kv : Key} {V : Value} {x v : AV} (q : At C N w es E V x kv) {y : Value} (hy : R C N w v y) :
  Do P C N w kt (Pj kv v es) (E.modify q.A.length fun e => { e with key := V, val := y }) clock /\ (E.modify q.A.length fun e => { e with key := V, val := y }).toList = q.A ++ { q.e with val := y } :: q.B := by
 have hl : (E.modify q.A.length fun e => { e with key := V, val := y }).toList = q.A ++ { q.e with val := y } :: q.B := by
  rw [Array.toList_modify, q.hE];have hk := q.key
  simp [Mr, ← hk]
 have hkeys : (q.A ++ { q.e with val := y } :: q.B).map (·.key) = (q.A ++ q.e :: q.B).map (·.key) := by simp
 have hborn : (q.A ++ { q.e with val := y } :: q.B).map (·.born) = (q.A ++ q.e :: q.B).map (·.born) := by simp
 refine ⟨⟨fun e he => ?_, ⟨q.A' ++ { q.e with val := y } :: q.B', ?_, ?_⟩, ?_, fun e he => ?_, ?_⟩, hl⟩
 ·rw [hl] at he
  rcases List.mem_append.1 he with he | he
  ·exact h.typed e (by rw [q.hE]; simp [he])
  ·rcases List.mem_cons.1 he with rfl | he
   ·exact h.typed q.e (by rw [q.hE]; simp)
   ·exact h.typed e (by rw [q.hE]; simp [he])
 ·rw [hl]; exact List.perm_middle.trans ((q.perm.cons _).trans List.perm_middle.symm)
 ·rw [q.set v]; exact q.ea.append (by unfold ER; exact ⟨⟨q.kk, hy⟩, q.eb⟩)
 ·rw [hl, hkeys, ← q.hE]; exact h.keys
 ·rw [hl] at he
  rcases List.mem_append.1 he with he | he
  ·exact h.born e (by rw [q.hE]; simp [he])
  ·rcases List.mem_cons.1 he with rfl | he
   ·exact h.born q.e (by rw [q.hE]; simp)
   ·exact h.born e (by rw [q.hE]; simp [he])
 ·rw [hl, hborn, ← q.hE]; exact h.apart
theorem Do.ins {kt : TypeId} {es : List (Key × AV)} {E : Array MapEntry} {clock : Nat} (h : Do P C N w kt es E clock) {kv : Key} {V : Value} (hk : KV kv V) (ht : KT P kt V) (hno : ∀ e ∈ E.toList, e.key ≠ V) {v : AV} {y : Value} (hy : R C N w v y) :
  Do P C N w kt (Nm kv v es) (E.push ⟨V, y, clock⟩) (clock + 1) := by
 obtain ⟨L, hp, hL⟩ := h.perm;obtain ⟨a, b, h1, h2⟩ := Xh kv v es;rw [h1] at hL;obtain ⟨A', B', q1, q2, q3⟩ := hL.split
 have hl : (E.push ⟨V, y, clock⟩).toList = E.toList ++ [⟨V, y, clock⟩] := by simp
 refine ⟨fun e he => ?_, ⟨A' ++ ⟨V, y, clock⟩ :: B', ?_, ?_⟩, ?_, fun e he => ?_, ?_⟩
 ·rw [hl] at he
  rcases List.mem_append.1 he with he | he
  ·exact h.typed e he
  ·simp at he; subst he; exact ht
 ·rw [hl];refine List.perm_middle.trans ?_;rw [← q1];exact (hp.cons _).trans (List.perm_append_singleton _ _).symm
 ·rw [h2]; exact q2.append (by unfold ER; exact ⟨⟨hk, hy⟩, q3⟩)
 ·rw [hl, List.map_append, List.nodup_append]
  refine ⟨h.keys, by simp, fun x hx z hz => ?_⟩
  simp at hz; subst hz
  obtain ⟨e, he, rfl⟩ := List.mem_map.1 hx;exact hno e he
 ·rw [hl] at he
  rcases List.mem_append.1 he with he | he
  ·have := h.born e he; omega
  ·simp at he; subst he; exact Nat.lt_succ_self _
 ·rw [hl, List.map_append, List.nodup_append]
  refine ⟨h.apart, by simp, fun x hx z hz => ?_⟩
  simp at hz; subst hz
  obtain ⟨e, he, rfl⟩ := List.mem_map.1 hx;have := h.born e he; omega
theorem Do.del {kt : TypeId} {es : List (Key × AV)} {E : Array MapEntry} {clock : Nat} (h : Do P C N w kt es E clock) {kv : Key} {V : Value} {x : AV} (q : At C N w es E V x kv) :
  Do P C N w kt (Ze kv es) (E.eraseIdxIfInBounds q.A.length) clock := by
 have hl : (E.eraseIdxIfInBounds q.A.length).toList = q.A ++ q.B := by
  have hlt : q.A.length < E.size := by rw [← Array.length_toList, q.hE]; simp
  unfold Array.eraseIdxIfInBounds;rw [dif_pos hlt, Array.toList_eraseIdx, q.hE]
  simp [List.eraseIdx_append_of_length_le]
 have hsub : (q.A ++ q.B).Sublist E.toList := by rw [q.hE]; exact List.Sublist.append (List.Sublist.refl _) (List.sublist_cons_self _ _)
 refine ⟨fun e he => h.typed e (hsub.subset (by rwa [hl] at he)), ⟨q.A' ++ q.B', by rw [hl]; exact q.perm, by rw [q.del]; exact q.ea.append q.eb⟩, ?_, fun e he => h.born e (hsub.subset (by rwa [hl] at he)), ?_⟩
 ·rw [hl]; exact (hsub.map _).nodup h.keys
 ·rw [hl]; exact (hsub.map _).nodup h.apart
theorem Do.empty {kt : TypeId} {clock : Nat} : Do P C N w kt [] #[] clock :=
 ⟨fun e he => by simp at he, ⟨[], by simp, by unfold ER; trivial⟩, by simp, fun e he => by simp at he, by simp⟩
theorem Do.count {kt : TypeId} {es : List (Key × AV)} {E : Array MapEntry} {clock : Nat} (h : Do P C N w kt es E clock) : es.length = E.size := by
 obtain ⟨L, hp, hL⟩ := h.perm;rw [hL.length, hp.length_eq]; simp
end
section
variable {P : Program} {C C' : Ctx} {N N' : Nat} {w w' : World} {σ σ' : Sto}
theorem C3 {c : Nat} {E : Array MapEntry} {clock : Nat} (h : w.heap[c]? = some (.map E clock)) : (getObj c).run P w = .ok (.map E clock) w := by
 simp only [getObj, Sem.run, h]
theorem Fx {c : Nat} {E : Array MapEntry} {clock : Nat} (h : w.heap[c]? = some (.map E clock)) (O : Obj) :
  (setObj c O).run P w = .ok () { w with heap := w.heap.setIfInBounds c O } := by
 simp only [setObj, Sem.run, h]
theorem Nz {c : Nat} {O₀ : Obj} (h : w.heap[c]? = some O₀) (O : Obj) : Wr w { w with heap := w.heap.setIfInBounds c O } c O := by
 have hlt := (Array.getElem?_eq_some_iff.1 h).1
 refine ⟨by simp, by simp [hlt], fun b hb => ?_, rfl, rfl⟩
 simp only [];rw [Array.getElem?_setIfInBounds_ne (fun h => hb h.symm)]
theorem Aaa {c : Nat} {E : Array MapEntry} {clock : Nat} (h : w.heap[c]? = some (.map E clock)) : csize w c = 0 := by unfold csize; simp [h]
theorem setMap (hs : Sim P C w σ) {r kt ver : Nat} {es : List (Key × AV)} (hg : σ.get r = some (.map kt es ver)) {c : Nat} {E : Array MapEntry} {clock : Nat} (hl : C.loc r = some (c, 0)) (hh : w.heap[c]? = some (.map E clock))
  {es' : List (Key × AV)} {ver' : Nat} (hv : ver < ver') {E' : Array MapEntry} {clock' : Nat} (hm : Do P C (nx σ) w kt es' E' clock') :
  Sim P C { w with heap := w.heap.setIfInBounds c (.map E' clock') } (σ.set r (.map kt es' ver')) /\ Ext C (nx σ) w C (nx σ) { w with heap := w.heap.setIfInBounds c (.map E' clock') } := by
 have p := Nz hh (.map E' clock')
 refine hs.upd hl p (by rw [Aaa p.here, Aaa hh]) hg _ rfl (fun kt₁ es₁ v₁ h => ?_) fun e => ?_
 ·cases h; exact ⟨kt, es, ver, rfl, hv⟩
 ·refine ⟨c, E', clock', hl, p.here, ?_⟩;rw [An]; exact hm.ext e
theorem U2 {d : TypeDesc} {v : Value} (h : KS d v) (n : Nat) : Instr.sameBits n v v = true := by
 unfold KS at h
 split at h
 ·obtain ⟨m, rfl⟩ := h; cases n <;> simp [Instr.sameBits]
 ·obtain ⟨m, rfl⟩ := h; cases n <;> simp [Instr.sameBits, Go.MapKept.bytes_beq]
 ·obtain ⟨m, rfl⟩ := h; cases n <;> simp [Instr.sameBits]
 ·exact h.elim
theorem S0 (n : Nat) : ∀ {fs : List Field} {vs : List Value}, KFs P fs vs -> ((vs.zip vs).all fun (x, y) => Instr.sameBits n x y) = true
 | [], [], _ => rfl
 | f :: fs, v :: vs, h => by
  unfold KFs at h;obtain ⟨⟨i, d, _, _, _, _, hk, _⟩, h2⟩ := h;simp only [List.zip_cons_cons, List.all_cons, Bool.and_eq_true];exact ⟨U2 hk n, S0 n h2⟩
 | [], _ :: _, h => by unfold KFs at h; exact h.elim
 | _ :: _, [], h => by unfold KFs at h; exact h.elim
theorem Ad0 {kt : TypeId} {v : Value} (h : KT P kt v) : (Instr.keyThatStays v v).run P w = .ok v w := by
 have : Instr.sameBits 10000 v v = true := by
  rcases h with ⟨d, _, h⟩ | ⟨fs, a, _, rfl, h, _⟩
  ·exact U2 h _
  ·have := S0 9999 h;simp only [Instr.sameBits, Bool.and_eq_true, beq_self_eq_true, true_and];exact this
 unfold Instr.keyThatStays;rw [this]; rfl
theorem Xj {et : TypeId} {te : TI} (hte : Bi P et = some te) {z : AV} (hz : I4 te = some z) : ∃ Z, (∀ w, (zeroValue et).run P w = .ok Z w) /\ ∀ (C : Ctx) (N : Nat) (w : World), R C N w z Z := by
 obtain ⟨Z, h1, h2⟩ := Mi (P := P) (C := ⟨fun _ => none, fun _ => 0, fun _ => False, fun _ => none⟩) (N := 0) (w := default) hte hz
 have hrun : ∀ w, (zeroValue et).run P w = .ok Z w := fun w => by
  unfold zeroValue typeInfo at h1 ⊢;simp only [Sem.run_bind, run_program, Result.andThen_ok] at h1 ⊢;cases hi : P.info? et with
  | none => simp [hi] at h1
  | some i =>
   simp only [hi, Sem.run_pure, Result.andThen_ok] at h1 ⊢;cases hz : i.zero with
   | none => simp [hz] at h1
   | some v => simp only [hz, Sem.run_pure, Result.ok.injEq] at h1 ⊢; exact ⟨h1.1, trivial⟩
 refine ⟨Z, hrun, fun C N w => ?_⟩
 obtain ⟨Z', h3, h4⟩ := Mi (P := P) (C := C) (N := N) (w := w) hte hz;rw [hrun w] at h3; cases h3; exact h4
theorem Ab7 {ok : Bool} {v : AV} {V : Value} (h : R C N w v V) (b : Bool) : R C N w (Si ok v b) (if ok then .tuple #[V, .bool b] else V) := by
 cases ok
 ·exact h
 ·simp only [Si]; unfold R; exact ⟨_, rfl, by unfold RL; exact ⟨h, by unfold RL; exact ⟨by unfold R; rfl, by unfold RL; trivial⟩⟩⟩
theorem Zm (hs : Sim P C w σ) {t kt et : TypeId} {ti te : TI} (hti : Bi P t = some ti) (hd : ti.desc = .map kt et) (hte : Bi P et = some te) {z : AV} (hz : I4 te = some z) {k m : AV} {K M : Value} (hk : R C (nx σ) w k K) (hm : R C (nx σ) w m M)
  {ok : Bool} {v : AV} (h : Jk kt (Hb P kt k) z ok m σ = some (v, σ')) : σ' = σ /\ Dg P C (nx σ) w (Instr.lookup t M K ok) v := by
 obtain ⟨_, d, _, g2, g3, _⟩ := Az hti
 have hu := g2.trans (by rw [← g3, hd])
 obtain ⟨Z, z1, z2⟩ := Xj hte hz;unfold Jk at h
 split at h
 ·rename_i kv hkv
  obtain ⟨hK, hT⟩ := G1 hkv hk
  split at h
  ·rename_i r
   split at h
   ·rename_i kt' es ver hg
    split at h
    ·rename_i hkt
     have hkt := Nat.eq_of_beq_eq_true hkt; subst hkt;unfold R at hm;obtain ⟨c, rfl, _, hloc⟩ := hm;obtain ⟨c', E, clock, l1, l2, l3⟩ := hs.obj r _ hg;have := hloc c' 0 l1; subst this
     rcases l3.locate hK hT with ⟨x, hx, q, hq⟩ | ⟨hx, _, hq⟩
     ·rw [hx] at h; cases h;refine ⟨rfl, _, ?_, Ab7 q.val true⟩;simp only [Instr.lookup, Sem.run_bind, Af hu, Result.andThen_ok, C3 l2, Sem.run_pure, Dc hT _ 9998, hq w]
     ·rw [hx] at h; cases h;refine ⟨rfl, _, ?_, Ab7 (z2 _ _ _) false⟩;simp only [Instr.lookup, Sem.run_bind, Af hu, Result.andThen_ok, C3 l2, Sem.run_pure, Dc hT _ 9998, hq w, z1]
    ·cases h
   ·cases h
  ·cases h;unfold R at hm; obtain ⟨rfl, _⟩ := hm;refine ⟨rfl, _, ?_, Ab7 (z2 _ _ _) false⟩
   obtain ⟨r, k1, k2⟩ := Mq (P := P) (w := w) hT (es := []) (fun e he => by simp at he)
   have : r = none := by
    cases r with
    | none => rfl
    | some p => obtain ⟨f, _, f2, _⟩ := k2; simp at f2
   subst this;simp only [Instr.lookup, Sem.run_bind, Af hu, Result.andThen_ok, Sem.run_pure, Dc hT _ 9998, k1, z1]
  ·cases h
 ·cases h
theorem Aib {E : Array MapEntry} {A B : List MapEntry} {e : MapEntry} (h : E.toList = A ++ e :: B) : E[A.length]? = some e := by
 rw [← Array.getElem?_toList, h]; simp
theorem Ua (hs : Sim P C w σ) {t kt et : TypeId} {ti te : TI} (hti : Bi P t = some ti) (hd : ti.desc = .map kt et) {k m v : AV} {K M V : Value} (hk : R C (nx σ) w k K) (hm : R C (nx σ) w m M) (hv : R C (nx σ) w v V)
  {u : AV} (h : Md kt (Hb P kt k) te m v σ = some (u, σ')) : u = Bd /\ ∃ w', (Instr.mapUpdate t M K V).run P w = .ok () w' /\ Sim P C w' σ' /\ Ext C (nx σ) w C (nx σ') w' := by
 obtain ⟨_, d, _, g2, g3, _⟩ := Az hti
 have hu := g2.trans (by rw [← g3, hd])
 unfold Md at h
 split at h
 ·rename_i kv r hkv
  obtain ⟨hK, hT⟩ := G1 hkv hk
  split at h
  ·rename_i kt' es ver hg
   split at h
   ·rename_i hb
    rw [Bool.and_eq_true] at hb;have hkt := Nat.eq_of_beq_eq_true hb.1; subst hkt;unfold R at hm;obtain ⟨c, rfl, _, hloc⟩ := hm;obtain ⟨c', E, clock, l1, l2, l3⟩ := hs.obj r _ hg;have := hloc c' 0 l1; subst this
    rcases l3.locate hK hT with ⟨x, hx, q, hq⟩ | ⟨hx, hno, hq⟩
    ·simp only [hx, Au, Option.some.injEq, Prod.mk.injEq] at h;obtain ⟨rfl, rfl⟩ := h;obtain ⟨m1, _⟩ := l3.set q hv;obtain ⟨s1, s2⟩ := setMap hs hg l1 l2 (Nat.lt_succ_self ver) m1
     refine ⟨rfl, _, ?_, s1, by rw [An]; exact s2⟩
     have hold := Aib q.hE;simp only [Instr.mapUpdate, Sem.run_bind, Af hu, Result.andThen_ok, C3 l2, Dc hT _ 9998, hq w, hold, Option.map_some, Option.getD_some, q.key, Ad0 hT, Fx l2]
    ·simp only [hx, Au, Option.some.injEq, Prod.mk.injEq] at h;obtain ⟨rfl, rfl⟩ := h;obtain ⟨s1, s2⟩ := setMap hs hg l1 l2 (Nat.lt_succ_self ver) (l3.ins hK hT hno hv)
     refine ⟨rfl, _, ?_, s1, by rw [An]; exact s2⟩
     simp only [Instr.mapUpdate, Sem.run_bind, Af hu, Result.andThen_ok, C3 l2, Dc hT _ 9998, hq w, Fx l2]
   ·cases h
  ·cases h
 ·cases h
theorem Zn (hs : Sim P C w σ) {t kt et ty t2 : TypeId} {ti : TI} (hti : Bi P t = some ti) (hd : ti.desc = .map kt et) {k m : AV} {K M : Value} (hk : R C (nx σ) w k K) (hm : R C (nx σ) w m M)
  {u : AV} (h : Abz kt (Hb P kt k) m σ = some (u, σ')) : u = Bd /\ ∃ w', (Builtin.delete_ #[t, t2] ty #[M, K]).run P w = .ok (.tuple #[]) w' /\ Sim P C w' σ' /\ Ext C (nx σ) w C (nx σ') w' := by
 obtain ⟨_, d, _, g2, g3, _⟩ := Az hti
 have hu := g2.trans (by rw [← g3, hd])
 unfold Abz at h
 split at h
 ·rename_i kv r hkv
  obtain ⟨hK, hT⟩ := G1 hkv hk
  split at h
  ·rename_i kt' es ver hg
   split at h
   ·rename_i hb
    have hkt := Nat.eq_of_beq_eq_true hb; subst hkt;unfold R at hm;obtain ⟨c, rfl, _, hloc⟩ := hm;obtain ⟨c', E, clock, l1, l2, l3⟩ := hs.obj r _ hg;have := hloc c' 0 l1; subst this;simp only [Au, Option.some.injEq, Prod.mk.injEq] at h;obtain ⟨rfl, rfl⟩ := h
    rcases l3.locate hK hT with ⟨x, hx, q, hq⟩ | ⟨hx, hno, hq⟩
    ·obtain ⟨s1, s2⟩ := setMap hs hg l1 l2 (Nat.lt_succ_self ver) (l3.del q)
     refine ⟨rfl, _, ?_, s1, by rw [An]; exact s2⟩
     simp [Builtin.delete_, Af hu, C3 l2, Dc hT _ 9998, hq w, Fx l2]
    ·obtain ⟨s1, s2⟩ := setMap hs hg l1 l2 (Nat.lt_succ_self ver) (E' := E) (clock' := clock) (es' := Ze kv es) (by rw [(Q4 hx).2]; exact l3)
     refine ⟨rfl, _, ?_, s1, by rw [An]; exact s2⟩
     simp [Builtin.delete_, Af hu, C3 l2, Dc hT _ 9998, hq w, Fx l2]
   ·cases h
  ·cases h
 ·rename_i kv hkv
  obtain ⟨hK, hT⟩ := G1 hkv hk;cases h;unfold R at hm; obtain ⟨rfl, _⟩ := hm;refine ⟨rfl, w, ?_, hs, Ext.refl _ _ _⟩
  simp [Builtin.delete_, Af hu, Dc hT _ 9998]
 ·cases h
theorem Vy (hs : Sim P C w σ) {t kt et ty : TypeId} {ti : TI} (hti : Bi P t = some ti) (hd : ti.desc = .map kt et) {m : AV} {M : Value} (hm : R C (nx σ) w m M)
  {u : AV} (h : O0 m σ = some (u, σ')) : u = Bd /\ ∃ w', (Builtin.clear_ #[t] ty #[M]).run P w = .ok (.tuple #[]) w' /\ Sim P C w' σ' /\ Ext C (nx σ) w C (nx σ') w' := by
 obtain ⟨_, d, _, g2, g3, _⟩ := Az hti
 have hu := g2.trans (by rw [← g3, hd])
 unfold O0 at h
 split at h
 ·rename_i r
  split at h
  ·rename_i kt' es ver hg
   unfold R at hm;obtain ⟨c, rfl, _, hloc⟩ := hm;obtain ⟨c', E, clock, l1, l2, l3⟩ := hs.obj r _ hg;have := hloc c' 0 l1; subst this;simp only [Au, Option.some.injEq, Prod.mk.injEq] at h;obtain ⟨rfl, rfl⟩ := h;obtain ⟨s1, s2⟩ := setMap hs hg l1 l2 (Nat.lt_succ_self ver) (Do.empty (clock := clock))
   refine ⟨rfl, _, ?_, s1, by rw [An]; exact s2⟩
   simp [Builtin.clear_, Af hu, C3 l2, Fx l2]
  ·cases h
 ·cases h;unfold R at hm; obtain ⟨rfl, _⟩ := hm;refine ⟨rfl, w, ?_, hs, Ext.refl _ _ _⟩
  simp [Builtin.clear_, Af hu]
 ·cases h
theorem Zo (hs : Sim P C w σ) {t kt et ty : TypeId} {ti : TI} (hti : Bi P t = some ti) (hd : ti.desc = .map kt et) {m : AV} {M : Value} (hm : R C (nx σ) w m M)
  {u : AV} (h : Sk m σ = some (u, σ')) : σ' = σ /\ Dg P C (nx σ) w (Builtin.len_ #[t] ty #[M]) u := by
 obtain ⟨_, d, _, g2, g3, _⟩ := Az hti
 have hu := g2.trans (by rw [← g3, hd])
 unfold Sk at h
 split at h
 ·rename_i r
  split at h
  ·rename_i kt' es ver hg
   unfold R at hm;obtain ⟨c, rfl, _, hloc⟩ := hm;obtain ⟨c', E, clock, l1, l2, l3⟩ := hs.obj r _ hg;have := hloc c' 0 l1; subst this;simp only [Au, Option.some.injEq, Prod.mk.injEq] at h;obtain ⟨rfl, rfl⟩ := h
   refine ⟨rfl, _, by simp [Builtin.len_, Af hu, C3 l2]; rfl, ?_⟩
   unfold goInt R; rw [l3.count]; rfl
  ·cases h
 ·cases h;unfold R at hm; obtain ⟨rfl, _⟩ := hm
  exact ⟨rfl, _, by simp [Builtin.len_, Af hu]; rfl, by unfold goInt R; rfl⟩
 ·cases h
end
section
variable {P : Program} {C C' : Ctx} {N N' : Nat} {w w' : World} {σ σ' : Sto}
theorem O8 {α : Type} {a b : Array α} (h : a.toList = b.toList) : a = b := Array.ext' h
theorem Zp {E : Array MapEntry} {A B : List MapEntry} {e : MapEntry} (h : E.toList = A ++ e :: B) {V : Value} (hV : e.key = V) : (E.modify A.length fun e => { e with key := V }) = E := by
 apply O8;rw [Array.toList_modify, h, Mr, ← hV]
theorem Vz (hs : Sim P C w σ) {t kt et : TypeId} {ti te : TI} (hti : Bi P t = some ti) (hd : ti.desc = .map kt et) (hte : Bi P et = some te) {z : AV} (hz : I4 te = some z) {k m : AV} {K M : Value} (hk : R C (nx σ) w k K) (hm : R C (nx σ) w m M)
  {u : AV} (h : Oz kt (Hb P kt k) z m σ = some (u, σ')) : Hl P C w σ (Instr.mapEntry t M K) u σ' := by
 obtain ⟨_, d, _, g2, g3, _⟩ := Az hti
 have hu := g2.trans (by rw [← g3, hd])
 obtain ⟨Z, z1, z2⟩ := Xj hte hz;unfold Oz at h
 split at h
 ·rename_i kv r hkv
  obtain ⟨hK, hT⟩ := G1 hkv hk
  split at h
  ·rename_i kt' es ver hg
   split at h
   ·rename_i hb
    have hkt := Nat.eq_of_beq_eq_true hb; subst hkt;unfold R at hm;obtain ⟨c, rfl, hr, hloc⟩ := hm;obtain ⟨c', E, clock, l1, l2, l3⟩ := hs.obj r _ hg;have := hloc c' 0 l1; subst this;rw [Au] at h
    -- the stamp behind the map's step
    have step : ∀ {es' : List (Key × AV)} {E' : Array MapEntry} {clock' : Nat} (m1 : Do P C (nx σ) w kt' es' E' clock') (e : MapEntry) (he : e ∈ E'.toList) (hek : e.key = K) {x : AV} {X : Value} (hx : R C (nx σ) w x X)
      (hrun : (Instr.mapEntry t (.map (some c)) K).run P w = .ok (.tuple #[X, goInt e.born]) { w with heap := w.heap.setIfInBounds c (.map E' clock') }),
      Hl P C w σ (Instr.mapEntry t (.map (some c)) K) (.tup [x, .stp (nx σ)]) ((σ.set r (.map kt' es' (ver + 1))).new (.stamp r (ver + 1) kv)) := by
     intro es' E' clock' m1 e he hek x X hx hrun;obtain ⟨s1, s2⟩ := setMap hs hg l1 l2 (Nat.lt_succ_self ver) m1;have hn : nx (σ.set r (.map kt' es' (ver + 1))) = nx σ := An _ _ _;have hhere := (Nz l2 (.map E' clock')).here
     obtain ⟨s3, s4⟩ := s1.newStamp e.born r (ver + 1) kv (by rw [hn]; exact hr) (fun kt₁ es₁ v₁ hg₁ => by
      rw [Sto.get_set, if_pos rfl] at hg₁; cases hg₁
      exact ⟨nl, fun _ => ⟨c, E', clock', l1, hhere, e, he, by rw [hek]; exact hK, rfl⟩⟩)
     refine ⟨_, _, _, _, hrun, rfl, s3, ?_, ?_⟩
     ·rw [Ap]; rw [hn] at s4 ⊢; exact s2.trans s4
     ·rw [Ap]; rw [hn] at s4 ⊢;unfold R;refine ⟨_, rfl, ?_⟩;unfold RL;refine ⟨R.ext (s2.trans s4) _ _ hx, ?_⟩;unfold RL
      refine ⟨?_, by unfold RL; trivial⟩
      unfold R
      exact ⟨by simp [goInt, Ctx.addStm], Nat.lt_succ_self _⟩
    rcases l3.locate hK hT with ⟨x, hx, q, hq⟩ | ⟨hx, hno, hq⟩
    ·simp only [hx, Option.some.injEq, Prod.mk.injEq] at h;obtain ⟨rfl, rfl⟩ := h
     refine step l3 q.e (by rw [q.hE]; simp) q.key q.val ?_
     have hold := Aib q.hE;simp only [Instr.mapEntry, Sem.run_bind, Af hu, Result.andThen_ok, C3 l2, Dc hT _ 9998, hq w, hold, Option.map_some, Option.getD_some, q.key, Ad0 hT, Fx l2, Zp q.hE q.key, Sem.run_pure]
    ·simp only [hx, Option.some.injEq, Prod.mk.injEq] at h;obtain ⟨rfl, rfl⟩ := h
     refine step (l3.ins hK hT hno (z2 _ _ _)) ⟨K, Z, clock⟩ (by simp) rfl (z2 _ _ _) ?_
     simp only [Instr.mapEntry, Sem.run_bind, Af hu, Result.andThen_ok, C3 l2, Dc hT _ 9998, hq w, Fx l2, z1, Sem.run_pure]
   ·cases h
  ·cases h
 ·cases h
theorem Aom {kt : TypeId} {es : List (Key × AV)} {E : Array MapEntry} {clock : Nat} (h : Do P C N w kt es E clock) {e f : MapEntry} (he : e ∈ E.toList) (hf : f ∈ E.toList) (hb : f.born = e.born) : f = e := by
 obtain ⟨A, B, hE⟩ := List.append_of_mem he;obtain ⟨j, hj⟩ := List.mem_iff_getElem?.1 hf;have hnd := h.apart;rw [hE] at hnd hj;exact (Xi hnd hj hb).2
theorem Aqo {kt : TypeId} {es : List (Key × AV)} {E : Array MapEntry} {clock : Nat} (h : Do P C N w kt es E clock) {e f : MapEntry} (he : e ∈ E.toList) (hf : f ∈ E.toList) (hb : f.key = e.key) : f = e := by
 obtain ⟨A, B, hE⟩ := List.append_of_mem he;obtain ⟨j, hj⟩ := List.mem_iff_getElem?.1 hf;have hnd := h.keys;rw [hE] at hnd hj;exact (Xi hnd hj hb).2
theorem Ab8 {α : Type} (E : Array α) (p : α -> Bool) : E.findIdx? p = E.toList.findIdx? p := by
 cases E; simp
theorem S1 (hs : Sim P C w σ) {t : TypeId} {te : TI} {m st v : AV} {M S V : Value} (hm : R C (nx σ) w m M) (hst : R C (nx σ) w st S) (hv : R C (nx σ) w v V)
  {u : AV} (h : Kx te m st v σ = some (u, σ')) : u = Bd /\ ∃ w', (Instr.entryStore t M S V).run P w = .ok () w' /\ Sim P C w' σ' /\ Ext C (nx σ) w C (nx σ') w' := by
 unfold Kx at h
 split at h
 ·rename_i r a
  split at h
  ·rename_i r' ver kv kt es ver' hga hg
   split at h
   ·rename_i hb
    simp only [Bool.and_eq_true] at hb;have h1 := Nat.eq_of_beq_eq_true hb.1.1; subst h1;have h2 := Nat.eq_of_beq_eq_true hb.1.2; subst h2
    split at h
    ·rename_i x hx
     simp only [Au, Option.some.injEq, Prod.mk.injEq] at h;obtain ⟨rfl, rfl⟩ := h;refine ⟨rfl, ?_⟩;obtain ⟨_, o2⟩ := hs.obj a _ hga;obtain ⟨cm, E, clock, l1, l2, e, he, hek, hstm⟩ := (o2 kt es ver hg).2 rfl;obtain ⟨c', E', clock', l1', l2', l3⟩ := hs.obj r _ hg;rw [l1] at l1'; cases l1';rw [l2] at l2'; cases l2';unfold R at hm hst;obtain ⟨c, rfl, _, hloc⟩ := hm;have := hloc _ _ l1; subst this;obtain ⟨rfl, _⟩ := hst
     rcases l3.locate hek (l3.typed e he) with ⟨x', hx', q, _⟩ | ⟨hx', _⟩
     ·have hqe : q.e = e := Aqo l3 he (by rw [q.hE]; simp) q.key
      obtain ⟨m1, m2⟩ := l3.set q hv;obtain ⟨s1, s2⟩ := setMap hs hg l1 l2 (Nat.lt_succ_self ver) m1
      refine ⟨_, ?_, s1, by rw [An]; exact s2⟩
      have hidx : E.findIdx? (fun f => (f.born : Int) == C.stm a) = some q.A.length := by
       rw [Ab8, q.hE, List.findIdx?_append]
       have hA : List.findIdx? (fun f : MapEntry => (f.born : Int) == C.stm a) q.A = none := by
        rw [List.findIdx?_eq_none_iff];intro f hf;rw [hstm, ← hqe];have hnd := l3.apart;rw [q.hE, List.map_append, List.nodup_append] at hnd
        have := hnd.2.2 f.born (List.mem_map_of_mem hf) q.e.born (by simp)
        exact beq_eq_false_iff_ne.2 fun hh => this (Int.ofNat_inj.1 hh)
       rw [hA]
       simp [List.findIdx?_cons, hstm, hqe]
      have harr : (E.modify q.A.length fun f => { f with val := V }) = E.modify q.A.length fun f => { f with key := e.key, val := V } := by
       apply O8;rw [m2, Array.toList_modify, q.hE, Mr]
      simp only [Instr.entryStore, Sem.run_bind, C3 l2, Result.andThen_ok, asInt, asIntOf, Sem.run_pure, hidx, Fx l2, harr]
     ·rw [hx] at hx'; cases hx'
    ·cases h
   ·cases h
  ·cases h
 ·cases h
theorem Xk (hs : Sim P C w σ) {t kt : TypeId} {u : AV} (h : Sh kt σ = some (u, σ')) : Hl P C w σ (Instr.makeMap t none) u σ' := by
 unfold Sh at h;cases h;have p := Jm w (.map #[] 0)
 obtain ⟨s1, s2⟩ := hs.new p (.map kt [] 0) rfl (fun e => ⟨w.heap.size, #[], 0, by simp [Ctx.add], p.here, Do.empty⟩)
 refine ⟨_, _, _, _, by simp [Instr.makeMap]; rfl, rfl, s1, by rw [Ap]; exact s2, ?_⟩
 rw [Ap]; unfold R
 exact ⟨_, rfl, Nat.lt_succ_self _, fun c' o hc => by simp [Ctx.add] at hc; exact hc.1⟩
theorem V0 (hs : Sim P C w σ) {t kt et : TypeId} {ti : TI} (hti : Bi P t = some ti) (hd : ti.desc = .map kt et) {x : AV} {X : Value} (hx : R C (nx σ) w x X) {u : AV} (h : T5 kt x σ = some (u, σ')) : Hl P C w σ (Instr.makeMap t (some X)) u σ' := by
 obtain ⟨_, d, _, g2, g3, _⟩ := Az hti
 have hu := g2.trans (by rw [← g3, hd])
 unfold T5 at h
 split at h
 ·cases h;unfold R at hx; subst hx;have p := Jm w (.map #[] 0)
  obtain ⟨s1, s2⟩ := hs.new p (.map kt [] 0) rfl (fun e => ⟨w.heap.size, #[], 0, by simp [Ctx.add], p.here, Do.empty⟩)
  refine ⟨_, _, _, _, by simp [Instr.makeMap, Af hu, asInt, asIntOf]; rfl, rfl, s1, by rw [Ap]; exact s2, ?_⟩
  rw [Ap]; unfold R
  exact ⟨_, rfl, Nat.lt_succ_self _, fun c' o hc => by simp [Ctx.add] at hc; exact hc.1⟩
 ·cases h
theorem R.newIt {a c N : Nat} (ha : a < N) (hl : C.loc a = some (c, 0)) : R C N w (.it a) (.pointer (some ⟨c, 0, none⟩)) := by
 unfold R
 exact ⟨c, rfl, ha, fun c' o hc => by rw [hl] at hc; cases hc; rfl⟩
theorem Ab9 (hs : Sim P C w σ) {t kt et : TypeId} {ti : TI} (hti : Bi P t = some ti) (hd : ti.desc = .map kt et) {m : AV} {M : Value} (hm : R C (nx σ) w m M) {u : AV} (h : Abx m σ = some (u, σ')) : Hl P C w σ (Instr.range t M) u σ' := by
 obtain ⟨_, d, _, g2, g3, _⟩ := Az hti
 have hu := g2.trans (by rw [← g3, hd])
 unfold Abx at h
 split at h
 ·cases h;unfold R at hm; obtain ⟨rfl, _⟩ := hm;have p := Jm w (.mapIter none 0 #[] 0)
  obtain ⟨s1, s2⟩ := hs.new p (.iter none 0 [] none) rfl (fun e => ⟨w.heap.size, 0, #[], 0, by simp [Ctx.add], p.here, rfl⟩)
  refine ⟨_, _, _, _, by simp [Instr.range, Af hu]; rfl, rfl, s1, by rw [Ap]; exact s2, ?_⟩
  rw [Ap]; exact R.newIt (Nat.lt_succ_self _) (Ctx.add_loc ..)
 ·rename_i r
  split at h
  ·rename_i kt' es ver hg
   cases h;unfold R at hm;obtain ⟨c, rfl, hr, hloc⟩ := hm;obtain ⟨c', E, clock, l1, l2, l3⟩ := hs.obj r _ hg;have := hloc c' 0 l1; subst this;have p := Jm w (.mapIter (some c) clock #[] clock);have hlt := hs.lt r c 0 l1
   obtain ⟨s1, s2⟩ := hs.new p (.iter (some r) ver es none) rfl (fun e => by
    refine ⟨by rw [Ap]; omega, w.heap.size, c, clock, #[], clock, by simp [Ctx.add], p.here, fun kt₁ es₁ v₁ hg₁ => ?_⟩
    rw [Sto.get_new, if_neg (by omega)] at hg₁
    rw [hg] at hg₁; cases hg₁
    refine ⟨nl, fun _ => ⟨E, by simp only [Ctx.add]; rw [if_neg (by omega)]; exact l1, (p.other c hlt).trans l2, rfl, ?_, fun k v hk => by cases hk⟩⟩
    obtain ⟨L, q1, q2⟩ := l3.perm;rw [Ap]
    exact ⟨L, by rw [List.filter_eq_self.2 (by simp)]; exact q1, q2.ext e⟩)
   refine ⟨_, _, _, _, by simp [Instr.range, Af hu, C3 l2]; rfl, rfl, s1, by rw [Ap]; exact s2, ?_⟩
   rw [Ap]; exact R.newIt (Nat.lt_succ_self _) (Ctx.add_loc ..)
  ·cases h
 ·cases h
theorem Aca (hs : Sim P C w σ) {x : AV} {X : Value} (hx : R C (nx σ) w x X) {u : AV} (h : Wx x σ = some (u, σ')) : σ' = σ /\ Dg P C (nx σ) w (Instr.entry X) u := by
 unfold Wx at h
 split at h
 ·rename_i a
  split at h
  ·rename_i r ver left k v hga
   split at h
   ·rename_i kt es ver' hg
    cases hb : Nat.beq ver ver'
    ·simp [hb] at h
    ·simp only [hb, cond_true, Option.some.injEq, Prod.mk.injEq] at h;obtain ⟨rfl, rfl⟩ := h;have hv := Nat.eq_of_beq_eq_true hb; subst hv;refine ⟨rfl, ?_⟩;obtain ⟨_, c, cm, since, seen, last, o1, o2, o3⟩ := hs.obj a _ hga;obtain ⟨E, l1, l2, hlast, _, hcur⟩ := (o3 kt es ver hg).2 rfl;obtain ⟨e, he, hback, hk, hv⟩ := hcur k v rfl;obtain ⟨c', E', clock', l1', l2', l3⟩ := hs.obj r _ hg;rw [l1] at l1'; cases l1';rw [l2] at l2'; cases l2';unfold R at hx;obtain ⟨c2, rfl, _, hloc⟩ := hx;have := hloc c 0 o1; subst this;refine ⟨.tuple #[e.key, e.val], ?_, ?_⟩
     ·have hfind : E.find? (fun f => f.born == e.born) = some e := by
       cases hf : E.find? (fun f => f.born == e.born) with
       | none =>
        rw [Array.find?_eq_none] at hf
        exact absurd (by simp) (hf e (by simpa using he))
       | some f =>
        have h1 := Array.find?_some hf;have h2 := Array.mem_of_find?_eq_some hf
        have hfe : f = e := Aom l3 he (by simpa using h2) (by simpa using h1)
        rw [hfe]
      have hit : (getObj c2).run P w = .ok (.mapIter (some cm) since seen last) w := by simp only [getObj, Sem.run, o2]
      subst hlast
      simp [Instr.entry, hit, hback, C3 l2, hfind]
     ·unfold R;refine ⟨_, rfl, ?_⟩;unfold RL;refine ⟨KV_R hk (l3.typed e he), ?_⟩;unfold RL
      exact ⟨hv, by unfold RL; trivial⟩
   ·cases h
  ·cases h
 ·cases h
end
end Go.AM
