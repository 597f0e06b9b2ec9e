/- A part of the proof; shortened by program. -/
import Derived.Laws.Tables
import Derived.Laws.Append
import Derived.MapKept
import Derived.Test.YtolkkkghemedjaaGreatDoorP00
set_option maxRecDepth 100000
set_option maxHeartbeats 4000000
set_option linter.unusedSimpArgs false
set_option linter.unusedVariables false
namespace Go.AM
open Go
section
variable {P : Program} {C : Ctx} {N : Nat} {w : World}
theorem Yo {t : TypeId} {x y : AV} {X Y : Value} (hx : R C N w x X) (hy : R C N w y Y) {b : Bool} (h : Ry P t x y = some b) :
  ∃ l m,X = .agg l /\ Y = .agg m /\ EqR P w t X Y b /\ KT P t X := by
 unfold Ry at h
 split at h
 ·rename_i cs ds
  split at h
  ·rename_i k k' hk hk'
   cases h;obtain ⟨v1,t1⟩ := Hh hk hx;obtain ⟨v2,t2⟩ := Hh hk' hy;unfold R at hx hy;obtain ⟨l,rfl,_⟩ := hx;obtain ⟨m,rfl,_⟩ := hy;have := (Aj3 (P := P) (w := w) v1 v2 t1 t2).2;refine ⟨l,m,rfl,rfl,⟨?_,?_⟩,t1⟩
   ·rw [run_eql_struct,this 9998]; rfl
   ·rw [run_neq_struct,this 9998]; rfl
  ·cases h
 ·cases h
theorem Sk {t : TypeId} {l : Array Value} (h : KT P t (.agg l)) : P.eqGuardType P.depth t = false := by
 rcases h with ⟨d,ht,h⟩ | ⟨fs,a,ht,_,h1,h2,h3⟩
 ·unfold KS at h; split at h <;> first | (obtain ⟨_,h⟩ := h; cases h) | exact h.elim
 ·have hd : P.depth = (2 * (P.types.size + Made.depth)) + 1 + 1 := by unfold Program.depth; omega
  rw [hd]
  generalize 2 * (P.types.size + Made.depth) = n
  unfold Program.eqGuardType;rw [ht];simp only [← Array.any_toList]
  have key : ∀ (fs : List Field) (vs : List Value), KFs P fs vs -> (fs.any fun f => f.name != "_" && P.eqGuardType (n + 1) f.type) = false := by
   intro fs
   induction fs with
   | nil => intro vs _; rfl
   | cons f fs ih =>
    intro vs hk;cases vs with
    | nil => unfold KFs at hk; exact hk.elim
    | cons v vs =>
     unfold KFs at hk;obtain ⟨⟨i,d,g1,g2,g3,g4,g5,g6⟩,hk⟩ := hk;simp only [List.any_cons,ih vs hk,ek_]
     have : P.eqGuardType (n + 1) f.type = false := by
      unfold Program.eqGuardType;rw [g2];unfold KS at g5
      split at g5 <;> first | rfl | exact g5.elim
     simp [this]
  exact key _ _ h1
theorem Afg {op : BinOp} {k : FloatKind} {a b : Nat} {v : AV} (h : Ano op k a b = some v) (t : TypeId) :
  ∃ x,(binOp op t (.float k a) (.float k b)).run P w = .ok x w /\ R C N w v x := by
 unfold Ano at h; cases h
theorem Ah5 {op : BinOp} {t : TypeId} {xo yo : Operand} {x y : AV} {X Y : Value} (hx : R C N w x X) (hy : R C N w y Y) {v : AV}
  (h : Aba P op t (Dk xo || Dk yo) x y = some v) : Df P C N w (do eqGuard op t xo yo X Y; binOp op t X Y) v := by
 have fin : ∀ {v : AV},(eqGuard op t xo yo X Y).run P w = .ok () w -> Df P C N w (binOp op t X Y) v -> Df P C N w (do eqGuard op t xo yo X Y; binOp op t X Y) v := by
  intro v h1 ⟨z,h2,h3⟩
  exact ⟨z,by simp only [Sem.run_bind,h1,Result.andThen_ok,h2],h3⟩
 unfold Aba at h
 split at h
 ·rename_i ti hti
  obtain ⟨i,d,_,hd,hdd,_⟩ := Ar hti
  split at h
  ·rename_i k a k' b
   unfold R at hx hy; subst hx; subst hy;cases hk : He k k'
   ·simp [hk] at h
   ·simp only [hk,cond_true] at h;have := (Ks k k').1 hk;subst this
    exact fin (Ej (fun _ _ hh => by cases hh.1) (fun hh => by cases hh.1)) (Afd h t)
  ·unfold R at hx hy;obtain ⟨s,rfl,rfl⟩ := hx;obtain ⟨u,rfl,rfl⟩ := hy
   exact fin (Ej (fun _ _ hh => by cases hh.1) (fun hh => by cases hh.1)) (Afe h t)
  ·rename_i k a k' b
   unfold R at hx hy; subst hx; subst hy
   split at h
   ·rename_i hk
    have := of_decide_eq_true hk;subst this
    exact fin (Ej (fun _ _ hh => by cases hh.1) (fun hh => by cases hh.1)) (Afg h t)
   ·cases h
  ·rename_i a b
   unfold R at hx hy; subst hx; subst hy
   split at h
   ·rename_i hb
    cases h
    have := EqR.bool (w := w) (hd.trans (by rw [← hdd,hb])) a b
    exact fin (Ej (fun _ _ hh => by cases hh.1) (fun hh => by cases hh.1)) ⟨_,this.eql,by unfold R; cases a <;> cases b <;> rfl⟩
   ·rename_i hb
    cases h
    have := EqR.bool (w := w) (hd.trans (by rw [← hdd,hb])) a b
    exact fin (Ej (fun _ _ hh => by cases hh.1) (fun hh => by cases hh.1)) ⟨_,this.neq,by unfold R; cases a <;> cases b <;> rfl⟩
   ·cases h
  ·have other : ∀ b,Lg P ti t (Dk xo || Dk yo) x y = some b -> EqR P w t X Y b /\ (eqGuard op t xo yo X Y).run P w = .ok () w := by
    intro b hb;unfold Lg at hb
    split at hb
    ·rename_i b' hb'
     cases hb
     cases hc : (Dk xo || Dk yo)
     ·simp [hc] at hb'
     ·simp only [hc,cond_true] at hb'
      obtain ⟨h1,h2,h3⟩ := Aff (by rw [hdd]; exact hd) hx hy hb'
      refine ⟨h1,?_⟩
      by_cases hn : X = .nilIface /\ Y = .nilIface
      ·obtain ⟨rfl,rfl⟩ := hn; exact Abd hc
      ·exact Ej (fun l m hh => h2 l hh.1) hn
    ·obtain ⟨l,m,rfl,rfl,h1,h2⟩ := Yo hx hy hb;exact ⟨h1,run_eqGuard_agg w op t xo yo l m (Sk h2)⟩
   split at h
   ·split at h
    ·rename_i b hb
     cases h;obtain ⟨h1,h2⟩ := other b hb
     exact fin h2 ⟨_,h1.eql,by unfold R; rfl⟩
    ·cases h
   ·split at h
    ·rename_i b hb
     cases h;obtain ⟨h1,h2⟩ := other b hb
     exact fin h2 ⟨_,h1.neq,by unfold R; rfl⟩
    ·cases h
   ·cases h
 ·cases h
theorem Al1 {op : UnOp} {x : AV} {X : Value} (hx : R C N w x X) {v : AV} (h : unA op x = some v) : Df P C N w (Op.unary op X) v := by
 unfold unA at h
 split at h
 ·cases h; unfold R at hx; subst hx; exact ⟨_,rfl,by unfold R; rfl⟩
 ·cases h; unfold R at hx; subst hx
  refine ⟨_,by simp [Op.unary,Op.intArith]; rfl,?_⟩
  rw [Ma,T2,Int.zero_sub]; unfold R; rfl
 ·cases h
theorem Qx {x : AV} {n : Nat} {X : Value} (h : Ik x = some n) (hx : R C N w x X) : ∃ k,X = .int k (n : Int) := by
 unfold Ik at h
 split at h
 ·cases h; unfold R at hx; exact ⟨_,hx⟩
 ·cases h
theorem N1 {t : TypeId} {ti : TI} (hti : A4 P t = some ti) {l : List AV} {c o : Nat} (hc : RC C N w c l o) {v : AV} (h : Et ti l = some v) :
  Df P C N w (loadVar t ⟨c,o,none⟩) v := by
 obtain ⟨i,d,h1,h2,h3,h4,_,_,h5⟩ := Ar hti;unfold Et at h;unfold loadVar Df;simp only [Sem.run_bind,Iq h2,Result.andThen_ok];rw [← h5];cases ha : ti.isAgg
 ·simp only [ha] at h;simp only [bo_,if_false]
  split at h
  ·cases h;unfold RC at hc;obtain ⟨⟨x,q1,q2,q3⟩,_⟩ := hc
   exact ⟨x,by simp [q1],q3⟩
  ·cases h
 ·simp only [ha] at h
  split at h
  ·rename_i cs hcs
   cases h;obtain ⟨a,q1,q2,q3⟩ := Abb (P := P) (hc.take _ hcs);have hl := (Gw hcs).2
   refine ⟨.agg a,?_,by unfold R; exact ⟨a,rfl,q2,q3⟩⟩
   simp only [if_true,Sem.run_bind,A9 h1,Result.andThen_ok];rw [← h4,← hl,q1]
   simp
  ·cases h
theorem N2 {U U' : Sto} (hs : Sim P C w U) {t : TypeId} {ti : TI} (hti : A4 P t = some ti) {x : AV} {X : Value} (hx : R C (nx U) w x X) {v : AV} (h : L6 ti x U = some (v,U')) :
  U' = U /\ Df P C (nx U) w (Instr.loadAt t X) v := by
 unfold L6 at h
 split at h
 ·rename_i a off
  split at h
  ·rename_i vs hvs
   split at h
   ·rename_i u hu
    cases h;refine ⟨rfl,?_⟩;unfold R at hx;obtain ⟨ad,rfl,_,hl⟩ := hx;unfold Sto.cells at hvs
    split at hvs
    ·rename_i vs' hg
     cases hvs;obtain ⟨c,o,cs,T,k1,k2,k3⟩ := hs.obj a _ hg;rw [hl c o k1];exact N1 hti (k3.drop off) hu
    ·cases hvs
   ·cases h
  ·cases h
 ·split at h
  ·rename_i u hu
   cases h;refine ⟨rfl,?_⟩;unfold R at hx;obtain ⟨c,o,rfl,_,k3⟩ := hx;exact N1 hti k3 hu
  ·cases h
 ·cases h
theorem Sm {x : AV} {X : Value} (hx : R C N w x X) {n : Nat} {v : AV} (h : Qt x n = some v) : ∃ ad,X = .pointer (some ad) /\ R C N w v (.pointer (some (ad.add n))) := by
 unfold Qt at h
 split at h
 ·rw [Ai] at h;cases h;unfold R at hx;obtain ⟨ad,rfl,h1,h2⟩ := hx;refine ⟨ad,rfl,?_⟩;unfold R
  exact ⟨ad.add n,rfl,h1,fun c o hc => by rw [h2 c o hc,Gb,gk_]⟩
 ·cases h;unfold R at hx;obtain ⟨c,o,rfl,h1,h2⟩ := hx;refine ⟨⟨c,o,none⟩,rfl,?_⟩;rw [Gb];unfold R;refine ⟨c,o + n,rfl,fun hne => h1 ?_,h2.drop n⟩
  intro h; apply hne; rw [h]; simp
 ·cases h
theorem Abe {t : TypeId} {ti : TI} (hti : A4 P t = some ti) {fs : Array Field} (hfs : ti.desc = .struct fs) {i : Nat} {f : Field} (hf : fs.toList[i]? = some f) {tf : TI} (htf : A4 P f.type = some tf)
  (hsz : tf.size ≠ 0) {x : AV} {X : Value} (hx : R C N w x X) {v : AV} (h : Qt x f.offset = some v) : Df P C N w (Instr.fieldAt t X i) v := by
 obtain ⟨_,d,_,h2,h3,_⟩ := Ar hti;obtain ⟨fi,_,g1,_,_,g4,_⟩ := Ar htf;obtain ⟨ad,rfl,hr⟩ := Sm hx h;refine ⟨.pointer (some (ad.add f.offset)),?_,hr⟩;unfold Instr.fieldAt
 have hf' : fs[i]? = some f := by simpa using hf
 simp only [Sem.run_bind,Aa (h2.trans (by rw [← h3,hfs])),Result.andThen_ok,hf',Instr.sureAddr,Sem.run_pure,fieldPlace,A9 g1,Sem.run_ite]
 rw [if_neg (by rw [← g4]; exact hsz)]
 simp
theorem Afh {t : TypeId} {ti : TI} (hti : A4 P t = some ti) {fs : Array Field} (hfs : ti.desc = .struct fs) {i : Nat} {f : Field} (hf : fs.toList[i]? = some f) {tf : TI} (htf : A4 P f.type = some tf)
  {cs : List AV} {X : Value} (hx : R C N w (.agg cs) X) {v : AV} (h : Et tf (cs.drop f.offset) = some v) : Df P C N w (Instr.field t X i) v := by
 obtain ⟨_,d,_,h2,h3,_⟩ := Ar hti
 have hf' : fs[i]? = some f := by simpa using hf
 unfold R at hx;obtain ⟨a,rfl,q1,q2⟩ := hx;unfold Instr.field
 have hp : Df P C N w (part f.type a f.offset) v := by
  obtain ⟨fi,fd,g1,g2,g3,g4,_,_,g5⟩ := Ar htf;unfold Et at h;unfold part Df;simp only [Sem.run_bind,Iq g2,Result.andThen_ok];rw [← g5];have hd := q1.drop f.offset;cases ha : tf.isAgg
  ·simp only [ha] at h;simp only [bo_,if_false]
   split at h
   ·rename_i u r he
    cases h
    have : (cs.drop f.offset)[0]? = some v := by rw [he]; rfl
    obtain ⟨x,k1,k2⟩ := hd.get 0 v this
    have : a[f.offset]? = some x := by simpa using k1
    exact ⟨x,by simp [this],k2⟩
   ·cases h
  ·simp only [ha] at h
   split at h
   ·rename_i l hl
    cases h
    refine ⟨.agg (a.extract f.offset (f.offset + fi.size)),by simp [A9 g1],?_⟩
    obtain ⟨t1,t2⟩ := Gw hl;unfold R;refine ⟨_,rfl,?_,?_⟩
    ·have e : (a.extract f.offset (f.offset + fi.size)).toList = (a.toList.drop f.offset).take tf.size := by
      rw [g4]; simp [fm_]
     rw [e,t1]
     have key : ∀ (n : Nat) (l : List AV) (vs : List Value),RL C N w l vs -> RL C N w (l.take n) (vs.take n) := by
      intro n
      induction n with
      | zero => intro l vs _; simp only [gx_]; unfold RL; trivial
      | succ n ih => intro l vs hl; cases l <;> cases vs <;> unfold RL at hl <;> first | exact hl.elim | (simp only [List.take_nil]; unfold RL; trivial) | (simp only [fq_]; unfold RL; exact ⟨hl.1,ih _ _ hl.2⟩)
     exact key _ _ _ hd
    ·intro y hy;refine q2 y ?_
     simp at hy
     have hm : y ∈ (a.toList.drop f.offset).take fi.size := by simpa [fm_] using hy
     exact en_ (dv_ hm)
   ·cases h
 obtain ⟨x,k1,k2⟩ := hp
 exact ⟨x,by simp only [Sem.run_bind,Aa (h2.trans (by rw [← h3,hfs])),Result.andThen_ok,hf',asAgg,Sem.run_pure,k1],k2⟩
theorem T3 {U U' : Sto} {t e : TypeId} {ti te : TI} (hti : A4 P t = some ti) (hd : ti.desc = .slice e) (hte : A4 P e = some te) {x i : AV} {X I : Value} (hx : R C N w x X) (hi : R C N w i I) {v : AV}
  (h : Hf te.size x i U = some (v,U')) : U' = U /\ Df P C N w (Instr.indexAt t X I) v := by
 obtain ⟨_,d,_,h2,h3,_⟩ := Ar hti;obtain ⟨ei,_,g1,_,_,g4,_⟩ := Ar hte
 have hu := h2.trans (by rw [← h3,hd])
 unfold Hf at h
 split at h
 ·rename_i k n
  unfold R at hi; subst hi
  split at h
  ·rename_i a off sz len cap
   cases hb : Nat.blt n len
   ·simp [hb] at h
   ·simp only [hb,cond_true,Ai,ad_,bc_] at h;obtain ⟨rfl,rfl⟩ := h;have hlt : n < len := aj_ hb;refine ⟨rfl,?_⟩;unfold R at hx;obtain ⟨ad,kk,rfl,q1,q2,q3,q4⟩ := hx;refine ⟨.pointer (some (ad.add (n * ei.size))),?_,?_⟩
    ·unfold Instr.indexAt;simp only [asIntOf,Sem.run_bind,Sem.run_pure,Result.andThen_ok,Aa hu]
     rw [if_pos ⟨by simp,by simpa using hlt⟩]
     simp [A9 g1]
    ·unfold R;refine ⟨_,rfl,q1,fun c o hc => ?_⟩
     rw [(q4 c o hc).1 Om,Gb,g4]; congr 1; omega
  ·rename_i cs sz len cap
   cases hb : Nat.blt n len
   ·simp [hb] at h
   ·simp only [hb,cond_true,ad_,bc_] at h;obtain ⟨rfl,rfl⟩ := h;have hlt : n < len := aj_ hb;refine ⟨rfl,?_⟩;unfold R at hx;obtain ⟨ado,kk,rfl,q2,q3,q4,q0,q567⟩ := hx
    obtain _ | ad := ado
    ·have := q0 rfl; omega
    obtain ⟨q5,q6,q7⟩ := q567 ad rfl;have hsp := q5 Om;obtain ⟨b,o,sp⟩ := ad;simp only at hsp; subst hsp;refine ⟨.pointer (some ⟨b,o + n * ei.size,none⟩),?_,?_⟩
    ·unfold Instr.indexAt;simp only [asIntOf,Sem.run_bind,Sem.run_pure,Result.andThen_ok,Aa hu]
     rw [if_pos ⟨by simp,by simpa using hlt⟩]
     simp [A9 g1,Gb]
    ·unfold R;rw [g4]
     exact ⟨b,_,rfl,fun hne => q6 (fun hh => hne (by rw [hh]; simp)),q7.drop _⟩
  ·cases h
 ·cases h
theorem P9 {U U' : Sto} {t e : TypeId} {len : Nat} {ti te : TI} (hti : A4 P t = some ti) (hd : ti.desc = .array len e) (hte : A4 P e = some te) {x i : AV} {X I : Value} (hx : R C N w x X) (hi : R C N w i I) {v : AV}
  (h : Fh len te.size x i U = some (v,U')) : U' = U /\ Df P C N w (Instr.indexAt t X I) v := by
 obtain ⟨_,d,_,h2,h3,_⟩ := Ar hti;obtain ⟨ei,_,g1,_,_,g4,_⟩ := Ar hte
 have hu := h2.trans (by rw [← h3,hd])
 unfold Fh at h
 split at h
 ·rename_i k n
  unfold R at hi; subst hi;cases hb : Nat.blt n len
  ·simp [hb] at h
  ·simp only [hb,cond_true] at h
   split at h
   ·rename_i u hp
    cases h;have hlt : n < len := aj_ hb;obtain ⟨ad,rfl,hr⟩ := Sm hx hp
    refine ⟨rfl,.pointer (some (ad.add (n * ei.size))),?_,by rw [← g4]; exact hr⟩
    unfold Instr.indexAt;simp only [asIntOf,Sem.run_bind,Sem.run_pure,Result.andThen_ok,Aa hu,Instr.sureAddr]
    rw [if_pos ⟨by simp,by simpa using hlt⟩]
    simp [A9 g1]
   ·cases h
 ·cases h
theorem Afi {s : ByteArray} {n b : Nat} (h : (Bx s)[n]? = some b) : ∃ u : UInt8,s[n]? = some u /\ u.toNat = b := by
 unfold Bx at h;simp only [bp_,do_] at h;obtain ⟨u,h1,h2⟩ := h;refine ⟨u,?_,h2⟩;have hlt : n < s.data.toList.length := (aa_.1 h1).1
 have oy : n < s.size := by simpa using hlt
 rw [getElem?_pos s n oy];have := (aa_.1 h1).2;simp only [Array.getElem_toList] at this;rw [← this]; rfl
theorem Wb {U U' : Sto} {t : TypeId} {ti : TI} (hti : A4 P t = some ti) (hd : ti.desc = .string) {x i : AV} {X I : Value} (hx : R C N w x X) (hi : R C N w i I) {v : AV}
  (h : Ki x i U = some (v,U')) : U' = U /\ Df P C N w (Instr.index t X I) v := by
 obtain ⟨_,d,_,h2,h3,_⟩ := Ar hti
 have hu := h2.trans (by rw [← h3,hd])
 unfold Ki at h
 split at h
 ·rename_i l k n
  split at h
  ·rename_i b hb
   cases h;unfold R at hx hi;subst hi;obtain ⟨s,rfl,rfl⟩ := hx;obtain ⟨u,q1,q2⟩ := Afi hb
   refine ⟨rfl,.int .u8 u.toNat,?_,by unfold R; rw [q2]; rfl⟩
   unfold Instr.index;simp only [asIntOf,Sem.run_bind,Sem.run_pure,Result.andThen_ok,Aa hu]
   have : (if (0 : Int) <= Int.ofNat n then s[(Int.ofNat n).toNat]? else none) = some u := by rw [if_pos (by simp)]; exact q1
   rw [this]
   rfl
  ·cases h
 ·cases h
end
section
variable {P : Program} {C : Ctx} {N : Nat} {w : World}
def RO (C : Ctx) (N : Nat) (w : World) : Option AV -> Option Value -> Prop
 | none,none => True
 | some x,some v => R C N w x v
 | _,_ => False
theorem Gx {n y : Nat} {k : IntKind} {code : BoundsCode} (h : n <= y) : (Instr.sliceBound (.int k (n : Int)) y code).run P w = .ok n w := by
 unfold Instr.sliceBound;simp only [asIntOf,Sem.run_bind,Sem.run_pure,Result.andThen_ok]
 rw [if_pos ⟨by omega,by omega⟩]
 simp
theorem I2 {len cap k : Nat} {acap : Option Nat} (hk : len <= k) (fb : ∀ q,acap = some q -> k = q) {lo hi mx : Option AV} {LO HI MX : Option Value} (h1 : RO C N w lo LO) (h2 : RO C N w hi HI) (h3 : RO C N w mx MX)
  {l h : Nat} {c : Option Nat} (hb : Ci len acap lo hi mx = some (l,h,c)) (sl : Bool) :
  ∃ m,(Instr.sliceBounds sl len k LO HI MX).run P w = .ok (l,h,m) w /\ l <= h /\ h <= m /\ m <= k /\ (∀ q,c = some q -> m - l = q) /\ (mx = none -> m = k /\ c = Il acap l) := by
 have fv : ∀ n,Lf len acap n = true -> n <= k := fun n hn => by
  unfold Lf at hn;cases hb : Nat.ble n len
  ·simp only [hb,cond_false] at hn
   split at hn
   ·rename_i q; have := fb q rfl; have := aj_ hn; omega
   ·cases hn
  ·have := aj_ hb; omega
 unfold Ci at hb
 split at hb
 ·rename_i l' h' hl hh
  have hLO : (LO = none /\ l' = 0) ∨ ∃ kk,LO = some (.int kk (l' : Int)) := by
   cases lo with
   | none =>
    cases LO with
    | none => simp at hl; exact .inl ⟨rfl,hl.symm⟩
    | some _ => unfold RO at h1; exact h1.elim
   | some v =>
    cases LO with
    | none => unfold RO at h1; exact h1.elim
    | some V =>
     unfold RO at h1;simp only at hl;obtain ⟨kk,rfl⟩ := Qx hl h1;exact .inr ⟨kk,rfl⟩
  have hHI : (hi = none /\ HI = none /\ h' = len) ∨ ∃ kk,HI = some (.int kk (h' : Int)) := by
   cases hi with
   | none =>
    cases HI with
    | none => simp at hh; exact .inl ⟨rfl,rfl,hh.symm⟩
    | some _ => unfold RO at h2; exact h2.elim
   | some v =>
    cases HI with
    | none => unfold RO at h2; exact h2.elim
    | some V =>
     unfold RO at h2;simp only at hh;obtain ⟨kk,rfl⟩ := Qx hh h2;exact .inr ⟨kk,rfl⟩
  split at hb
  ·have hMX : MX = none := by
    cases MX with
    | none => rfl
    | some _ => unfold RO at h3; exact h3.elim
   subst hMX;cases hc : (Nat.ble l' h' && Lf len acap h')
   ·simp [hc] at hb
   ·simp only [hc,cond_true,ad_,bc_] at hb;obtain ⟨rfl,rfl,rfl⟩ := hb;simp only [af_] at hc;have hle := aj_ hc.1;have hk' := fv h' hc.2;refine ⟨k,?_,hle,hk',nl,fun q hq => ?_,fun _ => ⟨rfl,rfl⟩⟩
    ·unfold Instr.sliceBounds
     rcases hHI with ⟨_,rfl,rfl⟩ | ⟨kk,rfl⟩ <;> rcases hLO with ⟨rfl,rfl⟩ | ⟨kk',rfl⟩ <;>
      simp only [Sem.run_bind,Sem.run_pure,Result.andThen_ok,Gx hk',Gx hle]
    ·unfold Il at hq
     split at hq
     ·rename_i q'; cases hq; have := fb q' rfl; omega
     ·cases hq
  ·rename_i mv
   split at hb
   ·rename_i m hv hm
    have hMX : ∃ kk,MX = some (.int kk (m : Int)) := by
     cases MX with
     | none => unfold RO at h3; exact h3.elim
     | some V => unfold RO at h3; obtain ⟨kk,rfl⟩ := Qx hm h3; exact ⟨kk,rfl⟩
    obtain ⟨k3,rfl⟩ := hMX;cases hc : (Nat.ble l' h' && Nat.ble h' m && Lf len acap m)
    ·simp [hc] at hb
    ·simp only [hc,cond_true,ad_,bc_] at hb;obtain ⟨rfl,rfl,rfl⟩ := hb;simp only [af_] at hc;have hle := aj_ hc.1.1;have j8 := aj_ hc.1.2;have hk' := fv m hc.2
     refine ⟨m,?_,hle,j8,hk',fun q hq => by cases hq; rfl,fun hh => by cases hh⟩
     unfold Instr.sliceBounds
     rcases hHI with ⟨hn,_,_⟩ | ⟨kk,rfl⟩
     ·cases hn
     ·rcases hLO with ⟨rfl,rfl⟩ | ⟨kk',rfl⟩ <;>
       simp only [Sem.run_bind,Sem.run_pure,Result.andThen_ok,Gx hk',Gx hle,Gx j8]
   ·cases hb
 ·cases hb
theorem Ady {U U' : Sto} {t e : TypeId} {ti te : TI} (hti : A4 P t = some ti) (hd : ti.desc = .slice e) (hte : A4 P e = some te) {x : AV} {X : Value} (hx : R C N w x X) {lo hi mx : Option AV} {LO HI MX : Option Value}
  (h1 : RO C N w lo LO) (h2 : RO C N w hi HI) (h3 : RO C N w mx MX) {v : AV} (h : Lu te.size x lo hi mx U = some (v,U')) : U' = U /\ Df P C N w (Instr.sliceAt t X LO HI MX) v := by
 obtain ⟨_,d,_,g2,g3,_⟩ := Ar hti;obtain ⟨ei,_,e1,_,_,e4,_⟩ := Ar hte
 have hu := g2.trans (by rw [← g3,hd])
 unfold Lu at h
 split at h
 ·rename_i a off sz len cap
  split at h
  ·rename_i hsz
   split at h
   ·rename_i l hh c hb
    simp only [Ai,ad_,bc_] at h;obtain ⟨rfl,rfl⟩ := h;refine ⟨rfl,?_⟩;unfold R at hx;obtain ⟨ad,k,rfl,q1,q2,q3,q4⟩ := hx;obtain ⟨m,b1,b2,b3,b4,b5,_⟩ := I2 (P := P) (cap := 0) q2 q3 h1 h2 h3 hb true
    have hs : sz = ei.size := by rw [← e4]; exact ac_ hsz
    refine ⟨.slice (if m = l then some ad else some (ad.add (l * ei.size))) (hh - l) (m - l),?_,?_⟩
    ·unfold Instr.sliceAt;simp only [Sem.run_bind,Aa hu,Result.andThen_ok];unfold Instr.slice;simp only [Sem.run_bind,Aa hu,Result.andThen_ok,b1,A9 e1,Sem.run_pure,dw_]
    ·unfold R
     refine ⟨if m = l then ad else ad.add (l * ei.size),m - l,by split <;> rfl,q1,by omega,b5,fun c' o hc => ?_⟩
     obtain ⟨q5,q6⟩ := q4 c' o hc;refine ⟨fun cv => ?_,?_⟩
     ·rw [if_neg Om,q5 Om,Gb,hs]; congr 1; omega
     ·have : (m - l) * sz + l * sz <= k * sz := by rw [← fr_]; exact dk_ _ Om
      omega
   ·cases h
  ·cases h
 ·rename_i cs sz len cap
  split at h
  ·rename_i hsz
   split at h
   ·rename_i l hh c hb
    split at h
    ·rename_i cs' hcs
     simp only [Ai,ad_,bc_] at h;obtain ⟨rfl,rfl⟩ := h;refine ⟨rfl,?_⟩;unfold R at hx;obtain ⟨ado,k,rfl,q2,q3,q4,q0,q567⟩ := hx;obtain ⟨m,b1,b2,b3,b4,b5,_⟩ := I2 (P := P) (cap := 0) q2 q3 h1 h2 h3 hb true
     have hs : sz = ei.size := by rw [← e4]; exact ac_ hsz
     obtain ⟨t1,t2⟩ := Gw hcs
     obtain _ | ad := ado
     ·have hk0 := q0 rfl
      have : m = l /\ hh - l = 0 /\ m - l = 0 := by omega
      refine ⟨.slice none (hh - l) (m - l),?_,?_⟩
      ·unfold Instr.sliceAt;simp only [Sem.run_bind,Aa hu,Result.andThen_ok];unfold Instr.slice;simp only [Sem.run_bind,Aa hu,Result.andThen_ok,b1,A9 e1,Sem.run_pure,gr_]
       split <;> rfl
      ·unfold R
       exact ⟨none,m - l,rfl,by omega,b5,t2,fun _ => this.2.2,fun ad ha => by cases ha⟩
     obtain ⟨q5,q6,q7⟩ := q567 ad rfl;refine ⟨.slice (if m = l then some ad else some (ad.add (l * ei.size))) (hh - l) (m - l),?_,?_⟩
     ·unfold Instr.sliceAt;simp only [Sem.run_bind,Aa hu,Result.andThen_ok];unfold Instr.slice;simp only [Sem.run_bind,Aa hu,Result.andThen_ok,b1,A9 e1,Sem.run_pure,dw_]
     ·have hne : cs' ≠ [] -> ¬ m = l := fun hne hml => by
       apply hne
       have : hh - l = 0 := by omega
       rw [this] at t2; simp at t2; exact t2
      unfold R
      refine ⟨some (if m = l then ad else ad.add (l * ei.size)),m - l,by split <;> rfl,by omega,b5,t2,fun hh => (by cases hh),fun ad' ha => ?_⟩
      cases ha;refine ⟨fun cv => ?_,fun ec => ?_,?_⟩
      ·rw [if_neg Om];have := q5 Om;obtain ⟨b,o,sp⟩ := ad;simp only at this; subst this;rw [Gb]
      ·have ol : cs ≠ [] := fun h0 => by
        apply ec; rw [t1,h0]; simp
       rw [if_neg (hne ec)]
       have bv : 0 < k := by
        rcases cy_ k with h0 | h0
        ·exfalso; apply ec; have : hh - l = 0 := by omega
         rw [this] at t2; simpa using t2
        ·exact h0
       have := q5 bv;obtain ⟨b,o,sp⟩ := ad;simp only at this; subst this;rw [Gb];exact q6 ol
      ·by_cases ec : cs' = []
       ·rw [ec]; unfold RC; trivial
       ·rw [if_neg (hne ec)]
        have bv : 0 < k := by
         rcases cy_ k with h0 | h0
         ·exfalso; apply ec; have : hh - l = 0 := by omega
          rw [this] at t2; simpa using t2
         ·exact h0
        have := q5 bv;obtain ⟨b,o,sp⟩ := ad;simp only at this; subst this;rw [Gb,← hs];exact (q7.drop (l * sz)).take _ hcs
    ·cases h
   ·cases h
  ·cases h
 ·split at h
  ·rename_i b hb
   cases h;refine ⟨rfl,?_⟩;obtain ⟨l,hh,c⟩ := b;unfold R at hx;obtain ⟨rfl,hn⟩ := hx
   obtain ⟨m,b1,b2,b3,b4,b5,_⟩ := I2 (P := P) (cap := 0) (k := 0) nl (fun q hq => by cases hq; rfl) h1 h2 h3 hb true
   have : hh - l = 0 /\ m - l = 0 := by omega
   refine ⟨.slice none 0 0,?_,by unfold R; exact ⟨rfl,hn⟩⟩
   unfold Instr.sliceAt;simp only [Sem.run_bind,Aa hu,Result.andThen_ok];unfold Instr.slice;simp only [Sem.run_bind,Aa hu,Result.andThen_ok,b1,A9 e1,Sem.run_pure,gr_,this.1,this.2]
   split <;> rfl
  ·cases h
 ·cases h
theorem Wc (s : ByteArray) (l h : Nat) : Bx (s.extract l h) = ((Bx s).take h).drop l := by
 unfold Bx;rw [fm_]
 simp [ByteArray.data_extract,List.map_take,List.map_drop]
theorem Wd {U U' : Sto} {t : TypeId} {ti : TI} (hti : A4 P t = some ti) (hd : ti.desc = .string) {x : AV} {X : Value} (hx : R C N w x X) {lo hi : Option AV} {LO HI : Option Value}
  (h1 : RO C N w lo LO) (h2 : RO C N w hi HI) {v : AV} (h : Kh x lo hi U = some (v,U')) : U' = U /\ Df P C N w (Instr.sliceAt t X LO HI none) v := by
 obtain ⟨_,d,_,g2,g3,_⟩ := Ar hti
 have hu := g2.trans (by rw [← g3,hd])
 unfold Kh at h
 split at h
 ·rename_i l
  split at h
  ·rename_i a b c hb
   cases h;refine ⟨rfl,?_⟩;unfold R at hx;obtain ⟨s,rfl,rfl⟩ := hx
   obtain ⟨m,b1,b2,b3,b4,b5,_⟩ := I2 (P := P) (cap := 0) (k := (Bx s).length) nl (fun q hq => by cases hq; rfl) h1 h2 (show RO C N w none none by unfold RO; trivial) hb false
   rw [Eu] at b1
   refine ⟨.string (s.extract a b),?_,by unfold R; exact ⟨_,rfl,Wc s a b⟩⟩
   unfold Instr.sliceAt;simp only [Sem.run_bind,Aa hu,Result.andThen_ok];unfold Instr.slice;simp only [Sem.run_bind,Aa hu,Result.andThen_ok,Option.isSome_none,bo_,if_false,b1,Sem.run_pure]
  ·cases h
 ·cases h
theorem Yp {U U' : Sto} {i : Nat} {x : AV} {X : Value} (hx : R C N w x X) {v : AV} (h : L7 i x U = some (v,U')) : U' = U /\ Df P C N w (Instr.extract X i) v := by
 unfold L7 at h
 split at h
 ·split at h
  ·rename_i vs u hu
   cases h;unfold R at hx;obtain ⟨a,rfl,q⟩ := hx;obtain ⟨z,k1,k2⟩ := q.get i _ hu
   have : a[i]? = some z := by simpa using k1
   exact ⟨rfl,z,by simp [Instr.extract,this],k2⟩
  ·cases h
 ·cases h
theorem We {U U' : Sto} {x : AV} {X : Value} (hx : R C N w x X) {v : AV} (h : Im x U = some (v,U')) (dst : Option Tmp) (o : Operand) (J : Operand -> Value) (hJ : J o = X) (ty : TypeId) (pos : String) (after : Array Edge) (g : Option (Nat × Bool)) :
  U' = U /\ (execOp J ⟨dst,.nilCheck o,ty,pos,after,g⟩).run P w = .ok (.value X) w /\ R C N w v X := by
 unfold Im at h
 split at h
 ·cases h;refine ⟨rfl,?_,hx⟩;unfold R at hx;obtain ⟨ad,rfl,_⟩ := hx
  simp [execOp,hJ]
 ·cases h;refine ⟨rfl,?_,hx⟩;unfold R at hx;obtain ⟨c,o',rfl,_⟩ := hx
  simp [execOp,hJ]
 ·cases h;refine ⟨rfl,?_,hx⟩;unfold R at hx;obtain ⟨a,b,rfl,_⟩ := hx
  simp [execOp,hJ]
 ·cases h
theorem Wf {U U' : Sto} {t e : TypeId} {n : Nat} {ti te : TI} (hti : A4 P t = some ti) (hd : ti.desc = .array n e) (hte : A4 P e = some te) {x : AV} {X : Value} (hx : R C N w x X) (j9 : ∀ a vs,U.get a = some (.cells vs) -> vs ≠ [] -> ∃ c o,C.loc a = some (c,o) /\ o + vs.length <= csize w c)
  {lo hi mx : Option AV} {LO HI MX : Option Value}
  (h1 : RO C N w lo LO) (h2 : RO C N w hi HI) (h3 : RO C N w mx MX) {v : AV} (h : Tz n te.size x lo hi mx U = some (v,U')) : U' = U /\ Df P C N w (Instr.sliceAt t X LO HI MX) v := by
 unfold Tz at h; cases h
theorem RC.room : ∀ {vs : List AV} {c o : Nat},RC C N w c vs o -> vs ≠ [] -> o + vs.length <= csize w c
 | [x],c,o,h,_ => by
  unfold RC at h;obtain ⟨⟨v,h1,_⟩,_⟩ := h;unfold World.cell? at h1;unfold csize
  split at h1
  ·rename_i cs _ _ heq
   simp only [heq];simp only [Option.isSome_none,bo_,if_false] at h1;have := (ba_.1 h1).1;simp only [bv_];omega
  ·cases h1
 | x :: y :: r,c,o,h,_ => by
  unfold RC at h
  have := RC.room h.2 (by simp)
  simp only [at_] at *;omega
theorem Abf {U U' : Sto} {t xt : TypeId} {ti : TI} (hti : A4 P t = some ti) (hd : ∀ m,ti.desc ≠ .interface m) {ok : Bool} {x : AV} {X : Value} (hx : R C N w x X) {v : AV} (h : Xk t (Km ti) ok x U = some (v,U')) :
  U' = U /\ Df P C N w (Instr.typeAssert X xt t ok) v := by
 unfold Xk at h; cases h
end
section
variable {P : Program} {C C' : Ctx} {N N' : Nat} {w w' : World}
theorem RL.of_get : ∀ {l : List AV} {vs : List Value},l.length = vs.length -> (∀ (i : Nat) (x : AV),l[i]? = some x -> ∃ v,vs[i]? = some v /\ R C N w x v) -> RL C N w l vs
 | [],[],_,_ => by unfold RL; trivial
 | x :: r,v :: s,hl,h => by
  unfold RL;obtain ⟨v',h1,h2⟩ := h 0 x rfl
  simp at h1; subst h1
  exact ⟨h2,RL.of_get (by simpa using hl) fun i y hy => by have := h (i + 1) y (by simpa using hy); simpa using this⟩
 | [],_ :: _,hl,_ => by simp at hl
 | _ :: _,[],hl,_ => by simp at hl
abbrev gs_ := @RL.of_get
theorem RC.of_get : ∀ {cs : List AV} {c o : Nat},(∀ (i : Nat) (x : AV),cs[i]? = some x -> ∃ v,w.cell? ⟨c,o + i,none⟩ = some v /\ v.oneCell = true /\ R C N w x v) -> RC C N w c cs o
 | [],_,_,_ => by unfold RC; trivial
 | x :: r,c,o,h => by
  unfold RC
  exact ⟨h 0 x rfl,RC.of_get fun i y hy => by have := h (i + 1) y (by simpa using hy); rwa [show o + 1 + i = o + (i + 1) by omega]⟩
abbrev gt_ := @RC.of_get
theorem Mr : ∀ {l : List AV} {off : Nat} {xs l' : List AV},setAt l off xs = some l' ->
  l'.length = l.length /\ off + xs.length <= l.length /\ ∀ j : Nat,l'[j]? = if off <= j /\ j < off + xs.length then xs[j - off]? else l[j]?
 | l,0,[],l',h => by
  have : l = l' := by cases l <;> simpa [setAt] using h
  subst this
  exact ⟨rfl,by simp,fun j => by rw [if_neg (by simp)]⟩
 | y :: r,0,x :: xs,l',h => by
  simp only [setAt] at h
  split at h
  ·rename_i m hm
   cases h;obtain ⟨h1,h2,h3⟩ := Mr hm
   refine ⟨by simp [h1],by simp at h2 ⊢; omega,fun j => ?_⟩
   cases j with
   | zero => rw [if_pos (by simp)]; rfl
   | succ j =>
    have := h3 j;simp only [be_,this];simp only [at_]
    by_cases hj : j < xs.length
    ·rw [if_pos Om,if_pos Om]; simp
    ·rw [if_neg Om,if_neg Om]
  ·cases h
 | y :: r,k + 1,xs,l',h => by
  have h' : ∃ m,setAt r k xs = some m /\ y :: m = l' := by
   cases xs with
   | nil =>
    simp only [setAt] at h;cases hm : setAt r k [] with
    | none => rw [hm] at h; cases h
    | some m => rw [hm] at h; simp only [ad_] at h; exact ⟨m,rfl,h⟩
   | cons x xs =>
    simp only [setAt] at h;cases hm : setAt r k (x :: xs) with
    | none => rw [hm] at h; cases h
    | some m => rw [hm] at h; simp only [ad_] at h; exact ⟨m,rfl,h⟩
  obtain ⟨m,hm,he⟩ := h';subst he
  ·obtain ⟨h1,h2,h3⟩ := Mr hm
   refine ⟨by simp [h1],by simp; omega,fun j => ?_⟩
   cases j with
   | zero => rw [if_neg Om]; rfl
   | succ j =>
    simp only [be_,h3 j]
    by_cases hj : k <= j /\ j < k + xs.length
    ·rw [if_pos hj,if_pos Om,show j + 1 - (k + 1) = j - k by omega]
    ·rw [if_neg hj,if_neg Om]
 | [],0,x :: xs,l',h => by simp [setAt] at h
 | [],k + 1,xs,l',h => by cases xs <;> simp [setAt] at h
theorem RL.set {l xs l' : List AV} {off : Nat} {cs : Array Value} {vs : List Value} (h : RL C N w l cs.toList) (hx : RL C N w xs vs) (hs : setAt l off xs = some l') : RL C N w l' (T1 cs off vs).toList /\ off + vs.length <= cs.size := by
 obtain ⟨h1,h2,h3⟩ := Mr hs;have hl := h.length;have hxl := hx.length
 have hle : off + vs.length <= cs.size := by rw [← hxl]; simp at hl; omega
 refine ⟨gs_ (by rw [h1,hl]; simp [L8]) fun i x hi => ?_,hle⟩
 rw [h3 i] at hi;rw [bb_,Ny vs cs off hle]
 by_cases hc : off <= i /\ i < off + xs.length
 ·rw [if_pos hc] at hi;rw [if_pos Om];exact hx.get _ x hi
 ·rw [if_neg hc] at hi;rw [if_neg Om,← bb_];exact h.get i x hi
theorem Anv {vs : List Value} {cs : Array Value} {off : Nat} (h : ∀ x ∈ cs.toList,x.oneCell = true) (hv : ∀ x ∈ vs,x.oneCell = true) (hle : off + vs.length <= cs.size) : ∀ x ∈ (T1 cs off vs).toList,x.oneCell = true := by
 intro x hx;obtain ⟨i,hi⟩ := dj_.1 hx;rw [bb_,Ny vs cs off hle] at hi
 split at hi
 ·exact hv x (ae_ hi)
 ·exact h x (by rw [← bb_] at hi; exact ae_ hi)
theorem Ah6 (l : List Value) : ∀ (off k : Nat) (cs : Array Value),((l.zipIdx k).foldl (fun cs (x : Value × Nat) => cs.setIfInBounds (off + x.2) x.1) cs) = T1 cs (off + k) l := by
 induction l with
 | nil => intro off k cs; rfl
 | cons v r ih =>
  intro off k cs;simp only [List.zipIdx_cons,fs_,T1];rw [ih off (k + 1)]
  rfl
def Lj (C : Ctx) (N : Nat) (w : World) (place : Nat -> Option (Nat × Nat)) : List (Nat × Nat × AV) -> List (Nat × Value) -> Prop
 | [],[] => True
 | x :: r,p :: s => (place p.1 = some (x.1,x.2.1) /\ R C N w x.2.2 p.2) /\ Lj C N w place r s
 | _,_ => False
theorem Mt {place : Nat -> Option (Nat × Nat)} : ∀ {ps : List (Nat × Nat × AV)} {vs : List (Nat × Value)} {l l' : List AV} {cs : Array Value},Lj C N w place ps vs -> RL C N w l cs.toList -> (∀ x ∈ cs.toList,x.oneCell = true) -> Qc l ps = some l' ->
  ∃ cs',Instr.fill place cs vs = some cs' /\ RL C N w l' cs'.toList /\ (∀ x ∈ cs'.toList,x.oneCell = true) /\ cs'.size = cs.size
 | [],[],l,l',cs,_,h1,h2,h => by
  simp only [Qc,ad_] at h; subst h;exact ⟨cs,rfl,h1,h2,rfl⟩
 | x :: r,p :: s,l,l',cs,hp,h1,h2,h => by
  obtain ⟨off,size,v⟩ := x;obtain ⟨i,V⟩ := p;unfold Lj at hp;obtain ⟨⟨hp1,hp2⟩,hp3⟩ := hp;simp only [Qc] at h
  split at h
  ·rename_i m hm
   split at h
   ·rename_i l1 hl1
    obtain ⟨q1,q2,q3,q4⟩ := H4 hm hp2;obtain ⟨k1,k2⟩ := h1.set q1 hl1;obtain ⟨cs',g1,g2,g3,g4⟩ := Mt hp3 k1 (Anv h2 q4 k2) h
    refine ⟨cs',?_,g2,g3,by rw [g4,L8]⟩
    have hsz : V.cells.toList.length = V.cells.size := by simp
    simp only [Instr.fill,hp1]
    rw [if_neg (by simp; exact ⟨q2,by omega⟩)]
    rw [← g1]
    congr 1
    have := Ah6 V.cells.toList off 0 cs;rw [ev_] at this;rw [← this,← ey_]
    congr 1
    simp
   ·cases h
  ·cases h
 | [],_ :: _,_,_,_,hp,_,_,_ => by unfold Lj at hp; exact hp.elim
 | _ :: _,[],_,_,_,hp,_,_,_ => by unfold Lj at hp; exact hp.elim
end
section
variable {P : Program} {C C' : Ctx} {N N' : Nat} {w w' : World} {U U' : Sto}
theorem Is {c o : Nat} {cs : Array Value} {T : TypeId} {fz : Nat × Nat} (h : w.heap[c]? = some (.cells cs T fz)) : w.cell? ⟨c,o,none⟩ = cs[o]? := by
 unfold World.cell?; simp [h]
theorem Fy {c : Nat} {cs : Array Value} {T : TypeId} {fz : Nat × Nat} (h : w.heap[c]? = some (.cells cs T fz)) : csize w c = cs.size := by
 unfold csize; simp [h]
theorem RC.of_cells {c o : Nat} {cs : Array Value} {T : TypeId} {fz : Nat × Nat} {l : List AV} {vs : List Value} (hh : w.heap[c]? = some (.cells cs T fz)) (h : RL C N w l vs) (h1 : ∀ x ∈ vs,x.oneCell = true)
  (hv : ∀ (i : Nat) (v : Value),vs[i]? = some v -> cs[o + i]? = some v) : RC C N w c l o := by
 refine gt_ fun i x hi => ?_
 obtain ⟨v,k1,k2⟩ := h.get i x hi;exact ⟨v,(Is hh).trans (hv i v k1),h1 v (ae_ k1),k2⟩
abbrev fh_ := @RC.of_cells
theorem So (hs : Sim P C w U) {cs : Array Value} {T : TypeId} {l : List AV} {vs : List Value} (p : Pu w w' (.cells cs T (0,0))) (h : RL C (nx U) w l vs) (h1 : ∀ x ∈ vs,x.oneCell = true)
  (hv : ∀ (i : Nat) (v : Value),vs[i]? = some v -> cs[i]? = some v) :
  Sim P (C.add (nx U) w.heap.size 0) w' (U.new (.cells l)) /\ Ext C (nx U) w (C.add (nx U) w.heap.size 0) (nx U + 1) w' := by
 refine hs.new p (.cells l) rfl fun e => ?_
 refine ⟨w.heap.size,0,cs,T,by simp [Ctx.add],p.here,?_⟩
 rw [Af]
 exact fh_ p.here (h.ext e) h1 fun i v hi => by rw [bq_]; exact hv i v hi
theorem R.newPtr {c o N : Nat} {a : Nat} (ha : a < N) (hl : C.loc a = some (c,o)) : R C N w (.pr a 0) (.pointer (some ⟨c,o,none⟩)) := by
 unfold R;refine ⟨_,rfl,ha,fun c' o' hc => ?_⟩
 rw [hl] at hc; cases hc; simp
theorem R.newSlice {c o N len k sz : Nat} {a : Nat} {cap : Option Nat} (ha : a < N) (hl : C.loc a = some (c,o)) (h1 : len <= k) (h2 : ∀ q,cap = some q -> k = q) (h3 : o + k * sz <= csize w c) :
  R C N w (.sr a 0 sz len cap) (.slice (some ⟨c,o,none⟩) len k) := by
 unfold R;refine ⟨_,k,rfl,ha,h1,h2,fun c' o' hc => ?_⟩
 rw [hl] at hc; cases hc
 exact ⟨fun _ => by simp,by omega⟩
theorem Ctx.add_loc (C : Ctx) (a c o : Nat) : (C.add a c o).loc a = some (c,o) := by simp [Ctx.add]
abbrev es_ := @Ctx.add_loc
theorem Lk (w : World) (O : Obj) : Pu w { w with heap := w.heap.push O } O := gg_ rfl ⟨rfl,rfl⟩
theorem Aql (w : World) (O : Obj) : Pu w { w with heap := w.heap.push O,drawn := w.drawn + 1 } O := gg_ rfl ⟨rfl,rfl⟩
theorem Cr {t : TypeId} {i : TypeInfo} {z : Value} (h : P.info? t = some i) (hz : i.zero = some z) (w : World) : (zeroValue t).run P w = .ok z w := by
 unfold zeroValue; simp [Cp h,hz]
theorem Adz (hs : Sim P C w U) {t : TypeId} {ti : TI} (hti : A4 P t = some ti) {z : List AV} (hz : ti.zero = some z) {v : AV} (h : X9 z U = some (v,U')) : H3 P C w U (Instr.alloc t true (.tuple #[])) v U' := by
 obtain ⟨i,d,g1,g2,g3,g4,_,g6,g7⟩ := Ar hti;rw [g6] at hz;obtain ⟨Z,q1,q2,q3,_,_⟩ := Fw (C := C) (w := w) (N := nx U) hz;unfold X9 at h;cases h;have p := Lk w (.cells Z.cells t (0,0))
 obtain ⟨k1,k2⟩ := So hs p q2 q3 (fun i v hi => by rwa [bb_] at hi)
 refine ⟨_,_,_,_,?_,rfl,k1,by rw [Af]; exact k2,by rw [Af]; exact R.newPtr (bj_ _) (es_ ..)⟩
 unfold Instr.alloc
 simp [Cr g1 q1,newVar,newRow]
theorem Ah7 (hs : Sim P C w U) {t : TypeId} {n : Nat} {x : AV} {X : Value} (hx : R C (nx U) w x X) {v : AV} (h : sBox n x U = some (v,U')) : H3 P C w U (Instr.box t X) v U' := by
 unfold sBox at h
 split at h
 ·rename_i cs hcs
  cases h;obtain ⟨q1,q2,q3,q4⟩ := H4 hcs hx;have p := Lk w (.cells X.cells t (0,0))
  obtain ⟨k1,k2⟩ := So hs p q1 q4 (fun i v hi => by rwa [bb_] at hi)
  refine ⟨_,_,_,_,?_,rfl,k1,by rw [Af]; exact k2,by rw [Af]; exact R.newPtr (bj_ _) (es_ ..)⟩
  unfold Instr.box
  simp [newVar,newRow]
 ·cases h
theorem Mu (z : List AV) : ∀ n,(rep z n).length = n * z.length
 | 0 => by simp [rep]
 | n + 1 => by simp [rep,Mu z n,fv_]; omega
theorem Aj4 (z : List AV) (hz : 0 < z.length) : ∀ (n i : Nat) (x : AV),(rep z n)[i]? = some x -> z[i % z.length]? = some x
 | 0,i,x,h => by simp [rep] at h
 | n + 1,i,x,h => by
  simp only [rep] at h
  by_cases hi : i < z.length
  ·rw [bk_ hi] at h;rw [Nat.mod_eq_of_lt hi]; exact h
  ·rw [ch_ Om] at h;have := Aj4 z hz n _ x h;rw [Nat.mod_eq_sub_mod Om]; exact this
theorem RL.rep {z : List AV} {zc : Array Value} (h : RL C N w z zc.toList) (n : Nat) : RL C N w (rep z n) ((Array.range (n * zc.size)).map (zc[· % zc.size]!)).toList := by
 have hl := h.length
 have hl' : z.length = zc.size := by simpa using hl
 refine gs_ (by rw [Mu]; simp [hl']) fun i x hi => ?_
 have hb := (aa_.1 hi).1;rw [Mu] at hb
 have hz : 0 < z.length := by
  rcases cy_ z.length with h0 | h0
  ·rw [h0] at hb; omega
  ·exact h0
 obtain ⟨v,k1,k2⟩ := h.get _ _ (Aj4 z hz n i x hi);refine ⟨v,?_,k2⟩;rw [hl'] at k1 hb
 have k1' : zc[i % zc.size]? = some v := by simpa using k1
 simp only [cb_,bp_,bb_,Array.getElem?_range]
 simp [hb,getElem!_def,k1']
theorem N3 {zc : Array Value} (h : ∀ x ∈ zc.toList,x.oneCell = true) (n : Nat) : ∀ x ∈ ((Array.range (n * zc.size)).map (zc[· % zc.size]!)).toList,x.oneCell = true := by
 intro x hx;simp only [cb_,cr_] at hx;obtain ⟨i,h1,rfl⟩ := hx
 have hi : i < n * zc.size := by simpa using h1
 have hz : 0 < zc.size := by
  rcases cy_ zc.size with h0 | h0
  ·rw [h0] at hi; omega
  ·exact h0
 have hm : i % zc.size < zc.size := Nat.mod_lt _ hz;rw [getElem!_pos zc _ hm]
 exact h _ (by simp)
end
section
variable {P : Program} {C C' : Ctx} {N N' : Nat} {w w' : World} {U U' : Sto}
theorem Mv : ∀ {fs : List Field},Pc P fs = true -> ∃ places,fs.mapM (fun f => (P.info? f.type).map fun i => (f.offset,i.size)) = some places /\
  ∀ (i : Nat) (f : Field),fs[i]? = some f -> ∃ fi,P.info? f.type = some fi /\ places[i]? = some (f.offset,fi.size)
 | [],_ => ⟨[],by simp,fun i f h => by simp at h⟩
 | f :: r,h => by
  simp only [Pc] at h
  split at h
  ·rename_i fi hfi
   obtain ⟨pl,h1,h2⟩ := Mv h
   refine ⟨(f.offset,fi.size) :: pl,by simp [gy_,hfi,h1],fun i g hg => ?_⟩
   cases i with
   | zero => simp at hg; subst hg; exact ⟨fi,hfi,rfl⟩
   | succ i => obtain ⟨gi,k1,k2⟩ := h2 i g (by simpa using hg); exact ⟨gi,k1,by simpa using k2⟩
  ·cases h
theorem Qg {E : Env} {tm : Tr AV} {a : Act} (hE : E.P = P) (hg : Gc C N w E) (ht : TR C N w tm a.tmps) {fs : List Field} {place : Nat -> Option (Nat × Nat)}
  (hp : ∀ (i : Nat) (f : Field),fs[i]? = some f -> ∃ fi,P.info? f.type = some fi /\ place i = some (f.offset,fi.size)) :
  ∀ {parts : List (Nat × Operand)} {ps : List (Nat × Nat × AV)},I1 P E tm fs parts = some ps -> Lj C N w place ps (parts.map fun (i,x) => (i,a.eval x))
 | [],ps,h => by simp only [I1,ad_] at h; subst h; simp only [dq_]; unfold Lj; trivial
 | (i,x) :: r,ps,h => by
  simp only [I1] at h
  split at h
  ·rename_i f l hf hl
   split at h
   ·rename_i ti hti
    cases h;obtain ⟨fi,d,g1,_,_,g4,_⟩ := Ar hti;obtain ⟨fi',k1,k2⟩ := hp i f hf;rw [g1] at k1; cases k1;simp only [ck_];unfold Lj
    exact ⟨⟨by rw [k2,g4],Br hg ht x⟩,Qg hE hg ht hp hl⟩
   ·cases h
  ·cases h
theorem I3 {E : Env} {tm : Tr AV} {a : Act} (hg : Gc C N w E) (ht : TR C N w tm a.tmps) (size : Nat) :
  ∀ (parts : List (Nat × Operand)),Lj C N w (fun i => some (i * size,size)) (G0 E tm size parts) (parts.map fun (i,x) => (i,a.eval x))
 | [] => by simp only [G0,dq_]; unfold Lj; trivial
 | (i,x) :: r => by
  simp only [G0,ck_];unfold Lj;exact ⟨⟨rfl,Br hg ht x⟩,I3 hg ht size r⟩
theorem Sp {t : TypeId} {ti : TI} (hti : A4 P t = some ti) {fs : Array Field} (hd : ti.desc = .struct fs) {z : List AV} (hz : ti.zero = some z) (hi : Pc P fs.toList = true)
  {ps : List (Nat × Nat × AV)} {parts : Array (Nat × Value)} {place : Nat -> Option (Nat × Nat)}
  (i3 : ∀ places,fs.toList.mapM (fun f => (P.info? f.type).map fun i => (f.offset,i.size)) = some places -> place = (places.toArray[·]?))
  (hp : Lj C N w place ps parts.toList) {v : AV} (h : Lt z ps U = some (v,U')) : U' = U /\ Df P C N w (Instr.build t parts) v := by
 obtain ⟨i,d,g1,g2,g3,g4,_,g6,g7⟩ := Ar hti;rw [g6] at hz;obtain ⟨Z,q1,q2,q3,_,_⟩ := Fw (C := C) (w := w) (N := N) hz;obtain ⟨pl,h1,_⟩ := Mv hi
 have hu := g2.trans (by rw [← g3,hd])
 unfold Lt at h
 split at h
 ·rename_i cs hcs
  cases h;obtain ⟨cs',k1,k2,k3,_⟩ := Mt hp q2 q3 hcs
  refine ⟨rfl,.agg cs',?_,by unfold R; exact ⟨_,rfl,k2,k3⟩⟩
  rw [i3 pl h1] at k1;refine run_build w t parts cs' ?_;unfold Program.built;simp only [g1,hu,q1,h1];exact k1
 ·cases h
theorem Yq {t e : TypeId} {n : Nat} {ti te : TI} (hti : A4 P t = some ti) (hd : ti.desc = .array n e) (hte : A4 P e = some te) {z : List AV} (hz : ti.zero = some z)
  {ps : List (Nat × Nat × AV)} {parts : Array (Nat × Value)}
  (hp : Lj C N w (fun i => some (i * te.size,te.size)) ps parts.toList) {v : AV} (h : Lt z ps U = some (v,U')) : U' = U /\ Df P C N w (Instr.build t parts) v := by
 obtain ⟨i,d,g1,g2,g3,g4,_,g6,g7⟩ := Ar hti;obtain ⟨ei,_,e1,_,_,e4,_⟩ := Ar hte;rw [g6] at hz;obtain ⟨Z,q1,q2,q3,_,_⟩ := Fw (C := C) (w := w) (N := N) hz
 have hu := g2.trans (by rw [← g3,hd])
 unfold Lt at h
 split at h
 ·rename_i cs hcs
  cases h;obtain ⟨cs',k1,k2,k3,_⟩ := Mt hp q2 q3 hcs
  refine ⟨rfl,.agg cs',?_,by unfold R; exact ⟨_,rfl,k2,k3⟩⟩
  unfold Instr.build;simp only [Sem.run_bind,Cr g1 q1,Result.andThen_ok,Aa hu,A9 e1];rw [e4] at k1;simp only [k1,Sem.run_pure]
 ·cases h
theorem Al2 {e : TypeId} {ei : TypeInfo} {Z : Value} (h : P.info? e = some ei) (hz : ei.zero = some Z) (hsz : Z.cells.size = ei.size) (n : Nat) :
  ∃ zc,(∀ {α : Type} (K : Array Value -> Sem α),(if n * ei.size = 0 then do let zero ← pure #[]; K zero else do let l ← zeroValue e; let zero ← pure l.cells; K zero).run P w = (K zc).run P w) /\
   (Array.range (n * ei.size)).map (zc[· % zc.size]!) = (Array.range (n * Z.cells.size)).map (Z.cells[· % Z.cells.size]!) := by
 by_cases h0 : n * ei.size = 0
 ·refine ⟨#[],fun K => by rw [if_pos h0]; simp,?_⟩
  rw [hsz,h0]; simp
 ·refine ⟨Z.cells,fun K => by rw [if_neg h0]; simp [Cr h hz],by rw [hsz]⟩
theorem Ll (hs : Sim P C w U) {t e : TypeId} {len : Nat} {ti te : TI} (hti : A4 P t = some ti) (hd : ti.desc = .slice e) (hte : A4 P e = some te) {z : List AV} (hz : te.zero = some z) (hzl : z.length = te.size)
  (bz : len * te.size <= 16777216) {byref : Bool} {ps : List (Nat × Nat × AV)} {parts : Array (Nat × Value)}
  (hp : Lj C (nx U) w (fun i => some (i * te.size,te.size)) ps parts.toList) {v : AV} (h : Fv z te.size len byref ps U = some (v,U')) :
  H3 P C w U (Instr.buildSlice t len parts) v U' /\ (byref = false -> U' = U) := by
 obtain ⟨i,d,g1,g2,g3,g4,_,_,_⟩ := Ar hti;obtain ⟨ei,ed,e1,e2,e3,e4,_,e6,e7⟩ := Ar hte;rw [e6] at hz;obtain ⟨Z,q1,q2,q3,_,_⟩ := Fw (C := C) (w := w) (N := nx U) hz
 have hu := g2.trans (by rw [← g3,hd])
 have hZ : Z.cells.size = ei.size := by have := q2.length; simp at this; omega
 obtain ⟨zc,r1,r2⟩ := Al2 (P := P) (w := w) e1 q1 hZ len;unfold Fv at h
 split at h
 ·rename_i cs hcs
  obtain ⟨cs',k1,k2,k3,k4⟩ := Mt hp (q2.rep len) (N3 q3 len) hcs
  have bx : (Instr.buildSlice t len parts).run P w = .ok (.slice (some ⟨w.heap.size,0,none⟩) len len) { w with heap := w.heap.push (.cells cs' e) } := by
   unfold Instr.buildSlice;simp only [Sem.run_bind,Result.andThen_ok,Aa hu,A9 e1]
   rw [Sem.run_ite,if_neg (by rw [← e4]; omega)]
   rw [r1];simp only [r2];rw [e4] at k1;simp only [k1]
   simp [newRow]
  have p := Lk w (.cells cs' e (0,0))
  have ef : cs'.size = len * te.size := by rw [k4]; simp [hZ,e4]
  cases byref with
  | true =>
   simp only [ad_,bc_] at h;obtain ⟨rfl,rfl⟩ := h
   obtain ⟨s1,s2⟩ := So hs p k2 k3 (fun i v hi => by rwa [bb_] at hi)
   refine ⟨⟨_,_,_,_,bx,rfl,s1,by rw [Af]; exact s2,?_⟩,fun hh => by cases hh⟩
   rw [Af]
   refine R.newSlice (bj_ _) (es_ ..) nl (fun q hq => by cases hq; rfl) ?_
   rw [Fy p.here,ef]; omega
  | false =>
   simp only [ad_,bc_] at h;obtain ⟨rfl,rfl⟩ := h;obtain ⟨s1,s2⟩ := hs.push p;refine ⟨⟨_,_,_,_,bx,rfl,s1,s2,?_⟩,fun _ => rfl⟩
   have hl := k2.length;unfold R
   refine ⟨some ⟨w.heap.size,0,none⟩,len,rfl,nl,fun q hq => by cases hq; rfl,by simp at hl; omega,fun hh => (by cases hh),fun ad ha => ?_⟩
   cases ha;refine ⟨fun _ => rfl,fun _ ho => ?_,?_⟩
   ·have := hs.own_lt ho; simp at this
   ·exact fh_ p.here (k2.ext s2) k3 fun i v hi => by simpa using hi
 ·cases h
end
section
variable {P : Program} {C C' : Ctx} {N N' : Nat} {w w' : World} {U U' : Sto}
theorem Sto.cells_get {a : Nat} {vs : List AV} (h : U.cells a = some vs) : U.get a = some (.cells vs) := by
 unfold Sto.cells at h
 split at h
 ·rename_i vs' hg; cases h; exact hg
 ·cases h
abbrev ez_ := @Sto.cells_get
theorem Qy (hs : Sim P C w U) {a off : Nat} {vs vs' l : List AV} {xs : List Value} (hg : U.get a = some (.cells vs)) (ct : setAt vs off l = some vs') (hl : RL C (nx U) w l xs) (h1 : ∀ x ∈ xs,x.oneCell = true) :
  ∃ c o w',C.loc a = some (c,o) /\ (storeCells ⟨c,o + off,none⟩ xs).run P w = .ok () w' /\ Sim P C w' (U.set a (.cells vs')) /\ Ext C (nx U) w C (nx U) w' := by
 obtain ⟨c,o,cs,T,k1,k2,k3⟩ := hs.obj a _ hg;obtain ⟨s1,s2,s3⟩ := Mr ct;have bv := hl.length
 have dg : xs ≠ [] -> o + off + xs.length <= cs.size := fun hne => by
  have hv : vs ≠ [] := fun h0 => by
   apply hne
   have : l.length = 0 := by rw [h0] at s2; simp only [cs_] at s2; omega
   exact bl_ Om
  have := k3.room hv;rw [Fy k2] at this; omega
 have hw : ∃ w',(storeCells ⟨c,o + off,none⟩ xs).run P w = .ok () w' /\ Wr w w' c (.cells (T1 cs (o + off) xs) T (0,0)) := by
  by_cases hx : xs = []
  ·subst hx; exact ⟨w,by simp [storeCells],rfl,k2,fun _ _ => rfl,rfl,rfl⟩
  ·exact Kp xs w c (o + off) 0 cs T k2 h1 (dg hx)
 obtain ⟨w',r1,r2⟩ := hw;refine ⟨c,o,w',k1,r1,?_⟩
 refine hs.upd k1 r2 (by rw [Fy r2.here,Fy k2,L8]) hg (.cells vs') rfl (fun _ _ _ h => by cases h) fun e => ?_
 refine ⟨c,o,_,T,k1,r2.here,?_⟩;rw [Ac];refine gt_ fun i x hi => ?_
 rw [s3 i] at hi;rw [Is r2.here]
 by_cases hx : xs = []
 ·subst hx
  simp at bv
  rw [if_neg (by simp [bv])] at hi
  obtain ⟨v,q1,q2,q3⟩ := k3.get i x hi;rw [Is k2] at q1;exact ⟨v,q1,q2,R.ext e _ _ q3⟩
 ·have hr := dg hx;rw [Ny xs cs (o + off) hr]
  by_cases hc : off <= i /\ i < off + l.length
  ·rw [if_pos hc] at hi;rw [if_pos Om];obtain ⟨v,q1,q2⟩ := hl.get _ x hi
   exact ⟨v,by rw [← q1]; congr 1; omega,h1 v (ae_ q1),R.ext e _ _ q2⟩
  ·rw [if_neg hc] at hi;rw [if_neg Om];obtain ⟨v,q1,q2,q3⟩ := k3.get i x hi;rw [Is k2] at q1;exact ⟨v,q1,q2,R.ext e _ _ q3⟩
theorem Ad0 (hs : Sim P C w U) {t : TypeId} {ti : TI} (hti : A4 P t = some ti) {x v : AV} {X V : Value} (hx : R C (nx U) w x X) (hv : R C (nx U) w v V) {u : AV} (h : Adt ti.size x v U = some (u,U')) :
  u = Au /\ ∃ w',(Instr.storeAt t X V).run P w = .ok () w' /\ Sim P C w' U' /\ Ext C (nx U) w C (nx U') w' := by
 obtain ⟨i,d,g1,g2,g3,g4,_⟩ := Ar hti;unfold Adt at h
 split at h
 ·rename_i a off l hl
  split at h
  ·rename_i vs hvs
   split at h
   ·rename_i vs' ct
    cases h;obtain ⟨q1,q2,q3,q4⟩ := H4 hl hv;obtain ⟨c,o,w',r1,r2,r3,r4⟩ := Qy hs (ez_ hvs) ct q1 q4
    refine ⟨rfl,w',?_,r3,by rw [Ac]; exact r4⟩
    unfold R at hx;obtain ⟨ad,rfl,_,hl⟩ := hx;rw [hl c o r1];unfold Instr.storeAt storeVar;simp only [Instr.sureAddr,Sem.run_bind,Sem.run_pure,Result.andThen_ok,A9 g1,Sem.run_ite]
    rw [if_neg (by rw [q2,g4]; simp)]
    first | exact r2 | (simp only [Sem.run_bind,Sem.run_pure,Result.andThen_ok]; exact r2)
   ·cases h
  ·cases h
 ·cases h
theorem Gd (z : Array Value) (n : Nat) : Builtin.zeroCells z n = (Array.range (n * z.size)).map (z[· % z.size]!) := rfl
theorem Ad1 (hs : Sim P C w U) {t e ty : TypeId} {ti te : TI} (hti : A4 P t = some ti) (hd : ti.desc = .slice e) (hte : A4 P e = some te) {z : List AV} (hz : te.zero = some z) (hzl : z.length = te.size)
  {x : AV} {X : Value} (hx : R C (nx U) w x X) {u : AV} (h : Adv z te.size x U = some (u,U')) :
  u = Au /\ ∃ w',(Builtin.clear_ #[t] ty #[X]).run P w = .ok (.tuple #[]) w' /\ Sim P C w' U' /\ Ext C (nx U) w C (nx U') w' := by
 obtain ⟨i,d,g1,g2,g3,g4,_,_,_⟩ := Ar hti;obtain ⟨ei,ed,e1,e2,e3,e4,_,e6,e7⟩ := Ar hte;rw [e6] at hz;obtain ⟨Z,q1,q2,q3,_,_⟩ := Fw (C := C) (w := w) (N := nx U) hz
 have hu := g2.trans (by rw [← g3,hd])
 have hZ : z.length = Z.cells.size := by have := q2.length; simpa using this
 unfold Adv at h
 split at h
 ·rename_i a off sz len cap
  split at h
  ·rename_i vs hsz hvs
   split at h
   ·rename_i vs' ct
    cases h;refine ⟨rfl,?_⟩;obtain ⟨c,o,w',r1,r2,r3,r4⟩ := Qy (P := P) hs (ez_ hvs) ct (q2.rep len) (N3 q3 len)
    refine ⟨w',?_,r3,by rw [Ac]; exact r4⟩
    unfold R at hx;obtain ⟨ad,k,rfl,_,hk,_,hl⟩ := hx;unfold Builtin.clear_;cases len with
    | zero =>
     have : w' = w := by
      have : ((Array.range (0 * Z.cells.size)).map (Z.cells[· % Z.cells.size]!)).toList = [] := by simp
      rw [this] at r2; simp [storeCells] at r2; exact r2.symm
     subst this
     simp [Aa hu]
    | succ n =>
     rw [(hl c o r1).1 Om];simp only [cb_,Array.toList_range] at r2
     simp [Aa hu,Cr e1 q1,Gd,r2]
   ·cases h
  ·cases h
 ·cases h;unfold R at hx;obtain ⟨rfl,_⟩ := hx;refine ⟨rfl,w,?_,hs,by_ _ _ _⟩;unfold Builtin.clear_; simp [Aa hu]
 ·cases h;unfold R at hx;obtain ⟨ad,k,rfl,_⟩ := hx;refine ⟨rfl,w,?_,hs,by_ _ _ _⟩;cases ad <;> (unfold Builtin.clear_; simp [Aa hu])
 ·cases h
theorem T4 {c b : Nat} (h : c * (b + 1) <= sizeLim) : c <= sizeLim /\ c * b <= sizeLim := by
 have h1 : c * 1 <= c * (b + 1) := Nat.mul_le_mul_left _ Om;have h2 : c * b <= c * (b + 1) := Nat.mul_le_mul_left _ Om
 constructor <;> omega
theorem Yr {n : Nat} (h : n <= sizeLim) : IntKind.i64.wrap (Int.ofNat n) = Int.ofNat n :=
 N0 .i64 _ (by simp only [Ls]; rw [Nat.ble_eq]; unfold sizeLim at h; omega)
theorem T5 (hs : Sim P C w U) {t e : TypeId} {ti te : TI} (hti : A4 P t = some ti) (hd : ti.desc = .slice e) (hte : A4 P e = some te) {z : List AV} (hz : te.zero = some z) (hzl : z.length = te.size)
  {l c : AV} {L K : Value} (hl : R C (nx U) w l L) (hc : R C (nx U) w c K) {v : AV} (h : Qu z te.size te.bytes l c U = some (v,U')) : H3 P C w U (Instr.makeSlice t L K) v U' := by
 unfold Qu at h; cases h
end
section
variable {P : Program} {C C' : Ctx} {N N' : Nat} {w w' : World} {U U' : Sto}
theorem RL.take : ∀ (n : Nat) {l : List AV} {vs : List Value},RL C N w l vs -> RL C N w (l.take n) (vs.take n)
 | 0,_,_,_ => by simp only [gx_]; unfold RL; trivial
 | n + 1,[],[],_ => by simp only [List.take_nil]; unfold RL; trivial
 | n + 1,x :: r,v :: s,h => by
  unfold RL at h;simp only [fq_]; unfold RL;exact ⟨h.1,RL.take n h.2⟩
 | _ + 1,[],_ :: _,h => by unfold RL at h; exact h.elim
 | _ + 1,_ :: _,[],h => by unfold RL at h; exact h.elim
theorem Ah8 {t : TypeId} {tf : TI} (htf : A4 P t = some tf) {cs : List AV} {a : Array Value} (q1 : RL C N w cs a.toList) (q2 : ∀ x ∈ a.toList,x.oneCell = true) {off : Nat} {v : AV} (h : Et tf (cs.drop off) = some v) :
  Df P C N w (part t a off) v := by
 obtain ⟨fi,fd,g1,g2,g3,g4,_,_,g5⟩ := Ar htf;unfold Et at h;unfold part Df;simp only [Sem.run_bind,Iq g2,Result.andThen_ok];rw [← g5];have hd := q1.drop off;cases ha : tf.isAgg
 ·simp only [ha] at h;simp only [bo_,if_false]
  split at h
  ·rename_i u r he
   cases h
   have : (cs.drop off)[0]? = some v := by rw [he]; rfl
   obtain ⟨x,k1,k2⟩ := hd.get 0 v this
   have : a[off]? = some x := by simpa using k1
   exact ⟨x,by simp [this],k2⟩
  ·cases h
 ·simp only [ha] at h
  split at h
  ·rename_i l hl
   cases h
   refine ⟨.agg (a.extract off (off + fi.size)),by simp [A9 g1],?_⟩
   obtain ⟨t1,t2⟩ := Gw hl;unfold R;refine ⟨_,rfl,?_,?_⟩
   ·have e : (a.extract off (off + fi.size)).toList = (a.toList.drop off).take tf.size := by
     rw [g4]; simp [fm_]
    rw [e,t1];exact hd.take _
   ·intro y hy;refine q2 y ?_
    simp at hy
    have hm : y ∈ (a.toList.drop off).take fi.size := by simpa [fm_] using hy
    exact en_ (dv_ hm)
  ·cases h
theorem Wg {t e : TypeId} {len : Nat} {ti te : TI} (hti : A4 P t = some ti) (hd : ti.desc = .array len e) (hte : A4 P e = some te) {x i : AV} {X I : Value} (hx : R C N w x X) (hi : R C N w i I) {v : AV}
  (h : Io te len x i U = some (v,U')) : U' = U /\ Df P C N w (Instr.index t X I) v := by
 obtain ⟨_,d,_,h2,h3,_⟩ := Ar hti;obtain ⟨ei,_,g1,_,_,g4,_⟩ := Ar hte
 have hu := h2.trans (by rw [← h3,hd])
 unfold Io at h
 split at h
 ·rename_i cs k n
  cases hb : Nat.blt n len
  ·simp [hb] at h
  ·simp only [hb,cond_true] at h
   split at h
   ·rename_i u hu'
    cases h;have hlt : n < len := aj_ hb;unfold R at hx hi;subst hi;obtain ⟨a,rfl,q1,q2⟩ := hx;obtain ⟨z,k1,k2⟩ := Ah8 (P := P) hte q1 q2 hu';refine ⟨rfl,z,?_,k2⟩;unfold Instr.index;simp only [asIntOf,Sem.run_bind,Sem.run_pure,Result.andThen_ok,Aa hu]
    rw [if_pos ⟨by simp,by simpa using hlt⟩]
    rw [g4] at k1
    simp [A9 g1,k1]
   ·cases h
 ·cases h
theorem Uw : ∀ (l : List Nat) (i : Nat),(H1 l)[i]? = (l[i]?).map fun b => .int .u8 (.ofNat b)
 | [],i => by simp [H1]
 | b :: r,0 => by simp [H1]
 | b :: r,i + 1 => by simp [H1,Uw r i]
theorem N4 (l : List Nat) : (H1 l).length = l.length := by induction l with | nil => rfl | cons b r ih => simp [H1,ih]
theorem RL.bytes (s : ByteArray) : RL C N w (H1 (Bx s)) ((s.data.map fun b => Value.int .u8 b.toNat).toList) := by
 refine gs_ (by rw [N4]; simp [Bx]) fun i x hi => ?_
 rw [Uw] at hi;unfold Bx at hi;simp only [bp_,Option.map_map,do_] at hi;obtain ⟨b,h1,h2⟩ := hi
 refine ⟨.int .u8 b.toNat,by simp only [cb_,bp_,h1]; rfl,?_⟩
 rw [← h2]; unfold R; rfl
theorem Qh (s : ByteArray) : ∀ x ∈ (s.data.map fun b => Value.int .u8 b.toNat).toList,x.oneCell = true := by
 intro x hx;simp only [cb_,cr_] at hx;obtain ⟨b,_,rfl⟩ := hx; rfl
theorem Ku : ∀ (cs : List AV) (c o i : Nat) (acc : Array Value),RC C N w c cs (o + i) ->
  ∃ l,(∀ k,(loadCellsFrom ⟨c,o,none⟩ i cs.length acc).run P { w with drawn := k } = .ok (acc ++ l.toArray) { w with drawn := k }) /\ RL C N w cs l /\ ∀ x ∈ l,x.oneCell = true
 | [],c,o,i,acc,_ => ⟨[],by simp [loadCellsFrom],by unfold RL; trivial,by simp⟩
 | x :: r,c,o,i,acc,h => by
  unfold RC at h;obtain ⟨⟨v,h1,h2,h3⟩,h4⟩ := h;obtain ⟨l,k1,k2,k3⟩ := Ku r c o (i + 1) (acc.push v) h4
  refine ⟨v :: l,fun k => ?_,by unfold RL; exact ⟨h3,k2⟩,by simpa [h2] using k3⟩
  have h1' : World.cell? { w with drawn := k } ⟨c,o + i,none⟩ = some v := h1;simp only [at_,loadCellsFrom,Sem.run_bind,run_load,Gb,h1',Result.andThen_ok,k1]
  simp
theorem N5 {cs : List AV} {c o : Nat} (h : RC C N w c cs o) :
  ∃ a,(∀ k,(loadCells ⟨c,o,none⟩ cs.length).run P { w with drawn := k } = .ok a { w with drawn := k }) /\ RL C N w cs a.toList /\ ∀ x ∈ a.toList,x.oneCell = true := by
 obtain ⟨l,h1,h2,h3⟩ := Ku (P := P) cs c o 0 #[] h
 exact ⟨l.toArray,by simpa [loadCells] using h1,by simpa using h2,by simpa using h3⟩
theorem It (hs : Sim P C w U) {x : AV} {X : Value} (hx : R C (nx U) w x X) {sz n m : Nat} (hl : lenA x = some m) (hn : n <= m) {cs : List AV} (h : I9 U sz x n = some cs) :
  (∀ w',(Builtin.lenOf X).run P w' = .ok m w') /\ ∃ a,(∀ k,(Builtin.firstCells sz n X).run P { w with drawn := k } = .ok a { w with drawn := k }) /\ RL C (nx U) w cs a.toList /\ (∀ y ∈ a.toList,y.oneCell = true) /\ cs.length = n * sz := by
 unfold I9 at h
 split at h
 ·rename_i b off sz' len cap
  simp only [lenA,ad_] at hl; subst hl
  split at h
  ·rename_i vs hvs
   unfold R at hx;obtain ⟨ad,k,rfl,_,hk,_,bq⟩ := hx;refine ⟨fun _ => rfl,?_⟩
   have bv := (Gw h).2
   rcases cy_ n with h0 | h0
   ·subst h0;rw [ew_] at h bv ⊢
    simp [C7] at h; subst h
    refine ⟨#[],fun _ => by unfold Builtin.firstCells; rw [ew_]; rfl,by unfold RL; trivial,by simp,rfl⟩
   ·obtain ⟨c,o,cs',T,k1,k2,k3⟩ := hs.obj b _ (ez_ hvs);have e := (bq c o k1).1 Om;obtain ⟨a,r1,r2,r3⟩ := N5 (P := P) ((k3.drop off).take _ h);refine ⟨a,?_,r2,r3,bv⟩;unfold Builtin.firstCells;rw [e,← bv]; exact r1
  ·cases h
 ·rename_i cs' sz' len cap
  simp only [lenA,ad_] at hl; subst hl;unfold R at hx;obtain ⟨ado,k,rfl,hk,_,hcl,kd,bi⟩ := hx;refine ⟨fun _ => rfl,?_⟩
  have bv := (Gw h).2
  rcases cy_ n with h0 | h0
  ·subst h0;rw [ew_] at h bv ⊢
   simp [C7] at h; subst h
   refine ⟨#[],fun _ => by cases ado <;> (unfold Builtin.firstCells; rw [ew_]; rfl),by unfold RL; trivial,by simp,rfl⟩
  ·obtain _ | ad := ado
   ·have := kd rfl; omega
   obtain ⟨hsp,bp,hrc⟩ := bi ad rfl;have e := hsp Om;obtain ⟨b,o,sp⟩ := ad;simp only at e; subst e;obtain ⟨a,r1,r2,r3⟩ := N5 (P := P) (hrc.take _ h);refine ⟨a,?_,r2,r3,bv⟩;unfold Builtin.firstCells;rw [← bv]; exact r1
 ·simp only [lenA,ad_] at hl; subst hl
  split at h
  ·cases h;unfold R at hx;obtain ⟨rfl,_⟩ := hx
   exact ⟨fun _ => rfl,#[],fun _ => rfl,by unfold RL; trivial,by simp,by simp⟩
  ·cases h
 ·rename_i l
  simp only [lenA,ad_] at hl; subst hl;unfold R at hx;obtain ⟨s,rfl,rfl⟩ := hx
  split at h
  ·refine ⟨fun _ => by unfold Builtin.lenOf; rw [Eu]; rfl,?_⟩
   obtain ⟨t1,t2⟩ := Gw h
   have e : ((s.extract 0 n).data.map fun b => Value.int .u8 b.toNat).toList = ((s.data.map fun b => Value.int .u8 b.toNat).toList).take n := by
    simp [ByteArray.data_extract,List.map_take]
   refine ⟨_,fun _ => rfl,by rw [e,t1]; exact (RL.bytes s).take n,Qh _,by omega⟩
  ·cases h
 ·cases h
end
section
variable {P : Program} {C C' : Ctx} {N N' : Nat} {w w' : World} {U U' : Sto}
theorem Yt {s d : TypeId} {ts : TypeDesc} {k : IntKind} (hs : P.underlying s = some ts) (hd : P.underlying d = some (.int k)) {x : AV} {X : Value} (hx : R C N w x X) {v : AV} (h : Nw k x U = some (v,U')) :
  U' = U /\ Df P C N w (convert s d X) v := by
 unfold Nw at h
 split at h
 ·cases h;unfold R at hx; subst hx
  refine ⟨rfl,_,?_,by rw [Ma]; unfold R; rfl⟩
  unfold convert;simp only [Sem.run_bind,Aa hs,Aa hd,Result.andThen_ok,Conv.intToInt,Sem.run_pure]
 ·cases h
theorem Yu {s d : TypeId} {ts : TypeDesc} {k : FloatKind} (hs : P.underlying s = some ts) (hd : P.underlying d = some (.float k)) {x : AV} {X : Value} (hx : R C N w x X) {v : AV} (h : Ya k x U = some (v,U')) :
  U' = U /\ Df P C N w (convert s d X) v := by
 unfold Ya at h; cases h
theorem Yv {s d : TypeId} {ts : TypeDesc} (hs : P.underlying s = some ts) (hd : P.underlying d = some .string) {x : AV} {X : Value} (hx : R C N w x X) {v : AV} (h : Rz x U = some (v,U')) :
  U' = U /\ Df P C N w (convert s d X) v := by
 unfold Rz at h
 split at h
 ·cases h;refine ⟨rfl,X,?_,hx⟩;unfold R at hx;obtain ⟨b,rfl,_⟩ := hx;unfold convert;simp only [Sem.run_bind,Aa hs,Aa hd,Result.andThen_ok,Sem.run_pure]
 ·cases h
theorem Qz (hs : Sim P C w U) {s d e : TypeId} (hsu : P.underlying s = some (.slice e)) (hd : P.underlying d = some .string) (he : P.underlying e = some (.int .u8)) {x : AV} {X : Value} (hx : R C (nx U) w x X) {v : AV}
  (h : Mn x U = some (v,U')) : U' = U /\ Df P C (nx U) w (convert s d X) v := by
 unfold Mn at h; cases h
theorem N6 (w : World) (need old : Nat) (e : TypeId) : need <= grownCap w need old e := by
 unfold grownCap Question.cut; simp
theorem Q0 (hs : Sim P C w U) {s d e : TypeId} (hsu : P.underlying s = some .string) (hd : P.underlying d = some (.slice e)) (he : P.underlying e = some (.int .u8)) {x : AV} {X : Value} (hx : R C (nx U) w x X) {v : AV}
  (h : Jv x U = some (v,U')) : U' = U /\ H3 P C w U (convert s d X) v U' := by
 unfold Jv at h
 split at h
 ·rename_i l
  unfold R at hx;obtain ⟨b,rfl,hb⟩ := hx
  have key : v = .sv (H1 l) 1 l.length none /\ U' = U := by
   split at h
   ·cases h; exact ⟨rfl,rfl⟩
   ·cases h; exact ⟨rfl,rfl⟩
  obtain ⟨rfl,rfl⟩ := key;refine ⟨rfl,?_⟩
  have hsz : l.length = b.size := by rw [← hb,Eu]
  let cs : Array Value := (b.data.map fun b => Value.int .u8 b.toNat) ++ Array.replicate (grownCap w b.size 0 e - b.size) (.int .u8 0)
  let w' : World := ({ w with heap := w.heap.push (.cells cs e (0,0)),drawn := w.drawn + 1 } : World).freeze ⟨w.heap.size,cs.size,none⟩ 1
  have bx : (convert s d (.string b)).run P w = .ok (.slice (some ⟨w.heap.size,0,none⟩) b.size (grownCap w b.size 0 e)) w' := by
   unfold convert;simp only [Sem.run_bind,Aa hsu,Aa hd,Result.andThen_ok,Aa he];unfold Conv.stringToBytes
   simp [-World.alloc_eq,-World.drew_eq,Question.forced,newRow,markStringish,World.shape?,grownCap,w',cs]
  have hp : ∃ fz,Pu w w' (.cells cs e fz) := by
   refine ⟨(cs.size,cs.size + 1),by simp [w',World.freeze],?_,fun x hx => ?_,by simp [w',World.freeze]⟩
   ·simp [w',World.freeze,Array.getElem_modify]
   ·simp only [w',World.freeze]
    rw [if_neg (by decide)]
    simp only [dp_];rw [if_neg Om];rw [e_ hx]; exact (cn_ hx).symm
  obtain ⟨fz,p⟩ := hp;obtain ⟨s1,s2⟩ := hs.push p;refine ⟨_,_,w',C,bx,rfl,s1,s2,?_⟩;unfold R
  refine ⟨_,_,by rw [hsz],by rw [hsz]; exact N6 _ _ _ _,fun q hq => (by cases hq),by rw [N4,Nat.mul_one],fun hh => (by cases hh),fun ad ha => ?_⟩
  cases ha;refine ⟨fun _ => rfl,fun _ ho => ?_,?_⟩
  ·have := hs.own_lt ho; simp at this
  ·refine fh_ p.here (vs := (b.data.map fun b => Value.int .u8 b.toNat).toList) (by rw [← hb]; exact RL.bytes b) (Qh b) fun i v hi => ?_
   have hlt := (aa_.1 hi).1;rw [bq_]
   rw [cw_ (by simpa using hlt)]
   rwa [bb_] at hi
 ·cases h
end
section
variable {P : Program} {C C' : Ctx} {N N' : Nat} {w w' : World} {U U' : Sto}
def Aj5 (P : Program) (w : World) (e : TypeId) (ei : TypeInfo) (Z : Value) (t2 : TypeId) (x : Value) (n : Nat) (new : Array Value) : Prop :=
 (∃ d2,P.underlying t2 = some d2 /\ (∀ k,d2 ≠ .int k) /\ (∀ k,(Builtin.lenOf x).run P { w with drawn := k } = .ok n { w with drawn := k }) /\ ∀ k,(Builtin.firstCells ei.size n x).run P { w with drawn := k } = .ok new { w with drawn := k }) ∨
 (∃ k,P.underlying t2 = some (.int k) /\ x = .int .i64 (.ofNat n) /\ n * (ei.bytes + 1) <= sizeLim /\ new = Builtin.zeroCells Z.cells n)
theorem Ux {d : TypeDesc} (h : ∀ k,d ≠ .int k) : (match d with | .int _ => true | _ => false) = false := by
 cases d <;> first | rfl | exact absurd rfl (h _)
theorem Kv {t t2 ty e : TypeId} {ei : TypeInfo} {Z : Value} (ht : P.underlying t = some (.slice e)) (he : P.info? e = some ei) (hz : ei.zero = some Z) (hZ : Z.cells.size = ei.size) {base : Option Addr} {sLen Jk n : Nat} {x : Value} {new : Array Value}
  (hg : Aj5 P w e ei Z t2 x n new) (cc : sLen + n <= Jk) {w' : World}
  (hst : ∀ a,base = some a -> (storeCells (a.add (sLen * ei.size)) new.toList).run P w = .ok () w') (hno : base = none -> w' = w) :
  (Builtin.append_ #[t,t2] ty #[.slice base sLen Jk,x]).run P w = .ok (.slice base (sLen + n) Jk) w' := by
 rcases hg with ⟨d2,h1,h2,h3,h4⟩ | ⟨k,h1,rfl,h3,rfl⟩
 ·have hl := h3 w.drawn;have hf := h4 w.drawn;have hm := Ux h2;cases base with
  | none =>
   rw [hno rfl]
   simp [Builtin.append_,Aa ht,Aa h1,hm,A9 he,hl,cc,hf]
  | some a =>
   have := hst a rfl
   simp [Builtin.append_,Aa ht,Aa h1,hm,A9 he,hl,cc,hf,this]
 ·obtain ⟨h5,h6⟩ := T4 h3;have hw := Yr h5
  have hb : ¬ (281474976710656 < (n : Int) * (ei.bytes : Int)) := by
   have h2 := Int.ofNat_le.2 h6;rw [Int.natCast_mul] at h2
   have h7 : ((sizeLim : Nat) : Int) <= 281474976710656 := by decide
   generalize (n : Int) * (ei.bytes : Int) = q at *
   omega
  have hn0 : ¬ ((n : Int) < 0) := by omega
  simp only [ai_] at hw
  by_cases h0 : n * ei.size = 0
  ·have hz0 : Builtin.zeroCells Z.cells n = #[] := by rw [Gd,hZ,h0]; simp
   rw [hz0] at hst;cases base with
   | none =>
    rw [hno rfl]
    simp [Builtin.append_,Aa ht,Aa h1,A9 he,Cp he,asInt,asIntOf,hw,hn0,hb,cc,h0]
   | some a =>
    have := hst a rfl
    simp [Builtin.append_,Aa ht,Aa h1,A9 he,Cp he,asInt,asIntOf,hw,hn0,hb,cc,h0,this]
  ·cases base with
   | none =>
    rw [hno rfl]
    simp [Builtin.append_,Aa ht,Aa h1,A9 he,Cp he,asInt,asIntOf,hw,hn0,hb,cc,h0,Cr he hz]
   | some a =>
    have := hst a rfl
    simp [Builtin.append_,Aa ht,Aa h1,A9 he,Cp he,asInt,asIntOf,hw,hn0,hb,cc,h0,Cr he hz,this]
theorem Wh {t t2 ty e : TypeId} {ei : TypeInfo} {Z : Value} (ht : P.underlying t = some (.slice e)) (he : P.info? e = some ei) (hz : ei.zero = some Z) (hZ : Z.cells.size = ei.size) {base : Option Addr} {sLen Jk n : Nat} {x : Value} {old new : Array Value}
  (hg : Aj5 P w e ei Z t2 x n new) (fw : Jk < sLen + n) (bz : (sLen + n) * (ei.bytes + 1) <= sizeLim)
  (hold : ∀ k,(Builtin.firstCells ei.size sLen (.slice base sLen Jk)).run P { w with drawn := k } = .ok old { w with drawn := k }) :
  ∃ rest,(Builtin.append_ #[t,t2] ty #[.slice base sLen Jk,x]).run P w = .ok (.slice (some ⟨w.heap.size,0,none⟩) (sLen + n) (grownCap w (sLen + n) Jk e))
   { w with heap := w.heap.push (.cells (old ++ new ++ rest) e),drawn := w.drawn + 1 } /\ rest.size = (grownCap w (sLen + n) Jk e - (sLen + n)) * ei.size := by
 refine ⟨Builtin.zeroCells Z.cells (grownCap w (sLen + n) Jk e - (sLen + n)),?_,by rw [Gd,hZ]; simp⟩
 obtain ⟨l1,l2⟩ := T4 bz
 have hn : ¬ (sLen + n <= Jk) := by omega
 have h63' : ¬ (9223372036854775807 < ((sLen : Int) + (n : Int))) := by unfold sizeLim at l1; omega
 have cc : Builtin.nextslicecap (sLen + n) Jk * ei.bytes <= 281474976710656 := growslice_fits fw (by unfold sizeLim at l2; omega)
 have h48' : ¬ (281474976710656 < Builtin.nextslicecap (sLen + n) Jk * ei.bytes) := by omega
 have ho : ∀ k,(Builtin.firstCells ei.size sLen (.slice base sLen Jk)).run P { w with drawn := k } = .ok old { w with drawn := k } := hold
 rcases hg with ⟨d2,h1,h2,h3,h4⟩ | ⟨k,h1,rfl,h3,rfl⟩
 ·have hl := h3 w.drawn;have hf := h4 (w.drawn + 1);have ho' := ho (w.drawn + 1);have hm := Ux h2
  simp [-World.drew_eq,Builtin.append_,Aa ht,Aa h1,hm,A9 he,Cp he,hl,hn,h63',h48',Question.forced,hf,ho',newRow,grownCap,Cr he hz]
  rfl
 ·obtain ⟨h5,h6⟩ := T4 h3;have hw := Yr h5
  have hb : ¬ (281474976710656 < (n : Int) * (ei.bytes : Int)) := by
   have h2 := Int.ofNat_le.2 h6;rw [Int.natCast_mul] at h2
   have h7 : ((sizeLim : Nat) : Int) <= 281474976710656 := by decide
   generalize (n : Int) * (ei.bytes : Int) = q at *
   omega
  have hn0 : ¬ ((n : Int) < 0) := by omega
  have ho' := ho (w.drawn + 1);simp only [ai_] at hw
  by_cases h0 : n * ei.size = 0
  ·have hz0 : Builtin.zeroCells Z.cells n = #[] := by rw [Gd,hZ,h0]; simp
   rw [hz0]
   simp [-World.drew_eq,Builtin.append_,Aa ht,Aa h1,A9 he,Cp he,asInt,asIntOf,hw,hn0,hb,hn,h63',h48',Question.forced,ho',newRow,grownCap,Cr he hz,h0]
   rfl
  ·simp [-World.drew_eq,Builtin.append_,Aa ht,Aa h1,A9 he,Cp he,asInt,asIntOf,hw,hn0,hb,hn,h63',h48',Question.forced,ho',newRow,grownCap,Cr he hz,h0]
   rfl
end
section
variable {P : Program} {C C' : Ctx} {N N' : Nat} {w w' : World} {U U' : Sto}
theorem Mw (hs : Sim P C w U) {t t2 ty e : TypeId} {ei : TypeInfo} {Z : Value} {sz bytes : Nat} (ht : P.underlying t = some (.slice e)) (he : P.info? e = some ei) (hsz : sz = ei.size) (hby : bytes = ei.bytes) (hz : ei.zero = some Z) (hZ : Z.cells.size = ei.size)
  {base : Option Addr} {sLen Jk n : Nat} {y : Value} {old new : Array Value} {oldA newA : List AV} (hg : Aj5 P w e ei Z t2 y n new)
  (hold : ∀ k,(Builtin.firstCells ei.size sLen (.slice base sLen Jk)).run P { w with drawn := k } = .ok old { w with drawn := k })
  (ho : RL C (nx U) w oldA old.toList) (ho1 : ∀ x ∈ old.toList,x.oneCell = true) (hol : oldA.length = sLen * sz)
  (hn : RL C (nx U) w newA new.toList) (hn1 : ∀ x ∈ new.toList,x.oneCell = true) (hnl : newA.length = n * sz)
  (fw : Jk < sLen + n) {v : AV} (h : Ja sz bytes n newA oldA sLen U = some (v,U')) :
  H3 P C w U (Builtin.append_ #[t,t2] ty #[.slice base sLen Jk,y]) v U' := by
 unfold Ja at h;cases hb : Nat.ble ((sLen + n) * (bytes + 1)) sizeLim
 ·simp [hb] at h
 ·simp only [hb,cond_true,Ai,ad_,bc_] at h;obtain ⟨rfl,rfl⟩ := h
  have bz : (sLen + n) * (ei.bytes + 1) <= sizeLim := by rw [← hby]; exact aj_ hb
  obtain ⟨rest,r1,r2⟩ := Wh (ty := ty) ht he hz hZ hg fw bz hold;have p := Aql w (.cells (old ++ new ++ rest) e (0,0))
  obtain ⟨s1,s2⟩ := So hs p (ho.append hn) (fun x hx => (b_.1 hx).elim (ho1 x) (hn1 x)) (fun i v hi => by
   have hlt := (aa_.1 hi).1
   rw [cw_ (by simpa using hlt)]
   rw [← bb_,db_]; exact hi)
  refine ⟨_,_,_,_,r1,rfl,s1,by rw [Af]; exact s2,?_⟩
  rw [Af]
  refine R.newSlice (bj_ _) (es_ ..) (N6 _ _ _ _) (fun q hq => by cases hq) ?_
  rw [Fy p.here];have h1 := ho.length;have h2 := hn.length;have h3 := N6 w (sLen + n) Jk e;simp only [bx_] at h1 h2;simp only [Array.size_append,r2];rw [← h1,← h2,hol,hnl,← hsz,bq_,← fr_,← fr_];exact dk_ _ Om
theorem RL.nil_iff {vs : List Value} : RL C N w [] vs -> vs = [] := by
 cases vs with
 | nil => intro; rfl
 | cons v r => intro h; unfold RL at h; exact h.elim
theorem Abg {vs old : List AV} {a b : Nat} (h : C7 b (vs.drop a) = some old) : ∀ (i : Nat) (x : AV),old[i]? = some x -> vs[a + i]? = some x := by
 intro i x hi;rw [(Gw h).1,f_] at hi
 split at hi
 ·rwa [fa_] at hi
 ·cases hi
theorem Qi (hs : Sim P C w U) {t t2 ty e : TypeId} {ei : TypeInfo} {Z : Value} {sz bytes : Nat} (ht : P.underlying t = some (.slice e)) (he : P.info? e = some ei) (hsz : sz = ei.size) (hby : bytes = ei.bytes) (hz : ei.zero = some Z) (hZ : Z.cells.size = ei.size)
  {d : AV} {D y : Value} {n : Nat} {new : Array Value} {newA : List AV} (hd : R C (nx U) w d D) (hg : Aj5 P w e ei Z t2 y n new)
  (hn : RL C (nx U) w newA new.toList) (hn1 : ∀ x ∈ new.toList,x.oneCell = true) (hnl : newA.length = n * sz) {v : AV} (h : Bm U sz bytes d n newA = some (v,U')) :
  H3 P C w U (Builtin.append_ #[t,t2] ty #[D,y]) v U' := by
 cases n with
 | zero =>
  have fx : new.toList = [] := RL.nil_iff (C := C) (N := nx U) (w := w) (by rwa [show newA = [] from bl_ Om] at hn)
  have same : ∀ base len k,D = .slice base len k -> len <= k -> H3 P C w U (Builtin.append_ #[t,t2] ty #[D,y]) d U := by
   rintro base len k rfl hk
   refine ⟨_,_,w,C,Kv (ty := ty) (w' := w) ht he hz hZ hg Om (fun a _ => by rw [fx]; simp [storeCells]) (fun _ => rfl),rfl,hs,by_ _ _ _,hd⟩
  simp only [Bm] at h
  split at h
  ·cases h; unfold R at hd; obtain ⟨rfl,_⟩ := hd; exact same _ _ _ rfl nl
  ·cases h;have hd' := hd;unfold R at hd'; obtain ⟨ad,k,rfl,hk,_⟩ := hd'; exact same _ _ _ rfl hk
  ·cases h;have hd' := hd;unfold R at hd'; obtain ⟨ad,k,rfl,_,hk,_⟩ := hd'; exact same _ _ _ rfl hk
  ·cases h
 | succ n' =>
  simp only [Bm] at h
  split at h
  ·unfold R at hd; obtain ⟨rfl,_⟩ := hd
   exact Mw (old := #[]) hs ht he hsz hby hz hZ hg (fun k => rfl) (by unfold RL; trivial) (by simp) (by simp) hn hn1 hnl Om h
  ·rename_i cs sz' len q
   cases hb : (Nat.beq sz' sz && !Nat.ble (len + (n' + 1)) q)
   ·simp [hb] at h
   ·simp only [hb,cond_true] at h;simp only [af_,co_] at hb;have ef := ac_ hb.1
    have hq : ¬ (len + (n' + 1) <= q) := fun hle => by have := ap_ hle; rw [this] at hb; cases hb.2
    have hd' := hd;unfold R at hd';obtain ⟨ad,k,rfl,hk,fb,hcl,_⟩ := hd';have hkq := fb q rfl
    have fy : I9 U ei.size (.sv cs sz' len (some q)) len = some cs := by
     have : C7 (len * ei.size) cs = some cs := by
      have key : ∀ (l : List AV),C7 l.length l = some l := by
       intro l; induction l with
       | nil => rfl
       | cons x r ih => simp [C7,ih]
      rw [← hsz,← ef,← hcl]; exact key cs
     exact this
    obtain ⟨_,old,o1,o2,o3,o4⟩ := It (P := P) hs hd (m := len) rfl nl fy
    exact Mw hs ht he hsz hby hz hZ hg o1 o2 o3 (by rw [hsz]; exact o4) hn hn1 hnl Om h
  ·rename_i a off sz' len cap
   cases hb : Nat.beq sz' sz
   ·simp [hb] at h
   ·simp only [hb,cond_true] at h;have ef := ac_ hb
    split at h
    ·cases h
    ·rename_i vs hvs
     split at h
     ·cases h
     ·rename_i oldA hold
      have hgo := ez_ hvs;have hd' := hd;unfold R at hd';obtain ⟨ad,k,rfl,han,hk,fb,bq⟩ := hd'
      have fy : I9 U ei.size (.sr a off sz' len cap) len = some oldA := by
       simp only [I9,hvs,← hsz]; exact hold
      obtain ⟨_,old,o1,o2,o3,o4⟩ := It (P := P) hs hd (m := len) rfl nl fy;rw [← hsz] at o4;obtain ⟨c,o,cs,T,l1,l2,l3⟩ := hs.obj a _ hgo;obtain ⟨had,dg⟩ := bq c o l1
      split at h
      ·rename_i q
       have hkq := fb q rfl;subst hkq
       split at h
       ·rename_i cc
        have cc := aj_ cc
        split at h
        ·rename_i vs' ct
         simp only [Ai,ad_,bc_] at h;obtain ⟨rfl,rfl⟩ := h;obtain ⟨c',o',w',r1,r2,r3,r4⟩ := Qy hs hgo ct hn hn1;rw [l1] at r1; cases r1;have e := had Om
         refine ⟨_,_,w',C,Kv (ty := ty) ht he hz hZ hg cc (fun b hb' => ?_) (fun hb' => by cases hb'),rfl,r3,by rw [Ac]; exact r4,?_⟩
         ·cases hb';rw [e,Gb,← hsz]; rw [gk_]; exact r2
         ·rw [Ac];unfold R
          refine ⟨ad,k,rfl,han,cc,fun q hq => by cases hq; rfl,fun c' o' hc' => ?_⟩
          rw [l1] at hc'; cases hc'
          exact ⟨fun _ => e,by rw [← ef,r4.bsz a han c o l1]; exact dg⟩
        ·cases h
       ·rename_i cc
        have hq : ¬ (len + (n' + 1) <= k) := fun hle => by have := ap_ hle; rw [this] at cc; cases cc
        exact Mw hs ht he hsz hby hz hZ hg o1 o2 o3 o4 hn hn1 hnl Om h
      ·by_cases cc : len + (n' + 1) <= k
       ·-- in place: the object is renamed
        unfold Ja at h;cases hb2 : Nat.ble ((len + (n' + 1)) * (bytes + 1)) sizeLim
        ·simp [hb2] at h
        ·simp only [hb2,cond_true,Ai,ad_,bc_] at h;obtain ⟨rfl,rfl⟩ := h;have e := had Om;have ot := hn.length;simp only [bx_] at ot;have hcs : csize w c = cs.size := Fy l2;rw [hcs] at dg;have hm1 : (len + (n' + 1)) * sz <= k * sz := dk_ _ cc;rw [fr_] at hm1
         have eg : o + (off + len * sz) + 0 + new.toList.length <= cs.size := by
          simp only [bx_]; rw [ef] at dg; omega
         obtain ⟨w',r1,r2⟩ := Kp (P := P) new.toList w c (o + (off + len * sz)) 0 cs T l2 hn1 eg;rw [ev_] at r2 eg
         have ou : csize w' c = cs.size := by rw [Fy r2.here,L8]
         obtain ⟨s1,s2⟩ := hs.replace l1 r2 hgo (.cells (oldA ++ newA)) rfl (o' := o + off) (fun ex => by
          refine ⟨c,o + off,_,T,by simp [Ctx.add],r2.here,?_⟩
          rw [Af,Bn];refine gt_ fun i x hi => ?_
          rw [Is r2.here,Ny _ _ _ eg]
          by_cases hlt : i < oldA.length
          ·rw [bk_ hlt] at hi;rw [if_neg Om];obtain ⟨u,q1,q2,q3⟩ := l3.get _ x (Abg hold i x hi);rw [Is l2] at q1
           exact ⟨u,by rw [← q1]; congr 1; omega,q2,R.ext ex _ _ q3⟩
          ·rw [ch_ Om] at hi;have bw := (aa_.1 hi).1
           rw [if_pos (by simp only [bx_]; omega)]
           obtain ⟨u,q1,q2⟩ := hn.get _ x hi
           exact ⟨u,by rw [← q1]; congr 1; omega,hn1 u (ae_ q1),R.ext ex _ _ q2⟩)
         have kf : nx ((U.kill a).new (.cells (oldA ++ newA))) = nx U + 1 := by rw [Af,Bn]
         refine ⟨_,_,w',_,Kv (ty := ty) ht he hz hZ hg cc (fun b hb' => ?_) (fun hb' => by cases hb'),rfl,s1,by rw [kf]; exact s2,?_⟩
         ·cases hb';rw [e,Gb,← hsz,gk_]; exact r1
         ·rw [kf,Bn];unfold R
          refine ⟨ad,k,rfl,bj_ _,cc,fun q hq => (by cases hq),fun c' o' hc' => ?_⟩
          simp only [Ctx.add,if_true] at hc';cases hc'
          exact ⟨fun _ => by rw [e,ev_],by rw [ou,← ef]; omega⟩
       ·obtain ⟨k1,k2⟩ := hs.kill a;have hnk : nx (U.kill a) = nx U := Bn U a
        obtain ⟨yy,xx,w',C2,g1,g2,g3,g4,g5⟩ := Mw (U := U.kill a) (U' := U') k1 ht he hsz hby hz hZ hg o1 (by rw [hnk]; exact o2.ext k2) o3 o4 (by rw [hnk]; exact hn.ext k2) hn1 hnl Om h
        exact ⟨yy,xx,w',C2,g1,g2,g3,k2.trans (by rwa [hnk] at g4),g5⟩
  ·cases h
theorem Ab3 {e : TypeId} {te : TI} (hte : A4 P e = some te) {z : List AV} (hz : te.zero = some z) (hzl : z.length = te.size) :
  ∃ ei Z,P.info? e = some ei /\ te.size = ei.size /\ te.bytes = ei.bytes /\ ei.zero = some Z /\ Z.cells.size = ei.size /\ (∀ x ∈ Z.cells.toList,x.oneCell = true) /\ ∀ (C : Ctx) (N : Nat) (w : World),RL C N w z Z.cells.toList := by
 obtain ⟨ei,ed,e1,e2,e3,e4,e5,e6,e7⟩ := Ar hte;rw [e6] at hz;obtain ⟨Z,q1,q2,q3,_,_⟩ := Fw (C := ⟨fun _ => none,fun _ => 0,fun _ => False,fun _ => none⟩) (w := default) (N := 0) hz
 refine ⟨ei,Z,e1,e4,e5,q1,?_,q3,fun C N w => ?_⟩
 ·have := q2.length; simp at this; omega
 ·obtain ⟨Z',q1',q2',_⟩ := Fw (C := C) (w := w) (N := N) hz;rw [q1] at q1'; cases q1'; exact q2'
theorem Qj (hs : Sim P C w U) {t t2 ty e : TypeId} {d2 : TypeDesc} {te : TI} (ht : P.underlying t = some (.slice e)) (hte : A4 P e = some te) {z : List AV} (hz : te.zero = some z) (hzl : z.length = te.size)
  (h2 : P.underlying t2 = some d2) (hd2 : ∀ k,d2 ≠ .int k) {d s : AV} {D S : Value} (hd : R C (nx U) w d D) (hS : R C (nx U) w s S) {v : AV} (h : Sc te.size te.bytes d s U = some (v,U')) :
  H3 P C w U (Builtin.append_ #[t,t2] ty #[D,S]) v U' := by
 obtain ⟨ei,Z,e1,e2,e3,e4,e5,e6,e7⟩ := Ab3 hte hz hzl;unfold Sc at h
 split at h
 ·rename_i n hn
  split at h
  ·rename_i new fx
   obtain ⟨f1,a,f2,f3,f4,f5⟩ := It (P := P) hs hS hn nl fx
   exact Qi hs ht e1 e2 e3 e4 e5 hd (.inl ⟨d2,h2,hd2,fun k => f1 _,fun k => by rw [← e2]; exact f2 k⟩) f3 f4 f5 h
  ·cases h
 ·cases h
theorem Yw (hs : Sim P C w U) {t t2 ty e : TypeId} {k : IntKind} {te : TI} (ht : P.underlying t = some (.slice e)) (hte : A4 P e = some te) {z : List AV} (hz : te.zero = some z) (hzl : z.length = te.size)
  (h2 : P.underlying t2 = some (.int k)) {d s : AV} {D S : Value} (hd : R C (nx U) w d D) (hS : R C (nx U) w s S) {v : AV} (h : Se z te.size te.bytes d s U = some (v,U')) :
  H3 P C w U (Builtin.append_ #[t,t2] ty #[D,S]) v U' := by
 obtain ⟨ei,Z,e1,e2,e3,e4,e5,e6,e7⟩ := Ab3 hte hz hzl;unfold Se at h
 split at h
 ·rename_i n
  cases hb : Nat.ble (n * (te.bytes + 1)) sizeLim
  ·simp [hb] at h
  ·simp only [hb,cond_true] at h;unfold R at hS; subst hS
   refine Qi hs ht e1 e2 e3 e4 e5 hd (.inr ⟨k,h2,rfl,by rw [← e3]; exact aj_ hb,rfl⟩) ?_ ?_ ?_ h
   ·rw [Gd]; exact (e7 C _ w).rep n
   ·rw [Gd]; exact N3 e6 n
   ·rw [Mu,hzl]
 ·cases h
theorem Afj (hs : Sim P C w U) {t t2 ty e : TypeId} {te : TI} (ht : P.underlying t = some (.slice e)) (hte : A4 P e = some te) {d s : AV} {D S : Value} (hd : R C (nx U) w d D) (hS : R C (nx U) w s S) {v : AV}
  (h : Anq te.size d s U = some (v,U')) : H3 P C w U (Builtin.copy_ #[t,t2] ty #[D,S]) v U' := by
 unfold Anq at h; cases h
end
section
variable {P : Program} {C C' : Ctx} {N N' : Nat} {w w' : World} {U U' : Sto}
theorem Arz {d : TypeDesc} {v : Value} (h : KS d v) : ∃ k,KV k v := by
 unfold KS at h
 split at h
 ·obtain ⟨n,rfl⟩ := h; exact ⟨.int _ n,by unfold KV; rfl⟩
 ·obtain ⟨s,rfl⟩ := h; exact ⟨.str (Bx s),by unfold KV; exact ⟨s,rfl,rfl⟩⟩
 ·obtain ⟨b,rfl⟩ := h; exact ⟨.bool b,by unfold KV; rfl⟩
 ·exact h.elim
theorem Aj6 : ∀ {fs : List Field} {vs : List Value},KFs P fs vs -> ∃ ks,KVs ks vs
 | [],[],_ => ⟨[],by unfold KVs; trivial⟩
 | f :: fs,v :: vs,h => by
  unfold KFs at h;obtain ⟨⟨i,d,_,_,_,_,hk,_⟩,h2⟩ := h;obtain ⟨k,hk⟩ := Arz hk;obtain ⟨ks,hks⟩ := Aj6 h2
  exact ⟨k :: ks,by unfold KVs; exact ⟨hk,hks⟩⟩
 | [],_ :: _,h => by unfold KFs at h; exact h.elim
 | _ :: _,[],h => by unfold KFs at h; exact h.elim
theorem Ar0 {kt : TypeId} {v : Value} (h : KT P kt v) : ∃ k,KV k v := by
 rcases h with ⟨d,_,h⟩ | ⟨fs,a,_,rfl,h,_⟩
 ·exact Arz h
 ·obtain ⟨ks,hk⟩ := Aj6 h
  exact ⟨.agg ks,by unfold KV; exact ⟨a,rfl,hk⟩⟩
theorem Ah9 {d : TypeDesc} {v : Value} (h : KS d v) : v.oneCell = true := by
 unfold KS at h
 split at h
 ·obtain ⟨n,rfl⟩ := h; rfl
 ·obtain ⟨s,rfl⟩ := h; rfl
 ·obtain ⟨b,rfl⟩ := h; rfl
 ·exact h.elim
theorem Uy : ∀ {fs : List Field} {vs : List Value},KFs P fs vs -> ∀ x ∈ vs,x.oneCell = true
 | [],[],_,x,hx => by simp at hx
 | f :: fs,v :: vs,h,x,hx => by
  unfold KFs at h
  rcases aq_.1 hx with rfl | hx
  ·obtain ⟨⟨i,d,_,_,_,_,hk,_⟩,_⟩ := h; exact Ah9 hk
  ·exact Uy h.2 x hx
 | [],_ :: _,h,_,_ => by unfold KFs at h; exact h.elim
 | _ :: _,[],h,_,_ => by unfold KFs at h; exact h.elim
theorem Anw : ∀ {ks : List Key} {vs : List Value},KVs ks vs ->
  RL C N w (ks.map fun | .bool b => .bool b | .int k n => .int k n | .str l => .str l | .agg _ => .any) vs
 | [],[],_ => by simp only [dq_]; unfold RL; trivial
 | k :: ks,v :: vs,h => by
  unfold KVs at h;simp only [ck_];unfold RL;refine ⟨?_,Anw h.2⟩;have h1 := h.1;cases k <;> unfold KV at h1 <;> unfold R
  ·exact h1
  ·exact h1
  ·exact h1
  ·trivial
 | [],_ :: _,h => by unfold KVs at h; exact h.elim
 | _ :: _,[],h => by unfold KVs at h; exact h.elim
theorem KV_R {kt : TypeId} {k : Key} {v : Value} (h : KV k v) (t : KT P kt v) : R C N w (Qd k) v := by
 cases k with
 | bool b => unfold KV at h; unfold Qd R; exact h
 | int j n => unfold KV at h; unfold Qd R; exact h
 | str l => unfold KV at h; unfold Qd R; exact h
 | agg cs =>
  unfold KV at h;obtain ⟨a,rfl,h⟩ := h;unfold Qd R;refine ⟨a,rfl,Anw h,?_⟩
  rcases t with ⟨d,_,t⟩ | ⟨fs,b,_,e,t,_⟩
  ·unfold KS at t
   split at t
   ·obtain ⟨_,t⟩ := t; cases t
   ·obtain ⟨_,t⟩ := t; cases t
   ·obtain ⟨_,t⟩ := t; cases t
   ·exact t.elim
  ·cases e; exact Uy t
theorem Ad2 {d : TypeDesc} {v v' : Value} (h : KS d v) (h' : KS d v') : ∃ b,Instr.sameNow d v v' = some b /\ (b = true ↔ v = v') := by
 unfold KS at h h'
 split at h
 ·obtain ⟨n,rfl⟩ := h;obtain ⟨n',rfl⟩ := h'
  exact ⟨n == n',by simp [Instr.sameNow],by simp⟩
 ·obtain ⟨n,rfl⟩ := h;obtain ⟨n',rfl⟩ := h'
  exact ⟨n == n',by simp [Instr.sameNow],by rw [Go.MapKept.bytes_beq]; simp⟩
 ·obtain ⟨n,rfl⟩ := h;obtain ⟨n',rfl⟩ := h'
  exact ⟨n == n',by simp [Instr.sameNow],by simp⟩
 ·exact h.elim
def Ab4 (v : Value) (es : List MapEntry) (i : Nat) : Option (Nat × Value) -> Prop
 | some (j,x) => ∃ e,i <= j /\ es[j - i]? = some e /\ e.key = v /\ e.val = x
 | none => ∀ e ∈ es,e.key ≠ v
theorem Ab4.cons {v : Value} {e : MapEntry} {es : List MapEntry} {i : Nat} {r : Option (Nat × Value)} (h : Ab4 v es (i + 1) r) (hne : e.key ≠ v) : Ab4 v (e :: es) i r := by
 cases r with
 | none =>
  intro f hf
  rcases aq_.1 hf with rfl | hf
  ·exact hne
  ·exact h f hf
 | some p =>
  obtain ⟨f,h1,h2,h3,h4⟩ := h
  refine ⟨f,by omega,?_,h3,h4⟩
  rw [show p.1 - i = (p.1 - (i + 1)) + 1 by omega]; exact h2
theorem Sr {d : TypeDesc} {v : Value} (h : KS d v) : ∀ {es : List MapEntry},(∀ e ∈ es,KS d e.key) -> ∀ i,∃ r,Instr.findNow d v es i = some r /\ Ab4 v es i r
 | [],_,i => ⟨none,rfl,fun e he => by simp at he⟩
 | e :: es,he,i => by
  obtain ⟨b,h1,h2⟩ := Ad2 h (he e (by simp))
  cases b with
  | true => exact ⟨some (i,e.val),by simp only [Instr.findNow,h1],e,nl,by simp,(h2.1 rfl).symm,rfl⟩
  | false =>
   obtain ⟨r,k1,k2⟩ := Sr h (fun f hf => he f (ak_ _ hf)) (i + 1)
   exact ⟨r,by simp only [Instr.findNow,h1,k1],k2.cons fun hh => by have := h2.2 hh.symm; cases this⟩
theorem Nk {kt : TypeId} {v : Value} (h : KT P kt v) : ∀ {es : List MapEntry},(∀ e ∈ es,KT P kt e.key) -> ∀ i,∃ r,(Instr.findAsking kt v es i).run P w = .ok r w /\ Ab4 v es i r
 | [],_,i => ⟨none,rfl,fun e he => by simp at he⟩
 | e :: es,he,i => by
  obtain ⟨k,hk⟩ := Ar0 h
  obtain ⟨k',hk'⟩ := Ar0 (he e (by simp))
  obtain ⟨h1,h2⟩ := Aj3 (w := w) hk hk' h (he e (by simp))
  have h3 : (Op.equal kt v e.key).run P w = .ok (Key.eq k k') w := h2 9998;cases hb : Key.eq k k' with
  | true =>
   refine ⟨some (i,e.val),by simp [Instr.findAsking,h3,hb],e,nl,by simp,(h1.1 hb).symm,rfl⟩
  | false =>
   obtain ⟨r,k1,k2⟩ := Nk h (fun f hf => he f (ak_ _ hf)) (i + 1)
   exact ⟨r,by simp [Instr.findAsking,h3,hb,k1],k2.cons fun hh => by have := h1.2 hh.symm; rw [hb] at this; cases this⟩
theorem Mx {kt : TypeId} {v : Value} (h : KT P kt v) {es : List MapEntry} (he : ∀ e ∈ es,KT P kt e.key) : ∃ r,(Instr.findKey kt v es).run P w = .ok r w /\ Ab4 v es 0 r := by
 obtain ⟨r,k1,k2⟩ := Nk (w := w) h he 0
 rcases h with ⟨d,ht,h⟩ | ⟨fs,a,ht,rfl,h⟩
 ·have he' : ∀ e ∈ es,KS d e.key := fun e hm => by
   rcases he e hm with ⟨d',ht',h'⟩ | ⟨fs,b,ht',_,_⟩
   ·rw [ht] at ht'; cases ht'; exact h'
   ·rw [ht] at ht'; cases ht'; unfold KS at h; exact h.elim
  obtain ⟨r,h1,h2⟩ := Sr h he' 0
  exact ⟨r,by simp [Instr.findKey,Aa ht,h1],h2⟩
 ·cases es with
  | nil => exact ⟨none,by simp [Instr.findKey,Aa ht,Instr.findNow],fun e hm => by simp at hm⟩
  | cons e es =>
   have : Instr.findNow (.struct fs) (.agg a) (e :: es) 0 = none := by simp [Instr.findNow,Instr.sameNow]
   exact ⟨r,by simp [Instr.findKey,Aa ht,this,k1],k2⟩
end
section
variable {P : Program} {C C' : Ctx} {N N' : Nat} {w w' : World} {U U' : Sto}
theorem Yx {kv : Key} {x : AV} : ∀ {es : List (Key × AV)},De kv es = some x ->
  ∃ a k' b,es = a ++ (k',x) :: b /\ Key.eq kv k' = true /\ (∀ v,Np kv v es = a ++ (k',v) :: b) /\ Vx kv es = a ++ b
 | [],h => by simp [De] at h
 | (k',y) :: r,h => by
  simp only [De] at h;cases hb : Key.eq kv k'
  ·simp only [hb,cond_false] at h;obtain ⟨a,k2,b,h1,h2,h3,h4⟩ := Yx h
   exact ⟨(k',y) :: a,k2,b,by simp [h1],h2,fun v => by simp [Np,hb,h3],by simp [Vx,hb,h4]⟩
  ·simp only [hb,cond_true,ad_] at h;subst h
   exact ⟨[],k',r,rfl,hb,fun v => by simp [Np,hb],by simp [Vx,hb]⟩
theorem Q1 {kv : Key} : ∀ {es : List (Key × AV)},De kv es = none -> (∀ x ∈ es,Key.eq kv x.1 = false) /\ Vx kv es = es
 | [],_ => ⟨fun x hx => by simp at hx,rfl⟩
 | (k',y) :: r,h => by
  simp only [De] at h;cases hb : Key.eq kv k'
  ·simp only [hb,cond_false] at h;obtain ⟨h1,h2⟩ := Q1 h
   refine ⟨fun x hx => ?_,by simp [Vx,hb,h2]⟩
   rcases aq_.1 hx with rfl | hx
   ·exact hb
   ·exact h1 x hx
  ·simp [hb] at h
theorem Yy (kv : Key) (v : AV) : ∀ (es : List (Key × AV)),∃ a b,es = a ++ b /\ Mm kv v es = a ++ (kv,v) :: b
 | [] => ⟨[],[],rfl,rfl⟩
 | (k',y) :: r => by
  simp only [Mm];cases hb : Key.lt kv k'
  ·obtain ⟨a,b,h1,h2⟩ := Yy kv v r
   exact ⟨(k',y) :: a,b,by simp [h1],by simp [h2]⟩
  ·exact ⟨[],(k',y) :: r,rfl,rfl⟩
theorem ER.split : ∀ {a b : List (Key × AV)} {L : List MapEntry},ER C N w (a ++ b) L -> ∃ A B,L = A ++ B /\ ER C N w a A /\ ER C N w b B
 | [],b,L,h => ⟨[],L,rfl,by unfold ER; trivial,h⟩
 | x :: a,b,[],h => by rw [az_] at h; unfold ER at h; exact h.elim
 | x :: a,b,e :: L,h => by
  rw [az_] at h; unfold ER at h;obtain ⟨A,B,h1,h2,h3⟩ := ER.split h.2
  exact ⟨e :: A,B,by simp [h1],by unfold ER; exact ⟨h.1,h2⟩,h3⟩
theorem ER.append : ∀ {a b : List (Key × AV)} {A B : List MapEntry},ER C N w a A -> ER C N w b B -> ER C N w (a ++ b) (A ++ B)
 | [],b,[],B,_,h => h
 | x :: a,b,e :: A,B,h,k => by unfold ER at h; rw [az_,az_]; unfold ER; exact ⟨h.1,ER.append h.2 k⟩
 | [],_,_ :: _,_,h,_ => by unfold ER at h; exact h.elim
 | _ :: _,_,[],_,h,_ => by unfold ER at h; exact h.elim
theorem ER.length : ∀ {a : List (Key × AV)} {A : List MapEntry},ER C N w a A -> a.length = A.length
 | [],[],_ => rfl
 | x :: a,e :: A,h => by unfold ER at h; simp [ER.length h.2]
 | [],_ :: _,h => by unfold ER at h; exact h.elim
 | _ :: _,[],h => by unfold ER at h; exact h.elim
theorem ER.mem : ∀ {a : List (Key × AV)} {A : List MapEntry},ER C N w a A -> ∀ e ∈ A,∃ x ∈ a,KV x.1 e.key /\ R C N w x.2 e.val
 | [],[],_,e,he => by simp at he
 | x :: a,f :: A,h,e,he => by
  unfold ER at h
  rcases aq_.1 he with rfl | he
  ·exact ⟨x,by simp,h.1⟩
  ·obtain ⟨y,h1,h2⟩ := ER.mem h.2 e he; exact ⟨y,by simp [h1],h2⟩
 | [],_ :: _,h,_,_ => by unfold ER at h; exact h.elim
 | _ :: _,[],h,_,_ => by unfold ER at h; exact h.elim
theorem Yz {α β : Type} {f : α -> β} {A B : List α} {e g : α} (h : ((A ++ e :: B).map f).Nodup) {j : Nat} (hj : (A ++ e :: B)[j]? = some g) (hg : f g = f e) : j = A.length /\ g = e := by
 have h1 : ((A ++ e :: B).map f)[j]? = some (f e) := by rw [bp_,hj]; simp [hg]
 have h2 : ((A ++ e :: B).map f)[A.length]? = some (f e) := by rw [bp_]; simp
 obtain ⟨l1,l1'⟩ := aa_.1 h1;obtain ⟨l2,l2'⟩ := aa_.1 h2;have : j = A.length := (List.getElem?_inj l1 h).1 (h1.trans h2.symm);subst this
 simp at hj
 exact ⟨rfl,hj.symm⟩
structure At (C : Ctx) (N : Nat) (w : World) (es : List (Key × AV)) (E : Array MapEntry) (V : Value) (x : AV) (kv : Key) where
 A : List MapEntry
 e : MapEntry
 B : List MapEntry
 a : List (Key × AV)
 k' : Key
 b : List (Key × AV)
 A' : List MapEntry
 B' : List MapEntry
 hE : E.toList = A ++ e :: B
 key : e.key = V
 val : R C N w x e.val
 kk : KV k' e.key
 hes : es = a ++ (k',x) :: b
 ea : ER C N w a A'
 eb : ER C N w b B'
 perm : (A' ++ B').Perm (A ++ B)
 set : ∀ v,Np kv v es = a ++ (k',v) :: b
 del : Vx kv es = a ++ b
theorem Dp.locate {kt : TypeId} {es : List (Key × AV)} {E : Array MapEntry} {clock : Nat} (h : Dp P C N w kt es E clock) {kv : Key} {V : Value} (hk : KV kv V) (ht : KT P kt V) :
  (∃ x,De kv es = some x /\ ∃ q : At C N w es E V x kv,∀ w',(Instr.findKey kt V E.toList).run P w' = .ok (some (q.A.length,q.e.val)) w') ∨
  (De kv es = none /\ (∀ e ∈ E.toList,e.key ≠ V) /\ ∀ w',(Instr.findKey kt V E.toList).run P w' = .ok none w') := by
 obtain ⟨L,hp,hL⟩ := h.perm;cases hm : De kv es with
 | none =>
  obtain ⟨h1,_⟩ := Q1 hm
  have hno : ∀ e ∈ E.toList,e.key ≠ V := fun e he hh => by
   obtain ⟨x,hx,hxk,_⟩ := ER.mem hL e (hp.symm.subset he);have := (Aj3 (w := w) hk hxk ht (h.typed e he)).1.2 hh.symm;rw [h1 x hx] at this; cases this
  refine .inr ⟨rfl,hno,fun w' => ?_⟩
  obtain ⟨r,k1,k2⟩ := Mx (w := w') ht h.typed;cases r with
  | none => exact k1
  | some p =>
   obtain ⟨f,_,f2,f3,_⟩ := k2;exact absurd f3 (hno f (ae_ f2))
 | some x =>
  obtain ⟨a,k',b,h1,h2,h3,h4⟩ := Yx hm;have hL' := hL;rw [h1] at hL';obtain ⟨A',L2,q1,q2,q3⟩ := hL'.split;cases L2 with
  | nil => unfold ER at q3; exact q3.elim
  | cons e B' =>
   unfold ER at q3;obtain ⟨⟨q4,q5⟩,q6⟩ := q3
   have he : e ∈ E.toList := hp.subset (by rw [q1]; simp)
   obtain ⟨A,B,hE⟩ := eb_ he;have i5 : e.key = V := ((Aj3 (w := w) hk q4 ht (h.typed e he)).1.1 h2).symm
   have kg : (A' ++ B').Perm (A ++ B) := by
    have := hp; rw [q1,hE] at this;exact (List.perm_middle.symm.trans (this.trans List.perm_middle)).cons_inv
   refine .inl ⟨x,rfl,⟨A,e,B,a,k',b,A',B',hE,i5,q5,q4,h1,q2,q6,kg,h3,h4⟩,fun w' => ?_⟩
   obtain ⟨r,k1,k2⟩ := Mx (w := w') ht h.typed;cases r with
   | none => exact absurd i5 (k2 e he)
   | some p =>
    obtain ⟨f,_,f2,f3,f4⟩ := k2;obtain ⟨j,y⟩ := p;simp only [ed_] at f2 f4;have hnd := h.keys;rw [hE] at hnd f2;obtain ⟨g1,g2⟩ := Yz hnd f2 (f3.trans i5.symm);subst g1 g2;rw [k1,← f4]
theorem My {α : Type} (f : α -> α) (e : α) (B : List α) : ∀ A : List α,(A ++ e :: B).modify A.length f = A ++ f e :: B
 | [] => rfl
 | x :: A => by simp only [az_,at_,List.modify_succ_cons,My f e B A]
theorem Dp.set {kt : TypeId} {es : List (Key × AV)} {E : Array MapEntry} {clock : Nat} (h : Dp P C N w kt es E clock) {kv : Key} {V : Value} {x v : AV} (q : At C N w es E V x kv) {y : Value} (hy : R C N w v y) :
  Dp P C N w kt (Np kv v es) (E.modify q.A.length fun e => { e with key := V,val := y }) clock /\ (E.modify q.A.length fun e => { e with key := V,val := y }).toList = q.A ++ { q.e with val := y } :: q.B := by
 have hl : (E.modify q.A.length fun e => { e with key := V,val := y }).toList = q.A ++ { q.e with val := y } :: q.B := by
  rw [ft_,q.hE];have hk := q.key
  simp [My,← hk]
 have kj : (q.A ++ { q.e with val := y } :: q.B).map (·.key) = (q.A ++ q.e :: q.B).map (·.key) := by simp
 have km : (q.A ++ { q.e with val := y } :: q.B).map (·.born) = (q.A ++ q.e :: q.B).map (·.born) := by simp
 refine ⟨⟨fun e he => ?_,⟨q.A' ++ { q.e with val := y } :: q.B',?_,?_⟩,?_,fun e he => ?_,?_⟩,hl⟩
 ·rw [hl] at he
  rcases b_.1 he with he | he
  ·exact h.typed e (by rw [q.hE]; simp [he])
  ·rcases aq_.1 he with rfl | he
   ·exact h.typed q.e (by rw [q.hE]; simp)
   ·exact h.typed e (by rw [q.hE]; simp [he])
 ·rw [hl]; exact List.perm_middle.trans ((q.perm.cons _).trans List.perm_middle.symm)
 ·rw [q.set v]; exact q.ea.append (by unfold ER; exact ⟨⟨q.kk,hy⟩,q.eb⟩)
 ·rw [hl,kj,← q.hE]; exact h.keys
 ·rw [hl] at he
  rcases b_.1 he with he | he
  ·exact h.born e (by rw [q.hE]; simp [he])
  ·rcases aq_.1 he with rfl | he
   ·exact h.born q.e (by rw [q.hE]; simp)
   ·exact h.born e (by rw [q.hE]; simp [he])
 ·rw [hl,km,← q.hE]; exact h.apart
theorem Dp.ins {kt : TypeId} {es : List (Key × AV)} {E : Array MapEntry} {clock : Nat} (h : Dp P C N w kt es E clock) {kv : Key} {V : Value} (hk : KV kv V) (ht : KT P kt V) (hno : ∀ e ∈ E.toList,e.key ≠ V) {v : AV} {y : Value} (hy : R C N w v y) :
  Dp P C N w kt (Mm kv v es) (E.push ⟨V,y,clock⟩) (clock + 1) := by
 obtain ⟨L,hp,hL⟩ := h.perm;obtain ⟨a,b,h1,h2⟩ := Yy kv v es;rw [h1] at hL;obtain ⟨A',B',q1,q2,q3⟩ := hL.split
 have hl : (E.push ⟨V,y,clock⟩).toList = E.toList ++ [⟨V,y,clock⟩] := by simp
 refine ⟨fun e he => ?_,⟨A' ++ ⟨V,y,clock⟩ :: B',?_,?_⟩,?_,fun e he => ?_,?_⟩
 ·rw [hl] at he
  rcases b_.1 he with he | he
  ·exact h.typed e he
  ·simp at he; subst he; exact ht
 ·rw [hl];refine List.perm_middle.trans ?_;rw [← q1];exact (hp.cons _).trans (List.perm_append_singleton _ _).symm
 ·rw [h2]; exact q2.append (by unfold ER; exact ⟨⟨hk,hy⟩,q3⟩)
 ·rw [hl,cz_,el_]
  refine ⟨h.keys,by simp,fun x hx z hz => ?_⟩
  simp at hz; subst hz
  obtain ⟨e,he,rfl⟩ := cr_.1 hx;exact hno e he
 ·rw [hl] at he
  rcases b_.1 he with he | he
  ·have := h.born e he; omega
  ·simp at he; subst he; exact bj_ _
 ·rw [hl,cz_,el_]
  refine ⟨h.apart,by simp,fun x hx z hz => ?_⟩
  simp at hz; subst hz
  obtain ⟨e,he,rfl⟩ := cr_.1 hx;have := h.born e he; omega
theorem Dp.del {kt : TypeId} {es : List (Key × AV)} {E : Array MapEntry} {clock : Nat} (h : Dp P C N w kt es E clock) {kv : Key} {V : Value} {x : AV} (q : At C N w es E V x kv) :
  Dp P C N w kt (Vx kv es) (E.eraseIdxIfInBounds q.A.length) clock := by
 have hl : (E.eraseIdxIfInBounds q.A.length).toList = q.A ++ q.B := by
  have hlt : q.A.length < E.size := by rw [← bx_,q.hE]; simp
  unfold Array.eraseIdxIfInBounds;rw [dif_pos hlt,Array.toList_eraseIdx,q.hE]
  simp [List.eraseIdx_append_of_length_le]
 have b8 : (q.A ++ q.B).Sublist E.toList := by rw [q.hE]; exact List.Sublist.append (List.Sublist.refl _) (List.sublist_cons_self _ _)
 refine ⟨fun e he => h.typed e (b8.subset (by rwa [hl] at he)),⟨q.A' ++ q.B',by rw [hl]; exact q.perm,by rw [q.del]; exact q.ea.append q.eb⟩,?_,fun e he => h.born e (b8.subset (by rwa [hl] at he)),?_⟩
 ·rw [hl]; exact (b8.map _).nodup h.keys
 ·rw [hl]; exact (b8.map _).nodup h.apart
theorem Dp.empty {kt : TypeId} {clock : Nat} : Dp P C N w kt [] #[] clock :=
 ⟨fun e he => by simp at he,⟨[],by simp,by unfold ER; trivial⟩,by simp,fun e he => by simp at he,by simp⟩
abbrev fw_ := @Dp.empty
theorem Dp.count {kt : TypeId} {es : List (Key × AV)} {E : Array MapEntry} {clock : Nat} (h : Dp P C N w kt es E clock) : es.length = E.size := by
 obtain ⟨L,hp,hL⟩ := h.perm;rw [hL.length,hp.length_eq]; simp
end
section
variable {P : Program} {C C' : Ctx} {N N' : Nat} {w w' : World} {U U' : Sto}
theorem Ck {c : Nat} {E : Array MapEntry} {clock : Nat} (h : w.heap[c]? = some (.map E clock)) : (getObj c).run P w = .ok (.map E clock) w := by
 simp only [getObj,Sem.run,h]
theorem F0 {c : Nat} {E : Array MapEntry} {clock : Nat} (h : w.heap[c]? = some (.map E clock)) (O : Obj) :
  (setObj c O).run P w = .ok () { w with heap := w.heap.setIfInBounds c O } := by
 simp only [setObj,Sem.run,h]
theorem N7 {c : Nat} {O₀ : Obj} (h : w.heap[c]? = some O₀) (O : Obj) : Wr w { w with heap := w.heap.setIfInBounds c O } c O := by
 have hlt := (ba_.1 h).1
 refine ⟨by simp,by simp [hlt],fun b hb => ?_,rfl,rfl⟩
 simp only [];rw [cv_ (fun h => hb h.symm)]
theorem Ab5 {c : Nat} {E : Array MapEntry} {clock : Nat} (h : w.heap[c]? = some (.map E clock)) : csize w c = 0 := by unfold csize; simp [h]
theorem setMap (hs : Sim P C w U) {r kt ver : Nat} {es : List (Key × AV)} (hg : U.get r = some (.map kt es ver)) {c : Nat} {E : Array MapEntry} {clock : Nat} (hl : C.loc r = some (c,0)) (hh : w.heap[c]? = some (.map E clock))
  {es' : List (Key × AV)} {ver' : Nat} (hv : ver < ver') {E' : Array MapEntry} {clock' : Nat} (hm : Dp P C (nx U) w kt es' E' clock') :
  Sim P C { w with heap := w.heap.setIfInBounds c (.map E' clock') } (U.set r (.map kt es' ver')) /\ Ext C (nx U) w C (nx U) { w with heap := w.heap.setIfInBounds c (.map E' clock') } := by
 have p := N7 hh (.map E' clock')
 refine hs.upd hl p (by rw [Ab5 p.here,Ab5 hh]) hg _ rfl (fun kt₁ es₁ v₁ h => ?_) fun e => ?_
 ·cases h; exact ⟨kt,es,ver,rfl,hv⟩
 ·refine ⟨c,E',clock',hl,p.here,?_⟩;rw [Ac]; exact hm.ext e
theorem Uz {d : TypeDesc} {v : Value} (h : KS d v) (n : Nat) : Instr.sameBits n v v = true := by
 unfold KS at h
 split at h
 ·obtain ⟨m,rfl⟩ := h; cases n <;> simp [Instr.sameBits]
 ·obtain ⟨m,rfl⟩ := h; cases n <;> simp [Instr.sameBits,Go.MapKept.bytes_beq]
 ·obtain ⟨m,rfl⟩ := h; cases n <;> simp [Instr.sameBits]
 ·exact h.elim
theorem Ss (n : Nat) : ∀ {fs : List Field} {vs : List Value},KFs P fs vs -> ((vs.zip vs).all fun (x,y) => Instr.sameBits n x y) = true
 | [],[],_ => rfl
 | f :: fs,v :: vs,h => by
  unfold KFs at h;obtain ⟨⟨i,d,_,_,_,_,hk,_⟩,h2⟩ := h;simp only [fx_,dy_,af_];exact ⟨Uz hk n,Ss n h2⟩
 | [],_ :: _,h => by unfold KFs at h; exact h.elim
 | _ :: _,[],h => by unfold KFs at h; exact h.elim
theorem Afk {kt : TypeId} {v : Value} (h : KT P kt v) : (Instr.keyThatStays v v).run P w = .ok v w := by
 have : Instr.sameBits 10000 v v = true := by
  rcases h with ⟨d,_,h⟩ | ⟨fs,a,_,rfl,h,_⟩
  ·exact Uz h _
  ·have := Ss 9999 h;simp only [Instr.sameBits,af_,beq_self_eq_true,true_and];exact this
 unfold Instr.keyThatStays;rw [this]; rfl
theorem Y0 {et : TypeId} {te : TI} (hte : A4 P et = some te) {z : AV} (hz : Km te = some z) : ∃ Z,(∀ w,(zeroValue et).run P w = .ok Z w) /\ ∀ (C : Ctx) (N : Nat) (w : World),R C N w z Z := by
 obtain ⟨Z,h1,h2⟩ := Si (P := P) (C := ⟨fun _ => none,fun _ => 0,fun _ => False,fun _ => none⟩) (N := 0) (w := default) hte hz
 have bx : ∀ w,(zeroValue et).run P w = .ok Z w := fun w => by
  unfold zeroValue typeInfo at h1 ⊢;simp only [Sem.run_bind,run_program,Result.andThen_ok] at h1 ⊢;cases hi : P.info? et with
  | none => simp [hi] at h1
  | some i =>
   simp only [hi,Sem.run_pure,Result.andThen_ok] at h1 ⊢;cases hz : i.zero with
   | none => simp [hz] at h1
   | some v => simp only [hz,Sem.run_pure,Result.ok.injEq] at h1 ⊢; exact ⟨h1.1,trivial⟩
 refine ⟨Z,bx,fun C N w => ?_⟩
 obtain ⟨Z',h3,h4⟩ := Si (P := P) (C := C) (N := N) (w := w) hte hz;rw [bx w] at h3; cases h3; exact h4
theorem Ad3 {ok : Bool} {v : AV} {V : Value} (h : R C N w v V) (b : Bool) : R C N w (Ye ok v b) (if ok then .tuple #[V,.bool b] else V) := by
 cases ok
 ·exact h
 ·simp only [Ye]; unfold R; exact ⟨_,rfl,by unfold RL; exact ⟨h,by unfold RL; exact ⟨by unfold R; rfl,by unfold RL; trivial⟩⟩⟩
theorem Abh (hs : Sim P C w U) {t kt et : TypeId} {ti te : TI} (hti : A4 P t = some ti) (hd : ti.desc = .map kt et) (hte : A4 P et = some te) {z : AV} (hz : Km te = some z) {k m : AV} {K M : Value} (hk : R C (nx U) w k K) (hm : R C (nx U) w m M)
  {ok : Bool} {v : AV} (h : Jw kt (Er P kt k) z ok m U = some (v,U')) : U' = U /\ Df P C (nx U) w (Instr.lookup t M K ok) v := by
 obtain ⟨_,d,_,g2,g3,_⟩ := Ar hti
 have hu := g2.trans (by rw [← g3,hd])
 obtain ⟨Z,z1,z2⟩ := Y0 hte hz;unfold Jw at h
 split at h
 ·rename_i kv hkv
  obtain ⟨hK,hT⟩ := Hh hkv hk
  split at h
  ·rename_i r
   split at h
   ·rename_i kt' es ver hg
    split at h
    ·rename_i hkt
     have hkt := ac_ hkt; subst hkt;unfold R at hm;obtain ⟨c,rfl,_,bq⟩ := hm;obtain ⟨c',E,clock,l1,l2,l3⟩ := hs.obj r _ hg;have := bq c' 0 l1; subst this
     rcases l3.locate hK hT with ⟨x,hx,q,hq⟩ | ⟨hx,_,hq⟩
     ·rw [hx] at h; cases h;refine ⟨rfl,_,?_,Ad3 q.val true⟩;simp only [Instr.lookup,Sem.run_bind,Aa hu,Result.andThen_ok,Ck l2,Sem.run_pure,Cq hT _ 9998,hq w]
     ·rw [hx] at h; cases h;refine ⟨rfl,_,?_,Ad3 (z2 _ _ _) false⟩;simp only [Instr.lookup,Sem.run_bind,Aa hu,Result.andThen_ok,Ck l2,Sem.run_pure,Cq hT _ 9998,hq w,z1]
    ·cases h
   ·cases h
  ·cases h;unfold R at hm; obtain ⟨rfl,_⟩ := hm;refine ⟨rfl,_,?_,Ad3 (z2 _ _ _) false⟩
   obtain ⟨r,k1,k2⟩ := Mx (P := P) (w := w) hT (es := []) (fun e he => by simp at he)
   have : r = none := by
    cases r with
    | none => rfl
    | some p => obtain ⟨f,_,f2,_⟩ := k2; simp at f2
   subst this;simp only [Instr.lookup,Sem.run_bind,Aa hu,Result.andThen_ok,Sem.run_pure,Cq hT _ 9998,k1,z1]
  ·cases h
 ·cases h
theorem Aj7 {E : Array MapEntry} {A B : List MapEntry} {e : MapEntry} (h : E.toList = A ++ e :: B) : E[A.length]? = some e := by
 rw [← bb_,h]; simp
theorem T6 (hs : Sim P C w U) {t kt et : TypeId} {ti te : TI} (hti : A4 P t = some ti) (hd : ti.desc = .map kt et) {k m v : AV} {K M V : Value} (hk : R C (nx U) w k K) (hm : R C (nx U) w m M) (hv : R C (nx U) w v V)
  {u : AV} (h : Mo kt (Er P kt k) te m v U = some (u,U')) : u = Au /\ ∃ w',(Instr.mapUpdate t M K V).run P w = .ok () w' /\ Sim P C w' U' /\ Ext C (nx U) w C (nx U') w' := by
 obtain ⟨_,d,_,g2,g3,_⟩ := Ar hti
 have hu := g2.trans (by rw [← g3,hd])
 unfold Mo at h
 split at h
 ·rename_i kv r hkv
  obtain ⟨hK,hT⟩ := Hh hkv hk
  split at h
  ·rename_i kt' es ver hg
   split at h
   ·rename_i hb
    rw [af_] at hb;have hkt := ac_ hb.1; subst hkt;unfold R at hm;obtain ⟨c,rfl,_,bq⟩ := hm;obtain ⟨c',E,clock,l1,l2,l3⟩ := hs.obj r _ hg;have := bq c' 0 l1; subst this
    rcases l3.locate hK hT with ⟨x,hx,q,hq⟩ | ⟨hx,hno,hq⟩
    ·simp only [hx,Ai,ad_,bc_] at h;obtain ⟨rfl,rfl⟩ := h;obtain ⟨m1,_⟩ := l3.set q hv;obtain ⟨s1,s2⟩ := setMap hs hg l1 l2 (bj_ ver) m1
     refine ⟨rfl,_,?_,s1,by rw [Ac]; exact s2⟩
     have hold := Aj7 q.hE;simp only [Instr.mapUpdate,Sem.run_bind,Aa hu,Result.andThen_ok,Ck l2,Cq hT _ 9998,hq w,hold,dw_,gn_,q.key,Afk hT,F0 l2]
    ·simp only [hx,Ai,ad_,bc_] at h;obtain ⟨rfl,rfl⟩ := h;obtain ⟨s1,s2⟩ := setMap hs hg l1 l2 (bj_ ver) (l3.ins hK hT hno hv)
     refine ⟨rfl,_,?_,s1,by rw [Ac]; exact s2⟩
     simp only [Instr.mapUpdate,Sem.run_bind,Aa hu,Result.andThen_ok,Ck l2,Cq hT _ 9998,hq w,F0 l2]
   ·cases h
  ·cases h
 ·cases h
theorem Abi (hs : Sim P C w U) {t kt et ty t2 : TypeId} {ti : TI} (hti : A4 P t = some ti) (hd : ti.desc = .map kt et) {k m : AV} {K M : Value} (hk : R C (nx U) w k K) (hm : R C (nx U) w m M)
  {u : AV} (h : Xm kt (Er P kt k) m U = some (u,U')) : u = Au /\ ∃ w',(Builtin.delete_ #[t,t2] ty #[M,K]).run P w = .ok (.tuple #[]) w' /\ Sim P C w' U' /\ Ext C (nx U) w C (nx U') w' := by
 obtain ⟨_,d,_,g2,g3,_⟩ := Ar hti
 have hu := g2.trans (by rw [← g3,hd])
 unfold Xm at h
 split at h
 ·rename_i kv r hkv
  obtain ⟨hK,hT⟩ := Hh hkv hk
  split at h
  ·rename_i kt' es ver hg
   split at h
   ·rename_i hb
    have hkt := ac_ hb; subst hkt;unfold R at hm;obtain ⟨c,rfl,_,bq⟩ := hm;obtain ⟨c',E,clock,l1,l2,l3⟩ := hs.obj r _ hg;have := bq c' 0 l1; subst this;simp only [Ai,ad_,bc_] at h;obtain ⟨rfl,rfl⟩ := h
    rcases l3.locate hK hT with ⟨x,hx,q,hq⟩ | ⟨hx,hno,hq⟩
    ·obtain ⟨s1,s2⟩ := setMap hs hg l1 l2 (bj_ ver) (l3.del q)
     refine ⟨rfl,_,?_,s1,by rw [Ac]; exact s2⟩
     simp [Builtin.delete_,Aa hu,Ck l2,Cq hT _ 9998,hq w,F0 l2]
    ·obtain ⟨s1,s2⟩ := setMap hs hg l1 l2 (bj_ ver) (E' := E) (clock' := clock) (es' := Vx kv es) (by rw [(Q1 hx).2]; exact l3)
     refine ⟨rfl,_,?_,s1,by rw [Ac]; exact s2⟩
     simp [Builtin.delete_,Aa hu,Ck l2,Cq hT _ 9998,hq w,F0 l2]
   ·cases h
  ·cases h
 ·rename_i kv hkv
  obtain ⟨hK,hT⟩ := Hh hkv hk;cases h;unfold R at hm; obtain ⟨rfl,_⟩ := hm;refine ⟨rfl,w,?_,hs,by_ _ _ _⟩
  simp [Builtin.delete_,Aa hu,Cq hT _ 9998]
 ·cases h
theorem Wi (hs : Sim P C w U) {t kt et ty : TypeId} {ti : TI} (hti : A4 P t = some ti) (hd : ti.desc = .map kt et) {m : AV} {M : Value} (hm : R C (nx U) w m M)
  {u : AV} (h : Pf m U = some (u,U')) : u = Au /\ ∃ w',(Builtin.clear_ #[t] ty #[M]).run P w = .ok (.tuple #[]) w' /\ Sim P C w' U' /\ Ext C (nx U) w C (nx U') w' := by
 obtain ⟨_,d,_,g2,g3,_⟩ := Ar hti
 have hu := g2.trans (by rw [← g3,hd])
 unfold Pf at h
 split at h
 ·rename_i r
  split at h
  ·rename_i kt' es ver hg
   unfold R at hm;obtain ⟨c,rfl,_,bq⟩ := hm;obtain ⟨c',E,clock,l1,l2,l3⟩ := hs.obj r _ hg;have := bq c' 0 l1; subst this;simp only [Ai,ad_,bc_] at h;obtain ⟨rfl,rfl⟩ := h;obtain ⟨s1,s2⟩ := setMap hs hg l1 l2 (bj_ ver) (fw_ (clock := clock))
   refine ⟨rfl,_,?_,s1,by rw [Ac]; exact s2⟩
   simp [Builtin.clear_,Aa hu,Ck l2,F0 l2]
  ·cases h
 ·cases h;unfold R at hm; obtain ⟨rfl,_⟩ := hm;refine ⟨rfl,w,?_,hs,by_ _ _ _⟩
  simp [Builtin.clear_,Aa hu]
 ·cases h
theorem Abj (hs : Sim P C w U) {t kt et ty : TypeId} {ti : TI} (hti : A4 P t = some ti) (hd : ti.desc = .map kt et) {m : AV} {M : Value} (hm : R C (nx U) w m M)
  {u : AV} (h : Pe m U = some (u,U')) : U' = U /\ Df P C (nx U) w (Builtin.len_ #[t] ty #[M]) u := by
 obtain ⟨_,d,_,g2,g3,_⟩ := Ar hti
 have hu := g2.trans (by rw [← g3,hd])
 unfold Pe at h
 split at h
 ·rename_i r
  split at h
  ·rename_i kt' es ver hg
   unfold R at hm;obtain ⟨c,rfl,_,bq⟩ := hm;obtain ⟨c',E,clock,l1,l2,l3⟩ := hs.obj r _ hg;have := bq c' 0 l1; subst this;simp only [Ai,ad_,bc_] at h;obtain ⟨rfl,rfl⟩ := h
   refine ⟨rfl,_,by simp [Builtin.len_,Aa hu,Ck l2]; rfl,?_⟩
   unfold goInt R; rw [l3.count]; rfl
  ·cases h
 ·cases h;unfold R at hm; obtain ⟨rfl,_⟩ := hm
  exact ⟨rfl,_,by simp [Builtin.len_,Aa hu]; rfl,by unfold goInt R; rfl⟩
 ·cases h
end
section
variable {P : Program} {C C' : Ctx} {N N' : Nat} {w w' : World} {U U' : Sto}
theorem Pl {α : Type} {a b : Array α} (h : a.toList = b.toList) : a = b := Array.ext' h
theorem Abk {E : Array MapEntry} {A B : List MapEntry} {e : MapEntry} (h : E.toList = A ++ e :: B) {V : Value} (hV : e.key = V) : (E.modify A.length fun e => { e with key := V }) = E := by
 apply Pl;rw [ft_,h,My,← hV]
theorem Wj (hs : Sim P C w U) {t kt et : TypeId} {ti te : TI} (hti : A4 P t = some ti) (hd : ti.desc = .map kt et) (hte : A4 P et = some te) {z : AV} (hz : Km te = some z) {k m : AV} {K M : Value} (hk : R C (nx U) w k K) (hm : R C (nx U) w m M)
  {u : AV} (h : Pd kt (Er P kt k) z m U = some (u,U')) : H3 P C w U (Instr.mapEntry t M K) u U' := by
 obtain ⟨_,d,_,g2,g3,_⟩ := Ar hti
 have hu := g2.trans (by rw [← g3,hd])
 obtain ⟨Z,z1,z2⟩ := Y0 hte hz;unfold Pd at h
 split at h
 ·rename_i kv r hkv
  obtain ⟨hK,hT⟩ := Hh hkv hk
  split at h
  ·rename_i kt' es ver hg
   split at h
   ·rename_i hb
    have hkt := ac_ hb; subst hkt;unfold R at hm;obtain ⟨c,rfl,hr,bq⟩ := hm;obtain ⟨c',E,clock,l1,l2,l3⟩ := hs.obj r _ hg;have := bq c' 0 l1; subst this;rw [Ai] at h
    -- the stamp behind the map's step
    have step : ∀ {es' : List (Key × AV)} {E' : Array MapEntry} {clock' : Nat} (m1 : Dp P C (nx U) w kt' es' E' clock') (e : MapEntry) (he : e ∈ E'.toList) (hek : e.key = K) {x : AV} {X : Value} (hx : R C (nx U) w x X)
      (bx : (Instr.mapEntry t (.map (some c)) K).run P w = .ok (.tuple #[X,goInt e.born]) { w with heap := w.heap.setIfInBounds c (.map E' clock') }),
      H3 P C w U (Instr.mapEntry t (.map (some c)) K) (.tup [x,.stp (nx U)]) ((U.set r (.map kt' es' (ver + 1))).new (.stamp r (ver + 1) kv)) := by
     intro es' E' clock' m1 e he hek x X hx bx;obtain ⟨s1,s2⟩ := setMap hs hg l1 l2 (bj_ ver) m1;have hn : nx (U.set r (.map kt' es' (ver + 1))) = nx U := Ac _ _ _;have kp := (N7 l2 (.map E' clock')).here
     obtain ⟨s3,s4⟩ := s1.newStamp e.born r (ver + 1) kv (by rw [hn]; exact hr) (fun kt₁ es₁ v₁ hg₁ => by
      rw [a_,if_pos rfl] at hg₁; cases hg₁
      exact ⟨nl,fun _ => ⟨c,E',clock',l1,kp,e,he,by rw [hek]; exact hK,rfl⟩⟩)
     refine ⟨_,_,_,_,bx,rfl,s3,?_,?_⟩
     ·rw [Af]; rw [hn] at s4 ⊢; exact s2.trans s4
     ·rw [Af]; rw [hn] at s4 ⊢;unfold R;refine ⟨_,rfl,?_⟩;unfold RL;refine ⟨R.ext (s2.trans s4) _ _ hx,?_⟩;unfold RL
      refine ⟨?_,by unfold RL; trivial⟩
      unfold R
      exact ⟨by simp [goInt,Ctx.addStm],bj_ _⟩
    rcases l3.locate hK hT with ⟨x,hx,q,hq⟩ | ⟨hx,hno,hq⟩
    ·simp only [hx,ad_,bc_] at h;obtain ⟨rfl,rfl⟩ := h
     refine step l3 q.e (by rw [q.hE]; simp) q.key q.val ?_
     have hold := Aj7 q.hE;simp only [Instr.mapEntry,Sem.run_bind,Aa hu,Result.andThen_ok,Ck l2,Cq hT _ 9998,hq w,hold,dw_,gn_,q.key,Afk hT,F0 l2,Abk q.hE q.key,Sem.run_pure]
    ·simp only [hx,ad_,bc_] at h;obtain ⟨rfl,rfl⟩ := h
     refine step (l3.ins hK hT hno (z2 _ _ _)) ⟨K,Z,clock⟩ (by simp) rfl (z2 _ _ _) ?_
     simp only [Instr.mapEntry,Sem.run_bind,Aa hu,Result.andThen_ok,Ck l2,Cq hT _ 9998,hq w,F0 l2,z1,Sem.run_pure]
   ·cases h
  ·cases h
 ·cases h
theorem Aqm {kt : TypeId} {es : List (Key × AV)} {E : Array MapEntry} {clock : Nat} (h : Dp P C N w kt es E clock) {e f : MapEntry} (he : e ∈ E.toList) (hf : f ∈ E.toList) (hb : f.born = e.born) : f = e := by
 obtain ⟨A,B,hE⟩ := eb_ he;obtain ⟨j,hj⟩ := dj_.1 hf;have hnd := h.apart;rw [hE] at hnd hj;exact (Yz hnd hj hb).2
theorem Asq {kt : TypeId} {es : List (Key × AV)} {E : Array MapEntry} {clock : Nat} (h : Dp P C N w kt es E clock) {e f : MapEntry} (he : e ∈ E.toList) (hf : f ∈ E.toList) (hb : f.key = e.key) : f = e := by
 obtain ⟨A,B,hE⟩ := eb_ he;obtain ⟨j,hj⟩ := dj_.1 hf;have hnd := h.keys;rw [hE] at hnd hj;exact (Yz hnd hj hb).2
theorem Ad4 {α : Type} (E : Array α) (p : α -> Bool) : E.findIdx? p = E.toList.findIdx? p := by
 cases E; simp
theorem Su (hs : Sim P C w U) {t : TypeId} {te : TI} {m st v : AV} {M S V : Value} (hm : R C (nx U) w m M) (hst : R C (nx U) w st S) (hv : R C (nx U) w v V)
  {u : AV} (h : Lh te m st v U = some (u,U')) : u = Au /\ ∃ w',(Instr.entryStore t M S V).run P w = .ok () w' /\ Sim P C w' U' /\ Ext C (nx U) w C (nx U') w' := by
 unfold Lh at h
 split at h
 ·rename_i r a
  split at h
  ·rename_i r' ver kv kt es ver' hga hg
   split at h
   ·rename_i hb
    simp only [af_] at hb;have h1 := ac_ hb.1.1; subst h1;have h2 := ac_ hb.1.2; subst h2
    split at h
    ·rename_i x hx
     simp only [Ai,ad_,bc_] at h;obtain ⟨rfl,rfl⟩ := h;refine ⟨rfl,?_⟩;obtain ⟨_,o2⟩ := hs.obj a _ hga;obtain ⟨cm,E,clock,l1,l2,e,he,hek,kq⟩ := (o2 kt es ver hg).2 rfl;obtain ⟨c',E',clock',l1',l2',l3⟩ := hs.obj r _ hg;rw [l1] at l1'; cases l1';rw [l2] at l2'; cases l2';unfold R at hm hst;obtain ⟨c,rfl,_,bq⟩ := hm;have := bq _ _ l1; subst this;obtain ⟨rfl,_⟩ := hst
     rcases l3.locate hek (l3.typed e he) with ⟨x',hx',q,_⟩ | ⟨hx',_⟩
     ·have hqe : q.e = e := Asq l3 he (by rw [q.hE]; simp) q.key
      obtain ⟨m1,m2⟩ := l3.set q hv;obtain ⟨s1,s2⟩ := setMap hs hg l1 l2 (bj_ ver) m1
      refine ⟨_,?_,s1,by rw [Ac]; exact s2⟩
      have fc : E.findIdx? (fun f => (f.born : Int) == C.stm a) = some q.A.length := by
       rw [Ad4,q.hE,List.findIdx?_append]
       have hA : List.findIdx? (fun f : MapEntry => (f.born : Int) == C.stm a) q.A = none := by
        rw [List.findIdx?_eq_none_iff];intro f hf;rw [kq,← hqe];have hnd := l3.apart;rw [q.hE,cz_,el_] at hnd
        have := hnd.2.2 f.born (dc_ hf) q.e.born (by simp)
        exact beq_eq_false_iff_ne.2 fun hh => this (Int.ofNat_inj.1 hh)
       rw [hA]
       simp [List.findIdx?_cons,kq,hqe]
      have br : (E.modify q.A.length fun f => { f with val := V }) = E.modify q.A.length fun f => { f with key := e.key,val := V } := by
       apply Pl;rw [m2,ft_,q.hE,My]
      simp only [Instr.entryStore,Sem.run_bind,Ck l2,Result.andThen_ok,asInt,asIntOf,Sem.run_pure,fc,F0 l2,br]
     ·rw [hx] at hx'; cases hx'
    ·cases h
   ·cases h
  ·cases h
 ·cases h
theorem Y1 (hs : Sim P C w U) {t kt : TypeId} {u : AV} (h : R0 kt U = some (u,U')) : H3 P C w U (Instr.makeMap t none) u U' := by
 unfold R0 at h;cases h;have p := Lk w (.map #[] 0)
 obtain ⟨s1,s2⟩ := hs.new p (.map kt [] 0) rfl (fun e => ⟨w.heap.size,#[],0,by simp [Ctx.add],p.here,fw_⟩)
 refine ⟨_,_,_,_,by simp [Instr.makeMap]; rfl,rfl,s1,by rw [Af]; exact s2,?_⟩
 rw [Af]; unfold R
 exact ⟨_,rfl,bj_ _,fun c' o hc => by simp [Ctx.add] at hc; exact hc.1⟩
theorem Wl (hs : Sim P C w U) {t kt et : TypeId} {ti : TI} (hti : A4 P t = some ti) (hd : ti.desc = .map kt et) {x : AV} {X : Value} (hx : R C (nx U) w x X) {u : AV} (h : Ty kt x U = some (u,U')) : H3 P C w U (Instr.makeMap t (some X)) u U' := by
 obtain ⟨_,d,_,g2,g3,_⟩ := Ar hti
 have hu := g2.trans (by rw [← g3,hd])
 unfold Ty at h
 split at h
 ·cases h;unfold R at hx; subst hx;have p := Lk w (.map #[] 0)
  obtain ⟨s1,s2⟩ := hs.new p (.map kt [] 0) rfl (fun e => ⟨w.heap.size,#[],0,by simp [Ctx.add],p.here,fw_⟩)
  refine ⟨_,_,_,_,by simp [Instr.makeMap,Aa hu,asInt,asIntOf]; rfl,rfl,s1,by rw [Af]; exact s2,?_⟩
  rw [Af]; unfold R
  exact ⟨_,rfl,bj_ _,fun c' o hc => by simp [Ctx.add] at hc; exact hc.1⟩
 ·cases h
theorem R.newIt {a c N : Nat} (ha : a < N) (hl : C.loc a = some (c,0)) : R C N w (.it a) (.pointer (some ⟨c,0,none⟩)) := by
 unfold R
 exact ⟨c,rfl,ha,fun c' o hc => by rw [hl] at hc; cases hc; rfl⟩
theorem Ad5 (hs : Sim P C w U) {t kt et : TypeId} {ti : TI} (hti : A4 P t = some ti) (hd : ti.desc = .map kt et) {m : AV} {M : Value} (hm : R C (nx U) w m M) {u : AV} (h : Adu m U = some (u,U')) : H3 P C w U (Instr.range t M) u U' := by
 obtain ⟨_,d,_,g2,g3,_⟩ := Ar hti
 have hu := g2.trans (by rw [← g3,hd])
 unfold Adu at h
 split at h
 ·cases h;unfold R at hm; obtain ⟨rfl,_⟩ := hm;have p := Lk w (.mapIter none 0 #[] 0)
  obtain ⟨s1,s2⟩ := hs.new p (.iter none 0 [] none) rfl (fun e => ⟨w.heap.size,0,#[],0,by simp [Ctx.add],p.here,rfl⟩)
  refine ⟨_,_,_,_,by simp [Instr.range,Aa hu]; rfl,rfl,s1,by rw [Af]; exact s2,?_⟩
  rw [Af]; exact R.newIt (bj_ _) (es_ ..)
 ·rename_i r
  split at h
  ·rename_i kt' es ver hg
   cases h;unfold R at hm;obtain ⟨c,rfl,hr,bq⟩ := hm;obtain ⟨c',E,clock,l1,l2,l3⟩ := hs.obj r _ hg;have := bq c' 0 l1; subst this;have p := Lk w (.mapIter (some c) clock #[] clock);have hlt := hs.lt r c 0 l1
   obtain ⟨s1,s2⟩ := hs.new p (.iter (some r) ver es none) rfl (fun e => by
    refine ⟨by rw [Af]; omega,w.heap.size,c,clock,#[],clock,by simp [Ctx.add],p.here,fun kt₁ es₁ v₁ hg₁ => ?_⟩
    rw [ab_,if_neg Om] at hg₁;rw [hg] at hg₁; cases hg₁
    refine ⟨nl,fun _ => ⟨E,by simp only [Ctx.add]; rw [if_neg Om]; exact l1,(p.other c hlt).trans l2,rfl,?_,fun k v hk => by cases hk⟩⟩
    obtain ⟨L,q1,q2⟩ := l3.perm;rw [Af]
    exact ⟨L,by rw [et_.2 (by simp)]; exact q1,q2.ext e⟩)
   refine ⟨_,_,_,_,by simp [Instr.range,Aa hu,Ck l2]; rfl,rfl,s1,by rw [Af]; exact s2,?_⟩
   rw [Af]; exact R.newIt (bj_ _) (es_ ..)
  ·cases h
 ·cases h
theorem Ad6 (hs : Sim P C w U) {x : AV} {X : Value} (hx : R C (nx U) w x X) {u : AV} (h : Yf x U = some (u,U')) : U' = U /\ Df P C (nx U) w (Instr.entry X) u := by
 unfold Yf at h
 split at h
 ·rename_i a
  split at h
  ·rename_i r ver left k v hga
   split at h
   ·rename_i kt es ver' hg
    cases hb : Nat.beq ver ver'
    ·simp [hb] at h
    ·simp only [hb,cond_true,ad_,bc_] at h;obtain ⟨rfl,rfl⟩ := h;have hv := ac_ hb; subst hv;refine ⟨rfl,?_⟩;obtain ⟨_,c,cm,since,seen,last,o1,o2,o3⟩ := hs.obj a _ hga;obtain ⟨E,l1,l2,fu,_,oh⟩ := (o3 kt es ver hg).2 rfl;obtain ⟨e,he,kw,hk,hv⟩ := oh k v rfl;obtain ⟨c',E',clock',l1',l2',l3⟩ := hs.obj r _ hg;rw [l1] at l1'; cases l1';rw [l2] at l2'; cases l2';unfold R at hx;obtain ⟨c2,rfl,_,bq⟩ := hx;have := bq c 0 o1; subst this;refine ⟨.tuple #[e.key,e.val],?_,?_⟩
     ·have kz : E.find? (fun f => f.born == e.born) = some e := by
       cases hf : E.find? (fun f => f.born == e.born) with
       | none =>
        rw [Array.find?_eq_none] at hf
        exact absurd (by simp) (hf e (by simpa using he))
       | some f =>
        have h1 := Array.find?_some hf;have h2 := Array.mem_of_find?_eq_some hf
        have hfe : f = e := Aqm l3 he (by simpa using h2) (by simpa using h1)
        rw [hfe]
      have hit : (getObj c2).run P w = .ok (.mapIter (some cm) since seen last) w := by simp only [getObj,Sem.run,o2]
      subst fu
      simp [Instr.entry,hit,kw,Ck l2,kz]
     ·unfold R;refine ⟨_,rfl,?_⟩;unfold RL;refine ⟨KV_R hk (l3.typed e he),?_⟩;unfold RL
      exact ⟨hv,by unfold RL; trivial⟩
   ·cases h
  ·cases h
 ·cases h
end
section
variable {P : Program} {C C' : Ctx} {N N' : Nat} {w w' : World} {U U' : Sto}
theorem Ab6 {α : Type} (x : α) (b : List α) : ∀ a : List α,(x,a ++ b) ∈ Fu (a ++ x :: b)
 | [] => by simp [Fu]
 | y :: a => by
  have := Ab6 x b a;simp only [az_,Fu,aq_,cr_];exact .inr ⟨(x,a ++ b),this,rfl⟩
theorem ER.mid : ∀ {l : List (Key × AV)} {A B : List MapEntry} {e : MapEntry},ER C N w l (A ++ e :: B) -> ∃ a x b,l = a ++ x :: b /\ ER C N w a A /\ KV x.1 e.key /\ R C N w x.2 e.val /\ ER C N w b B
 | [],[],B,e,h => by unfold ER at h; exact h.elim
 | [],_ :: _,B,e,h => by rw [az_] at h; unfold ER at h; exact h.elim
 | x :: l,[],B,e,h => by
  rw [bg_] at h; unfold ER at h
  exact ⟨[],x,l,rfl,by unfold ER; trivial,h.1.1,h.1.2,h.2⟩
 | x :: l,f :: A,B,e,h => by
  rw [az_] at h; unfold ER at h;obtain ⟨a,y,b,h1,h2,h3,h4,h5⟩ := ER.mid h.2
  exact ⟨x :: a,y,b,by simp [h1],by unfold ER; exact ⟨h.1,h2⟩,h3,h4,h5⟩
theorem Ad7 (hs : Sim P C w U) {a : Nat} {O₀ : AO} (hg : U.get a = some O₀) {c : Nat} {m₀ : Option Nat} {s₀ l₀ : Nat} {seen₀ : Array Nat} (hl : C.loc a = some (c,0)) (hh : w.heap[c]? = some (.mapIter m₀ s₀ seen₀ l₀))
  {m₁ : Option Nat} {s₁ l₁ : Nat} {seen₁ : Array Nat} {m : Option Nat} {ver : Nat} {left : List (Key × AV)} {cur : Option (Key × AV)}
  (hO : Ext C (nx U) w C (nx U) { w with heap := w.heap.setIfInBounds c (.mapIter m₁ s₁ seen₁ l₁) } -> OR P C { w with heap := w.heap.setIfInBounds c (.mapIter m₁ s₁ seen₁ l₁) } (U.set a (.iter m ver left cur)) a (.iter m ver left cur)) :
  Sim P C { w with heap := w.heap.setIfInBounds c (.mapIter m₁ s₁ seen₁ l₁) } (U.set a (.iter m ver left cur)) /\ Ext C (nx U) w C (nx U) { w with heap := w.heap.setIfInBounds c (.mapIter m₁ s₁ seen₁ l₁) } := by
 have p := N7 hh (.mapIter m₁ s₁ seen₁ l₁)
 exact hs.upd hl p (by unfold csize; rw [p.here,hh]) hg _ rfl (fun _ _ _ h => by cases h) hO
theorem Kw {α : Type} {a : Array α} {i : Nat} {x : α} (h : a[i]? = some x) : a.setIfInBounds i x = a := by
 apply Array.ext_getElem?;intro j
 by_cases hj : i = j
 ·subst hj;have := (ba_.1 h).1;rw [Array.getElem?_setIfInBounds_self_of_lt this,h]
 ·rw [cv_ hj]
theorem Aia {α : Type} (f : α -> Nat) {A B : List α} {e : α} (h : ((A ++ e :: B).map f).Nodup) : (A ++ e :: B).filter (fun x => !(f x == f e)) = A ++ B := by
 rw [cz_,el_,ck_,gu_] at h;obtain ⟨_,⟨h2,_⟩,h3⟩ := h;rw [fy_,List.filter_cons];simp only [beq_self_eq_true,Bool.not_true,bo_,if_false];rw [et_.2,et_.2]
 ·intro x hx;have : f x ≠ f e := fun hh => h2 (hh ▸ dc_ hx)
  simpa using this
 ·intro x hx
  have : f x ≠ f e := h3 (f x) (dc_ hx) (f e) (by simp)
  simpa using this
theorem Afl (w : World) {n : Nat} (h : 0 < n) : ∃ i dr,i < n /\ (choose (.mapNext n)).run P w = .ok i { w with drawn := dr } := by
 by_cases h1 : n <= 1
 ·exact ⟨0,w.drawn,h,by simp [choose,Sem.run,Question.forced,h1]⟩
 ·exact ⟨w.tape w.drawn (.mapNext n) % n,w.drawn + 1,Nat.mod_lt _ h,by simp [choose,Sem.run,Question.forced,Question.cut,h1]⟩
theorem Y2 (hs : Sim P C w U) {ty : TypeId} {a : Nat} {X : Value} (hx : R C (nx U) w (.it a) X) {m : Option Nat} {ver : Nat} {left : List (Key × AV)} {cur : Option (Key × AV)} (hga : U.get a = some (.iter m ver left cur)) (hv : Xo U m ver = true) :
    ∃ y w',(Instr.next X false ty).run P w = .ok y w' /\ Ext C (nx U) w C (nx U) w' /\
      ((left = [] /\ Sim P C w' (U.set a (.iter m ver [] none)) /\ R C (nx U) w' (.tup [.bool false]) y) ∨
       (∃ p ∈ Fu left,Sim P C w' (U.set a (.iter m ver p.2 (some p.1))) /\ R C (nx U) w' (.tup [.bool true,Qd p.1.1,p.1.2]) y)) := by
  have iz : ∀ w,R C (nx U) w (.tup [.bool false]) (.tuple #[.bool false]) := fun w => by
    unfold R; exact ⟨_,rfl,by unfold RL; exact ⟨by unfold R; rfl,by unfold RL; trivial⟩⟩
  unfold R at hx;obtain ⟨c,rfl,_,bq⟩ := hx;cases m with
  | none =>
    obtain ⟨c',since,seen,last,o1,o2,rfl⟩ := hs.obj a _ hga;have := bq c' 0 o1; subst this
    have hit : (getObj c).run P w = .ok (.mapIter none since seen last) w := by simp only [getObj,Sem.run,o2]
    obtain ⟨s1,s2⟩ := Ad7 (m₁ := none) (s₁ := since) (l₁ := last) (seen₁ := seen) (m := none) (ver := ver) (left := []) (cur := none) hs hga o1 o2 (fun _ => ⟨c,since,seen,last,o1,(N7 o2 _).here,rfl⟩)
    have hw : ({ w with heap := w.heap.setIfInBounds c (.mapIter none since seen last) } : World) = w := by rw [Kw o2]
    rw [hw] at s1 s2
    exact ⟨_,w,by simp [Instr.next,hit],s2,.inl ⟨rfl,s1,iz w⟩⟩
  | some r =>
    obtain ⟨hr,c',cm,since0,seen,since,o1,o2,o3⟩ := hs.obj a _ hga;have := bq c' 0 o1; subst this;unfold Xo at hv;simp only at hv
    split at hv
    · rename_i kt es v hg
      have hvv := ac_ hv; subst hvv;obtain ⟨E,l1,l2,fu,⟨L,hp,hL⟩,_⟩ := (o3 kt es v hg).2 rfl;subst fu;obtain ⟨cm',E',clock',l1',l2',l3⟩ := hs.obj r _ hg;rw [l1] at l1'; cases l1';rw [l2] at l2'; cases l2'
      have hit : (getObj c).run P w = .ok (.mapIter (some cm) since seen since) w := by simp only [getObj,Sem.run,o2]
      have ej : ∀ e ∈ E,e.born < since := fun e he => l3.born e (by simpa using he)
      -- no refusal
      have bi : (!seen.isEmpty && !E.isEmpty && E.all fun x => decide (x.born ≥ since)) = false := by
        rw [bw_];intro h;simp only [af_] at h;obtain ⟨⟨_,h2⟩,h3⟩ := h;cases hE : E[0]? with
        | none =>
          have : E.size = 0 := by
            rw [Array.getElem?_eq_none_iff] at hE; omega
          simp at h2
          exact h2 (dx_ this)
        | some e =>
          have hm : e ∈ E := Array.mem_of_getElem? hE;rw [Array.all_eq_true_iff_forall_mem] at h3;have h4 := h3 e hm;simp only [decide_eq_true_eq] at h4;have := ej e hm; omega
      obtain ⟨F,hFd⟩ : ∃ F,E.filter (fun e => !seen.contains e.born) = F := ⟨_,rfl⟩
      have hF : F.toList = E.toList.filter fun e => !seen.contains e.born := by rw [← hFd]; simp
      have hFE : ∀ e ∈ F,e ∈ E := fun e he => by rw [← hFd] at he; exact (Array.mem_filter.1 he).1
      have hold : (F.filter fun e => decide (e.born < since)) = F := by
        rw [Array.filter_eq_self]; intro e he; simpa using ej e (hFE e he)
      have fx : (F.filter fun e => decide (e.born ≥ since)) = #[] := by
        rw [Array.filter_eq_empty_iff]; intro e he; have := ej e (hFE e he); simp; omega
      have hgo : ∃ y w',(Instr.next (.pointer (some ⟨c,0,none⟩)) false ty).run P w = .ok y w' /\
          ((F = #[] /\ y = .tuple #[.bool false] /\ w' = w) ∨ ∃ e dr,e ∈ F.toList /\ y = .tuple #[.bool true,e.key,e.val] /\ w' = { w with drawn := dr,heap := w.heap.setIfInBounds c (.mapIter (some cm) since (seen.push e.born) since) }) := by
        have ct : ∀ (dr : Nat) (O : Obj),(setObj c O).run P { w with drawn := dr } = .ok () { w with drawn := dr,heap := w.heap.setIfInBounds c O } := fun dr O => by
          simp only [setObj,Sem.run,o2]
        by_cases h0 : F = #[]
        · refine ⟨.tuple #[.bool false],w,?_,.inl ⟨h0,rfl,rfl⟩⟩
          subst h0;simp only [Instr.next,Sem.run_bind,hit,Result.andThen_ok,Ck l2,bi,bo_,if_false,hFd]
          simp [Question.forced]
        · simp only [Instr.next,Sem.run_bind,hit,Result.andThen_ok,Ck l2,bi,bo_,if_false,hFd,hold,fx]
          have oa : F.isEmpty = false := by rw [bw_]; intro h; exact h0 (by simpa using h)
          have hK : ((if F.isEmpty = true then #[none] else #[]) ++ Array.map some (F ++ #[])) = F.map some := by rw [oa]; simp
          rw [hK]
          have cv : 0 < (F.map some).size := by
            simp only [Array.size_map]
            rcases cy_ F.size with h1 | h1
            · exact absurd (dx_ h1) h0
            · exact h1
          obtain ⟨i,dr,hi,hch⟩ := Afl (P := P) w cv;rw [hch];simp only [Array.size_map] at hi
          have b9 : (F.map some)[i]? = some (some F[i]) := by simp [hi]
          simp only [Result.andThen_ok,b9,Sem.run_bind,ct,Sem.run_pure]
          exact ⟨_,_,rfl,.inr ⟨F[i],dr,by simp,rfl,rfl⟩⟩
      obtain ⟨y,w',bx,co⟩ := hgo;refine ⟨y,w',bx,?_⟩
      rcases co with ⟨h0,rfl,rfl⟩ | ⟨e,dr,he,rfl,rfl⟩
      · rw [← hF,h0] at hp
        have hL0 : L = [] := by simpa using hp
        subst hL0
        have hl0 : left = [] := bl_ (by rw [hL.length]; rfl)
        subst hl0
        have hra : r ≠ a := fun hh => by rw [hh,hga] at hg; cases hg
        obtain ⟨s1,s2⟩ := Ad7 (m₁ := some cm) (s₁ := since) (l₁ := since) (seen₁ := seen) (m := some r) (ver := v) (left := []) (cur := none) hs hga o1 o2 (fun ex => by
          refine ⟨by rw [Ac]; exact hr,c,cm,since,seen,since,o1,(N7 o2 _).here,fun kt₁ es₁ v₁ hg₁ => ?_⟩
          rw [a_,if_neg hra,hg] at hg₁; cases hg₁
          refine ⟨nl,fun _ => ⟨E,l1,?_,rfl,⟨[],by rw [← hF,h0],by unfold ER; trivial⟩,fun k v hk => by cases hk⟩⟩
          rw [(N7 o2 _).other cm (fun hh => by rw [hh,o2] at l2; cases l2)]; exact l2)
        have hw : ({ w' with heap := w'.heap.setIfInBounds c (.mapIter (some cm) since seen since) } : World) = w' := by rw [Kw o2]
        rw [hw] at s1 s2;exact ⟨s2,.inl ⟨rfl,s1,iz w'⟩⟩
      · have heL : e ∈ L := hp.symm.subset (by rw [← hF]; exact he)
        obtain ⟨A,B,hLs⟩ := eb_ heL;have hL' := hL;rw [hLs] at hL';obtain ⟨la,x,lb,kr,ea,hk,hv',eb⟩ := hL'.mid;obtain ⟨F1,F2,hFs⟩ := eb_ he
        have heE : e ∈ E.toList := by have := hFE e (by simpa using he); simpa using this
        have hra : r ≠ a := fun hh => by rw [hh,hga] at hg; cases hg
        obtain ⟨t1,t2⟩ := hs.same (w' := { w with drawn := dr }) nl (fun _ _ => rfl) ⟨rfl,rfl⟩
        obtain ⟨s1,s2⟩ := Ad7 (m₁ := some cm) (s₁ := since) (l₁ := since) (seen₁ := seen.push e.born) (m := some r) (ver := v) (left := la ++ lb) (cur := some x) t1 hga o1 o2 (fun ex => by
          have ex2 := t2.trans ex
          refine ⟨by rw [Ac]; exact hr,c,cm,since,seen.push e.born,since,o1,(N7 (w := { w with drawn := dr }) o2 _).here,fun kt₁ es₁ v₁ hg₁ => ?_⟩
          rw [a_,if_neg hra,hg] at hg₁; cases hg₁;refine ⟨nl,fun _ => ⟨E,l1,?_,rfl,⟨A ++ B,?_,?_⟩,fun k y hky => ?_⟩⟩
          · rw [(N7 (w := { w with drawn := dr }) o2 _).other cm (fun hh => by rw [hh,o2] at l2; cases l2)]; exact l2
          · have oe : (E.toList.filter fun f => !(seen.push e.born).contains f.born) = F1 ++ F2 := by
              have h1 : (E.toList.filter fun f => !(seen.push e.born).contains f.born) = F.toList.filter fun f => !(f.born == e.born) := by
                rw [hF,List.filter_filter]
                congr 1
                funext f
                by_cases hh : f.born = e.born <;> simp [Array.contains_push,hh]
              rw [h1,hFs];refine Aia _ ?_;rw [← hFs,hF];exact (List.filter_sublist.map _).nodup l3.apart
            rw [oe];have hp2 := hp;rw [← hF,hLs,hFs] at hp2;exact (List.perm_middle.symm.trans (hp2.trans List.perm_middle)).cons_inv
          · rw [Ac]; exact (ea.append eb).ext ex2
          · cases hky
            exact ⟨e,heE,by simp,hk,by rw [Ac]; exact R.ext ex2 _ _ hv'⟩)
        refine ⟨t2.trans s2,.inr ⟨(x,la ++ lb),by rw [kr]; exact Ab6 x lb la,s1,?_⟩⟩
        have ex2 := t2.trans s2;unfold R;refine ⟨_,rfl,?_⟩;unfold RL
        refine ⟨by unfold R; rfl,?_⟩
        unfold RL;refine ⟨KV_R hk (l3.typed e heE),?_⟩;unfold RL
        exact ⟨R.ext ex2 _ _ hv',by unfold RL; trivial⟩
    · cases hv
end
end Go.AM
