/- A part of the proof; shortened by program. -/
import Derived.ChangeKeysEq
import Derived.Laws.StructEq
import Derived.Test.YtadnlmhnjfmleaaGreatDoorP01
set_option maxRecDepth 100000
set_option maxHeartbeats 4000000
set_option linter.unusedSimpArgs false
set_option linter.unusedVariables false
namespace Go.AM
open Go
section
variable {P : Program} {C : Ctx} {N : Nat} {w : World}
def Cp (P : Program) (C : Ctx) (N : Nat) (w : World) (s : Sem Value) (v : AV) : Prop := ∃ x,s.run P w = .ok x w /\ R C N w v x
theorem Cp.runs {J : Sto} {s : Sem Value} {v : AV} (hs : Sim P C w J) (h : Cp P C (nx J) w s v) : Hx P C w J s v J :=
 let ⟨x,h1,h2⟩ := h; ⟨x,x,w,C,h1,rfl,hs,bz_ _ _ _,h2⟩
theorem Ea {op : BinOp} {t : TypeId} {x y : Operand} {a b : Value} (h1 : ∀ l m,¬ (a = .agg l /\ b = .agg m)) (h2 : ¬ (a = .nilIface /\ b = .nilIface)) :
  (eqGuard op t x y a b).run P w = .ok () w := by
 cases op <;> first
  | (simp [eqGuard]; done)
  | (cases a <;> cases b <;> first
    | (simp [eqGuard]; done)
    | exact absurd ⟨rfl,rfl⟩ h2
    | exact absurd ⟨rfl,rfl⟩ (h1 _ _))
theorem Abh {op : BinOp} {t : TypeId} {x y : Operand} (h : (Ck x || Ck y) = true) : (eqGuard op t x y .nilIface .nilIface).run P w = .ok () w := by
 cases op <;> first
  | (simp [eqGuard]; done)
  | (cases x <;> cases y <;> first
    | (simp [Ck] at h; done)
    | (simp [eqGuard]; done))
theorem Af2 {op : BinOp} {a b : ByteArray} {v : AV} (h : Wg op (Bl a) (Bl b) = some v) (t : TypeId) :
  ∃ x,(binOp op t (.string a) (.string b)).run P w = .ok x w /\ R C N w v x := by
 have hl : Cq (Bl a) (Bl b) = Op.bytesLess a.toList b.toList := by rw [ByteArray.toList_eq,ByteArray.toList_eq]; exact Yq _ _
 cases op <;> simp only [Wg] at h
 case add =>
  cases hb : Nat.ble ((Bl a).length + (Bl b).length) Aih
  ·simp [hb] at h
  ·simp only [hb,cond_true] at h;cases h;have hle := ak_ hb;rw [Ei,Ei] at hle
   have hm : ¬ (((a.size + b.size : Nat) : Int) > IntKind.i64.max) := by
    have : IntKind.i64.max = 9223372036854775807 := by decide
    rw [this]; unfold Aih at hle; omega
   refine ⟨.string (a ++ b),?_,by unfold R; exact ⟨_,rfl,Yr a b⟩⟩
   simp only [binOp,Op.stringOp,Sem.run_ite,if_neg hm,Sem.run_pure]
 case eql => cases h; exact ⟨_,by simp only [binOp]; simp [Op.stringOp]; rfl,by unfold R; rw [Kb]⟩
 case neq => cases h; exact ⟨_,by simp only [binOp]; simp [Op.stringOp]; rfl,by unfold R; rw [Kb]⟩
 case lss => cases h; exact ⟨_,by simp only [binOp]; simp [Op.stringOp]; rfl,by unfold R; rw [hl]⟩
 case leq => cases h; exact ⟨_,by simp only [binOp]; simp [Op.stringOp]; rfl,by unfold R; rw [hl,Kb]⟩
 case gtr => cases h; exact ⟨.bool (!(Op.bytesLess a.toList b.toList || a.toList == b.toList)),by simp only [binOp,Op.stringOp,Sem.run_pure],by unfold R; rw [hl,Kb]⟩
 case geq => cases h; exact ⟨_,by simp only [binOp]; simp [Op.stringOp]; rfl,by unfold R; rw [hl]⟩
 all_goals (cases h)
structure EqR (P : Program) (w : World) (t : TypeId) (X Y : Value) (b : Bool) : Prop where
 eql : (binOp .eql t X Y).run P w = .ok (.bool b) w
 neq : (binOp .neq t X Y).run P w = .ok (.bool !b) w
theorem EqR.mk' {t : TypeId} {X Y : Value} {b : Bool} (h : ∀ d,(Op.equalIn (d + 1) t X Y).run P w = .ok b w)
  (e1 : binOp .eql t X Y = (do pure (.bool (← Op.equal t X Y)))) (e2 : binOp .neq t X Y = (do pure (.bool (!(← Op.equal t X Y))))) : EqR P w t X Y b := by
 have h' : (Op.equal t X Y).run P w = .ok b w := h 9999
 exact ⟨by rw [e1]; simp only [Sem.run_bind,h',Result.andThen_ok,Sem.run_pure],by rw [e2]; simp only [Sem.run_bind,h',Result.andThen_ok,Sem.run_pure]⟩
section
variable {t : TypeId} {d : TypeDesc}
theorem EqR.slice (hd : P.underlying t = some d) (h : ∃ e,d = .slice e) (ad : Addr) (n k : Nat) : EqR P w t (.slice (some ad) n k) (.slice none 0 0) false /\ EqR P w t (.slice none 0 0) (.slice (some ad) n k) false /\ EqR P w t (.slice none 0 0) (.slice none 0 0) true := by
 obtain ⟨e,rfl⟩ := h
 exact ⟨.mk' (fun d => by simp [Op.equalIn,Aa hd]) rfl rfl,.mk' (fun d => by simp [Op.equalIn,Aa hd]) rfl rfl,.mk' (fun d => by simp [Op.equalIn,Aa hd]) rfl rfl⟩
abbrev ge_ := @EqR.slice
theorem EqR.pointer (hd : P.underlying t = some d) (h : ∃ e,d = .pointer e) (ad : Addr) : EqR P w t (.pointer (some ad)) (.pointer none) false /\ EqR P w t (.pointer none) (.pointer (some ad)) false /\ EqR P w t (.pointer none) (.pointer none) true := by
 obtain ⟨e,rfl⟩ := h
 exact ⟨.mk' (fun d => by simp [Op.equalIn,Aa hd]) rfl rfl,.mk' (fun d => by simp [Op.equalIn,Aa hd]) rfl rfl,.mk' (fun d => by simp [Op.equalIn,Aa hd]) rfl rfl⟩
abbrev gh_ := @EqR.pointer
theorem EqR.map (hd : P.underlying t = some d) (h : ∃ k e,d = .map k e) (c : Nat) : EqR P w t (.map (some c)) (.map none) false /\ EqR P w t (.map none) (.map (some c)) false /\ EqR P w t (.map none) (.map none) true := by
 obtain ⟨k,e,rfl⟩ := h
 exact ⟨.mk' (fun d => by simp [Op.equalIn,Aa hd]) rfl rfl,.mk' (fun d => by simp [Op.equalIn,Aa hd]) rfl rfl,.mk' (fun d => by simp [Op.equalIn,Aa hd]) rfl rfl⟩
theorem EqR.func (hd : P.underlying t = some d) (h : ∃ a b c,d = .func a b c) (f : Fn) (p q : Array Value) : EqR P w t (.func f p q) .nilFunc false /\ EqR P w t .nilFunc (.func f p q) false /\ EqR P w t .nilFunc .nilFunc true := by
 obtain ⟨a,b,c,rfl⟩ := h
 exact ⟨.mk' (fun d => by simp [Op.equalIn,Aa hd]) rfl rfl,.mk' (fun d => by simp [Op.equalIn,Aa hd]) rfl rfl,.mk' (fun d => by simp [Op.equalIn,Aa hd]) rfl rfl⟩
theorem EqR.iface (hd : P.underlying t = some d) (h : ∃ m,d = .interface m) (u : TypeId) (v : Value) : EqR P w t (.iface u v) .nilIface false /\ EqR P w t .nilIface (.iface u v) false /\ EqR P w t .nilIface .nilIface true := by
 obtain ⟨m,rfl⟩ := h
 exact ⟨.mk' (fun d => by simp [Op.equalIn,Aa hd]) rfl rfl,.mk' (fun d => by simp [Op.equalIn,Aa hd]) rfl rfl,.mk' (fun d => by simp [Op.equalIn,Aa hd]) rfl rfl⟩
theorem EqR.bool (hd : P.underlying t = some .bool) (a b : Bool) : EqR P w t (.bool a) (.bool b) (a == b) :=
 .mk' (fun d => by simp [Op.equalIn,Aa hd]) rfl rfl
end
def Akb (X : Value) : Prop := ∀ l,X ≠ .agg l
theorem Tm {d : TypeDesc} {t : TypeId} (hd : P.underlying t = some d) {x y : AV} {X Y : Value} (hx : R C N w x X) (hy : R C N w y Y) (h : Rm d x y = true) :
  EqR P w t X Y false /\ EqR P w t Y X false /\ Akb X /\ Akb Y := by
 unfold Rm at h
 split at h
 ·unfold R at hy; obtain ⟨rfl,_⟩ := hy
  split at h
  ·unfold R at hx; obtain ⟨ad,k,rfl,_⟩ := hx
   have := ge_ (w := w) hd ⟨_,rfl⟩ ad; exact ⟨(this _ _).1,(this _ _).2.1,(fun _ h => by cases h),(fun _ h => by cases h)⟩
  ·unfold R at hx; obtain ⟨ado,k,rfl,hle,_,_,hn,_⟩ := hx
   obtain _ | ad := ado
   ·have := hn rfl; omega
   have := ge_ (w := w) hd ⟨_,rfl⟩ ad; exact ⟨(this _ _).1,(this _ _).2.1,(fun _ h => by cases h),(fun _ h => by cases h)⟩
  ·cases h
 ·unfold R at hy; obtain ⟨rfl,_⟩ := hy
  split at h
  ·unfold R at hx; obtain ⟨ad,rfl,_⟩ := hx
   have := gh_ (w := w) hd ⟨_,rfl⟩ ad; exact ⟨this.1,this.2.1,(fun _ h => by cases h),(fun _ h => by cases h)⟩
  ·unfold R at hx; obtain ⟨c,o,rfl,_⟩ := hx
   have := gh_ (w := w) hd ⟨_,rfl⟩ ⟨c,o,none⟩; exact ⟨this.1,this.2.1,(fun _ h => by cases h),(fun _ h => by cases h)⟩
  ·cases h
 ·unfold R at hy; obtain ⟨rfl,_⟩ := hy
  split at h
  ·unfold R at hx; obtain ⟨c,rfl,_⟩ := hx
   have := EqR.map (w := w) hd ⟨_,_,rfl⟩ c; exact ⟨this.1,this.2.1,(fun _ h => by cases h),(fun _ h => by cases h)⟩
  ·cases h
 ·unfold R at hy; obtain ⟨rfl,_⟩ := hy
  split at h
  ·unfold R at hx; obtain ⟨a,b,rfl,_⟩ := hx
   have := EqR.func (w := w) hd ⟨_,_,_,rfl⟩; exact ⟨(this _ _ _).1,(this _ _ _).2.1,(fun _ h => by cases h),(fun _ h => by cases h)⟩
  ·cases h
 ·unfold R at hy; obtain ⟨rfl,_⟩ := hy
  split at h
  ·unfold R at hx; obtain ⟨z,rfl,_⟩ := hx
   have := EqR.iface (w := w) hd ⟨_,rfl⟩; exact ⟨(this _ _).1,(this _ _).2.1,(fun _ h => by cases h),(fun _ h => by cases h)⟩
  ·cases h
 ·cases h
theorem Af3 {d : TypeDesc} {t : TypeId} (hd : P.underlying t = some d) {x y : AV} {X Y : Value} (hx : R C N w x X) (hy : R C N w y Y) {b : Bool} (h : Afx d x y = some b) :
  EqR P w t X Y b /\ Akb X /\ Akb Y := by
 unfold Afx at h;cases hb : S3 d x y
 ·simp only [hb,cond_false] at h;cases h1 : Rm d x y
  ·cases h2 : Rm d y x
   ·simp [h1,h2] at h
   ·simp [h2] at h; subst h; have := Tm hd hy hx h2; exact ⟨this.2.1,this.2.2.2,this.2.2.1⟩
  ·simp [h1] at h; subst h; have := Tm hd hx hy h1; exact ⟨this.1,this.2.2.1,this.2.2.2⟩
 ·simp only [hb,cond_true,ac_] at h;subst h;unfold S3 at hb
  split at hb
  ·unfold R at hx hy; obtain ⟨rfl,_⟩ := hx; obtain ⟨rfl,_⟩ := hy
   exact ⟨(ge_ (w := w) hd ⟨_,rfl⟩ ⟨0,0,none⟩ 0 0).2.2,(fun _ h => by cases h),(fun _ h => by cases h)⟩
  ·unfold R at hx hy; obtain ⟨rfl,_⟩ := hx; obtain ⟨rfl,_⟩ := hy
   exact ⟨(gh_ (w := w) hd ⟨_,rfl⟩ ⟨0,0,none⟩).2.2,(fun _ h => by cases h),(fun _ h => by cases h)⟩
  ·unfold R at hx hy; obtain ⟨rfl,_⟩ := hx; obtain ⟨rfl,_⟩ := hy
   exact ⟨(EqR.map (w := w) hd ⟨_,_,rfl⟩ 0).2.2,(fun _ h => by cases h),(fun _ h => by cases h)⟩
  ·unfold R at hx hy; obtain ⟨rfl,_⟩ := hx; obtain ⟨rfl,_⟩ := hy
   exact ⟨(EqR.func (w := w) hd ⟨_,_,_,rfl⟩ (.func 0) #[] #[]).2.2,(fun _ h => by cases h),(fun _ h => by cases h)⟩
  ·unfold R at hx hy; obtain ⟨rfl,_⟩ := hx; obtain ⟨rfl,_⟩ := hy
   exact ⟨(EqR.iface (w := w) hd ⟨_,rfl⟩ 0 .nilIface).2.2,(fun _ h => by cases h),(fun _ h => by cases h)⟩
  ·cases hb
theorem Vg {d : TypeDesc} {x : AV} {k : Key} {v : Value} (h : Ani d x = some k) (hr : R C N w x v) : KV k v /\ KS d v := by
 unfold Ani at h
 split at h
 ·rename_i j k' n
  cases hk : Es j k'
  ·simp [hk] at h
  ·simp only [hk,cond_true,ac_] at h;subst h;have := (Ka j k').1 hk;subst this;unfold R at hr; subst hr
   exact ⟨by unfold KV; rfl,n,rfl⟩
 ·rename_i l
  cases h;unfold R at hr;obtain ⟨s,rfl,h2⟩ := hr
  exact ⟨by unfold KV; exact ⟨s,rfl,h2⟩,s,rfl⟩
 ·rename_i b
  cases h;unfold R at hr; subst hr
  exact ⟨by unfold KV; rfl,b,rfl⟩
 ·cases h
theorem Yt : ∀ {fs : List Field} {cs : List AV} {ks : List Key} {vs : List Value},Yf P fs cs = some ks -> RL C N w cs vs -> KVs ks vs /\ KFs P fs vs
 | [],[],ks,vs,h,hr => by
  simp only [Yf,ac_] at h; subst h;cases vs with
  | nil => exact ⟨by unfold KVs; trivial,by unfold KFs; trivial⟩
  | cons => unfold RL at hr; exact hr.elim
 | f :: fs,c :: cs,ks,vs,h,hr => by
  cases vs with
  | nil => unfold RL at hr; exact hr.elim
  | cons v vs =>
   unfold RL at hr;simp only [Yf] at h
   split at h
   ·rename_i ti hti
    split at h
    ·rename_i k ks' hk hks
     cases hb : (f.name != "_" && Nat.beq ti.size 1)
     ·simp [hb] at h
     ·simp only [hb,cond_true,ac_] at h;subst h;simp only [ae_,bne_iff_ne,ne_eq] at hb;obtain ⟨i,d,h1,h2,h3,h4,_,_,_⟩ := Al hti;obtain ⟨q1,q2⟩ := Vg hk hr.1;obtain ⟨q3,q4⟩ := Yt hks hr.2
      have hs : i.size = 1 := by rw [← h4]; exact aa_ hb.2
      rw [h3] at q2
      exact ⟨by unfold KVs; exact ⟨q1,q3⟩,by unfold KFs; exact ⟨⟨i,d,h1,h2,hs,by cases d <;> first | rfl | exact q2.elim,q2,hb.1⟩,q4⟩⟩
    ·cases h
   ·cases h
 | [],_ :: _,_,_,h,_ => by simp [Yf] at h
 | _ :: _,[],_,_,h,_ => by simp [Yf] at h
theorem Yu {d : TypeDesc} : ∀ {cs : List AV} {ks : List Key} {vs : List Value},Afw d cs = some ks -> RL C N w cs vs -> KVs ks vs /\ ∀ x ∈ vs,KS d x
 | [],ks,vs,h,hr => by
  simp only [Afw,ac_] at h; subst h;cases vs with
  | nil => exact ⟨by unfold KVs; trivial,by simp⟩
  | cons => unfold RL at hr; exact hr.elim
 | c :: cs,ks,vs,h,hr => by
  cases vs with
  | nil => unfold RL at hr; exact hr.elim
  | cons v vs =>
   unfold RL at hr;simp only [Afw] at h
   split at h
   ·rename_i k ks' hk hks
    cases h;obtain ⟨q1,q2⟩ := Vg hk hr.1;obtain ⟨q3,q4⟩ := Yu hks hr.2
    refine ⟨by unfold KVs; exact ⟨q1,q3⟩,fun x hx => ?_⟩
    rcases ai_.1 hx with rfl | hx
    ·exact q2
    ·exact q4 x hx
   ·cases h
theorem Hc {kt : TypeId} {x : AV} {k : Key} {v : Value} (h : Hi P kt x = some k) (hr : R C N w x v) : KV k v /\ KT P kt v := by
 unfold Hi at h
 split at h
 ·rename_i ti hti
  obtain ⟨i,d,h1,h2,h3,h4,_,_,_⟩ := Al hti
  split at h
  ·rename_i fs hfs
   cases hb : (Iv fs.toList 0 && !P.stoodInHeld kt)
   ·simp [hb] at h
   ·simp only [hb] at h;unfold Anj at h
    split at h
    ·rename_i cs
     split at h
     ·rename_i l hl
      cases h;unfold R at hr;obtain ⟨a,rfl,q1,q2⟩ := hr;obtain ⟨g1,g2⟩ := Yt hl q1;simp only [ae_,bl_] at hb
      exact ⟨by unfold KV; exact ⟨a,rfl,g1⟩,.inr (.inl ⟨fs,a,by rw [h2,← h3,hfs],rfl,g2,hb.1,hb.2⟩)⟩
     ·cases h
    ·cases h
  ·rename_i n e hne
   split at h
   ·rename_i te hte
    obtain ⟨i',d',e1,e2,e3,e4,_,_,e5⟩ := Al hte;cases hb : (Nat.beq te.size 1 && !te.isAgg)
    ·simp [hb] at h
    ·simp only [hb] at h;simp only [ae_,bl_] at hb;unfold Ank at h
     split at h
     ·rename_i cs
      cases bn : (Nat.beq cs.length n && !Nat.beq n 0)
      ·simp [bn] at h
      ·simp only [bn] at h;simp only [ae_,bl_] at bn
       split at h
       ·rename_i l hl
        cases h;unfold R at hr;obtain ⟨a,rfl,q1,q2⟩ := hr;obtain ⟨g1,g2⟩ := Yu hl q1;rw [e3] at g2
        refine ⟨by unfold KV; exact ⟨a,rfl,g1⟩,.inr (.inr ⟨n,e,a,d',i',by rw [h2,← h3,hne],rfl,e1,by rw [← e4]; exact aa_ hb.1,e2,by rw [← e5]; exact hb.2,?_,?_,g2⟩)⟩
        ·have := q1.length; rw [← bv_,← this]; exact aa_ bn.1
        ·rintro rfl; cases bn.2
       ·cases h
     ·cases h
   ·cases h
  ·obtain ⟨g1,g2⟩ := Vg h hr;rw [h3] at g2;exact ⟨g1,.inl ⟨d,h2,g2⟩⟩
 ·cases h
theorem Vh {d : TypeDesc} {k k' : Key} {v v' : Value} (h : KV k v) (h' : KV k' v') (t : KS d v) (t' : KS d v') :
  (Key.eq k k' = true ↔ v = v') /\ ∀ (t : TypeId),P.underlying t = some d -> ∀ n,(Op.equalIn (n + 1) t v v').run P w = .ok (Key.eq k k') w := by
 unfold KS at t t'
 split at t
 ·obtain ⟨n,rfl⟩ := t;obtain ⟨m,rfl⟩ := t'
  cases k <;> unfold KV at h <;> first | (cases h; done) | (obtain ⟨_,hh,_⟩ := h; cases hh; done) | skip
  cases k' <;> unfold KV at h' <;> first | (cases h'; done) | (obtain ⟨_,hh,_⟩ := h'; cases hh; done) | skip
  cases h; cases h';have hk : ∀ j : IntKind,Es j j = true := fun j => (Ka j j).2 rfl
  refine ⟨by simp [Key.eq,hk,Ie],fun t ht n => ?_⟩
  rw [run_equalIn_int _ _ _ _ _ _ _ ht]; simp [Key.eq,hk,Ie]
 ·obtain ⟨n,rfl⟩ := t;obtain ⟨m,rfl⟩ := t'
  cases k <;> unfold KV at h <;> first | (cases h; done) | skip
  cases k' <;> unfold KV at h' <;> first | (cases h'; done) | skip
  ·obtain ⟨s,q1,q2⟩ := h;obtain ⟨s',q3,q4⟩ := h';cases q1; cases q3;subst q2; subst q4;refine ⟨?_,fun t ht n => ?_⟩
   ·simp only [Key.eq,Fp,Value.string.injEq]
    exact ⟨Wj,fun h => by rw [h]⟩
   ·rw [run_equalIn_string _ _ _ _ _ ht]; simp only [Key.eq,Kb]
  ·obtain ⟨_,hh,_⟩ := h'; cases hh
  ·obtain ⟨_,hh,_⟩ := h; cases hh
 ·obtain ⟨n,rfl⟩ := t;obtain ⟨m,rfl⟩ := t'
  cases k <;> unfold KV at h <;> first | (cases h; done) | (obtain ⟨_,hh,_⟩ := h; cases hh; done) | skip
  cases k' <;> unfold KV at h' <;> first | (cases h'; done) | (obtain ⟨_,hh,_⟩ := h'; cases hh; done) | skip
  cases h; cases h'
  refine ⟨by cases n <;> cases m <;> simp [Key.eq],fun t ht _ => ?_⟩
  rw [run_equalIn_bool' _ _ _ _ _ ht]; cases n <;> cases m <;> simp [Key.eq]
 ·exact t.elim
theorem Yv (n : Nat) (xs ys : Array Value) : ∀ (fs : List Field) (i : Nat) (ks ks' : List Key) (vs vs' : List Value),Iv fs i = true -> KFs P fs vs -> KFs P fs vs' -> KVs ks vs -> KVs ks' vs' ->
  (∀ j,j < vs.length -> xs[i + j]? = vs[j]?) -> (∀ j,j < vs'.length -> ys[i + j]? = vs'[j]?) ->
  (Key.eqs ks ks' = true ↔ vs = vs') /\ (Op.eqFields (n + 1) xs ys fs).run P w = .ok (Key.eqs ks ks') w
 | [],i,ks,ks',vs,vs',_,h1,h2,h3,h4,_,_ => by
  cases vs <;> unfold KFs at h1 <;> first | exact h1.elim | skip
  cases vs' <;> unfold KFs at h2 <;> first | exact h2.elim | skip
  cases ks <;> unfold KVs at h3 <;> first | exact h3.elim | skip
  cases ks' <;> unfold KVs at h4 <;> first | exact h4.elim | skip
  exact ⟨by simp [Key.eqs],by simp [Op.eqFields,Key.eqs]⟩
 | f :: fs,i,ks,ks',vs,vs',h0,h1,h2,h3,h4,h5,h6 => by
  cases vs with
  | nil => unfold KFs at h1; exact h1.elim
  | cons v vs =>
  cases vs' with
  | nil => unfold KFs at h2; exact h2.elim
  | cons v' vs' =>
  cases ks with
  | nil => unfold KVs at h3; exact h3.elim
  | cons k ks =>
  cases ks' with
  | nil => unfold KVs at h4; exact h4.elim
  | cons k' ks' =>
  unfold KFs at h1 h2;unfold KVs at h3 h4;obtain ⟨⟨inf,d,g1,g2,g3,g4,g5,g6⟩,h1⟩ := h1;obtain ⟨⟨inf',d',e1,e2,_,_,e5,_⟩,h2⟩ := h2;rw [g2] at e2; cases e2;simp only [Iv,ae_] at h0;have ho : f.offset = i := aa_ h0.1;obtain ⟨q1,q2⟩ := Vh (P := P) (w := w) h3.1 h4.1 g5 e5
  obtain ⟨q3,q4⟩ := Yv n xs ys fs (i + 1) ks ks' vs vs' h0.2 h1 h2 h3.2 h4.2 (fun j hj => by have := h5 (j + 1) (by simpa using hj); rw [show i + 1 + j = i + (j + 1) by omega]; simpa using this)
   (fun j hj => by have := h6 (j + 1) (by simpa using hj); rw [show i + 1 + j = i + (j + 1) by omega]; simpa using this)
  have hx : (part f.type xs f.offset).run P w = .ok v w := by
   have := h5 0 (by simp)
   unfold part;simp only [Sem.run_bind,Et g2,Result.andThen_ok,g4,bf_,if_false,ho]
   simp at this; simp [this]
  have hy : (part f.type ys f.offset).run P w = .ok v' w := by
   have := h6 0 (by simp)
   unfold part;simp only [Sem.run_bind,Et g2,Result.andThen_ok,g4,bf_,if_false,ho]
   simp at this; simp [this]
  constructor
  ·simp only [Key.eqs,de_];cases hk : Key.eq k k'
   ·simp only [cond_false,bf_,false_iff,not_and];intro hv; rw [← q1,hk] at hv; cases hv
   ·simp only [cond_true,q3];exact ⟨fun h => ⟨q1.1 hk,h⟩,fun h => h.2⟩
  ·simp only [Op.eqFields,if_pos g6,Sem.run_bind,hx,hy,Result.andThen_ok,q2 _ g2 n,Sem.run_ite,q4,Sem.run_pure,Key.eqs];cases Key.eq k k' <;> simp
theorem Ab5 (n : Nat) {e : TypeId} {d : TypeDesc} {inf : TypeInfo} (g1 : P.info? e = some inf) (g3 : inf.size = 1) (g2 : P.underlying e = some d) (g4 : Li d = false) (xs ys : Array Value) : ∀ (ks ks' : List Key) (vs vs' : List Value) (i : Nat),vs.length = vs'.length -> (∀ x ∈ vs,KS d x) -> (∀ x ∈ vs',KS d x) -> KVs ks vs -> KVs ks' vs' ->
  (∀ j,j < vs.length -> xs[i + j]? = vs[j]?) -> (∀ j,j < vs'.length -> ys[i + j]? = vs'[j]?) ->
  (Key.eqs ks ks' = true ↔ vs = vs') /\ (Op.eqItems (n + 1) e (P.cellsOf e) xs ys (List.range' i vs.length)).run P w = .ok (Key.eqs ks ks') w
 | ks,ks',[],[],i,_,_,_,h3,h4,_,_ => by
  cases ks <;> unfold KVs at h3 <;> first | exact h3.elim | skip
  cases ks' <;> unfold KVs at h4 <;> first | exact h4.elim | skip
  exact ⟨by simp [Key.eqs],by simp [Op.eqItems,Key.eqs]⟩
 | _,_,[],_ :: _,_,hl,_,_,_,_,_,_ => by cases hl
 | _,_,_ :: _,[],_,hl,_,_,_,_,_,_ => by cases hl
 | ks,ks',v :: vs,v' :: vs',i,hl,h1,h2,h3,h4,h5,h6 => by
  cases ks with
  | nil => unfold KVs at h3; exact h3.elim
  | cons k ks =>
  cases ks' with
  | nil => unfold KVs at h4; exact h4.elim
  | cons k' ks' =>
  unfold KVs at h3 h4
  have hc : P.cellsOf e = 1 := by simp [Program.cellsOf,g1,g3]
  obtain ⟨q1,q2⟩ := Vh (P := P) (w := w) h3.1 h4.1 (h1 v (by simp)) (h2 v' (by simp))
  obtain ⟨q3,q4⟩ := Ab5 n g1 g3 g2 g4 xs ys ks ks' vs vs' (i + 1) (by simpa using hl) (fun x hx => h1 x (by simp [hx])) (fun x hx => h2 x (by simp [hx])) h3.2 h4.2 (fun j hj => by have := h5 (j + 1) (by simpa using hj); rw [show i + 1 + j = i + (j + 1) by omega]; simpa using this)
   (fun j hj => by have := h6 (j + 1) (by simpa using hj); rw [show i + 1 + j = i + (j + 1) by omega]; simpa using this)
  have hx : (part e xs (i * P.cellsOf e)).run P w = .ok v w := by
   have := h5 0 (by simp)
   unfold part;simp only [Sem.run_bind,Et g2,Result.andThen_ok,g4,bf_,if_false,hc,ex_]
   simp at this; simp [this]
  have hy : (part e ys (i * P.cellsOf e)).run P w = .ok v' w := by
   have := h6 0 (by simp)
   unfold part;simp only [Sem.run_bind,Et g2,Result.andThen_ok,g4,bf_,if_false,hc,ex_]
   simp at this; simp [this]
  constructor
  ·simp only [Key.eqs,de_];cases hk : Key.eq k k'
   ·simp only [cond_false,bf_,false_iff,not_and];intro hv; rw [← q1,hk] at hv; cases hv
   ·simp only [cond_true,q3];exact ⟨fun h => ⟨q1.1 hk,h⟩,fun h => h.2⟩
  ·simp only [ap_,cl_,Op.eqItems,Sem.run_bind,hx,hy,Result.andThen_ok,q2 _ g2 n,Sem.run_ite,q4,Sem.run_pure,Key.eqs];cases Key.eq k k' <;> simp [q4]
theorem Akc {kt : TypeId} {k k' : Key} {v v' : Value} (h : KV k v) (h' : KV k' v') (t : KT P kt v) (t' : KT P kt v') :
  (Key.eq k k' = true ↔ v = v') /\ ∀ n,(Op.equalIn (n + 2) kt v v').run P w = .ok (Key.eq k k') w := by
 rcases t with ⟨d,ht,t⟩ | ⟨fs,a,ht,rfl,t1,t2,t3⟩ | ⟨len,e,a,d,inf,ht,rfl,g1,g3,g2,g4,t1,t0,t2⟩
 ·rcases t' with ⟨d',ht',t'⟩ | ⟨fs,a,ht',rfl,_,_,_⟩ | ⟨_,_,_,_,_,ht',rfl,_⟩
  ·rw [ht] at ht'; cases ht';obtain ⟨q1,q2⟩ := Vh (P := P) (w := w) h h' t t';exact ⟨q1,fun n => q2 kt ht (n + 1)⟩
  ·rw [ht] at ht'; cases ht'; exact t.elim
  ·rw [ht] at ht'; cases ht'; exact t.elim
 case inr.inr =>
  rcases t' with ⟨d',ht',t'⟩ | ⟨fs,a,ht',rfl,_,_,_⟩ | ⟨len',e',a',d',inf',ht',rfl,g1',_,g2',_,t1',_,t2'⟩
  ·rw [ht] at ht'; cases ht'; exact t'.elim
  ·rw [ht] at ht'; cases ht'
  ·rw [ht] at ht'; cases ht';rw [g2] at g2'; cases g2'
   cases k <;> unfold KV at h <;> first | (cases h; done) | (obtain ⟨_,hh,_⟩ := h; cases hh; done) | skip
   cases k' <;> unfold KV at h' <;> first | (cases h'; done) | (obtain ⟨_,hh,_⟩ := h'; cases hh; done) | skip
   obtain ⟨_,hh,h⟩ := h; cases hh;obtain ⟨_,hh,h'⟩ := h'; cases hh
   have key := fun n => Ab5 (P := P) (w := w) n g1 g3 g2 g4 a a' _ _ a.toList a'.toList 0 (by simp [t1,t1']) t2 t2' h h' (fun j _ => by simp) (fun j _ => by simp)
   constructor
   ·simp only [Key.eq];rw [(key 0).1]
    constructor
    ·intro hl; rw [Array.toList_inj.1 hl]
    ·intro hl; cases hl; rfl
   ·intro n;have := (key n).2;rw [run_equalIn_array w (n + 1) a a' ht g1,dn_,← t1,← bv_,this];simp only [Key.eq]
 ·rcases t' with ⟨d',ht',t'⟩ | ⟨fs',a',ht',rfl,t4,_,_⟩ | ⟨_,_,_,_,_,ht',rfl,_⟩
  ·rw [ht] at ht'; cases ht'; exact t'.elim
  case inr.inr => rw [ht] at ht'; cases ht'
  ·rw [ht] at ht'; cases ht'
   cases k <;> unfold KV at h <;> first | (cases h; done) | (obtain ⟨_,hh,_⟩ := h; cases hh; done) | skip
   cases k' <;> unfold KV at h' <;> first | (cases h'; done) | (obtain ⟨_,hh,_⟩ := h'; cases hh; done) | skip
   obtain ⟨_,hh,h⟩ := h; cases hh;obtain ⟨_,hh,h'⟩ := h'; cases hh
   have hf : P.fieldsOf kt = fs := by unfold Program.fieldsOf; rw [ht]
   have key := fun n => Yv (P := P) (w := w) n a a' fs.toList 0 _ _ a.toList a'.toList t2 t1 t4 h h' (fun j _ => by simp) (fun j _ => by simp)
   constructor
   ·simp only [Key.eq];rw [(key 0).1]
    constructor
    ·intro hl; rw [Array.toList_inj.1 hl]
    ·intro hl; cases hl; rfl
   ·intro n
    rw [run_equalIn_struct w (n + 1) kt a a' (by rw [hf]; exact ht) t3,hf,(key n).2]
    simp only [Key.eq]
theorem Je (e : Bool) (n : Nat) (a : Array Value) : ∀ (fs : List Field) (i : Nat) (vs : List Value),Iv fs i = true -> KFs P fs vs -> (∀ j,j < vs.length -> a[i + j]? = vs[j]?) ->
  (forIn fs PUnit.unit fun f _ => if f.name ≠ "_" then do
    let x ← part f.type a f.offset
    Instr.checkKey e (n + 1) f.type x
    pure (ForInStep.yield PUnit.unit)
   else pure (ForInStep.yield PUnit.unit) : Sem PUnit).run P w = .ok PUnit.unit w
 | [],_,_,_,_,_ => by simp
 | f :: fs,i,vs,h0,h1,h2 => by
  cases vs with
  | nil => unfold KFs at h1; exact h1.elim
  | cons v vs =>
  unfold KFs at h1;obtain ⟨⟨inf,d,g1,g2,g3,g4,g5,g6⟩,h1⟩ := h1;simp only [Iv,ae_] at h0;have ho : f.offset = i := aa_ h0.1
  have hx : (part f.type a f.offset).run P w = .ok v w := by
   have := h2 0 (by simp)
   unfold part;simp only [Sem.run_bind,Et g2,Result.andThen_ok,g4,bf_,if_false,ho]
   simp at this; simp [this]
  have hc : (Instr.checkKey e (n + 1) f.type v).run P w = .ok () w := by
   unfold Instr.checkKey;simp only [Sem.run_bind,Aa g2,Result.andThen_ok];unfold KS at g5
   split at g5
   ·obtain ⟨_,rfl⟩ := g5; rfl
   ·obtain ⟨_,rfl⟩ := g5; rfl
   ·obtain ⟨_,rfl⟩ := g5; rfl
   ·exact g5.elim
  have := Je e n a fs (i + 1) vs h0.2 h1 (fun j hj => by have := h2 (j + 1) (by simpa using hj); rw [show i + 1 + j = i + (j + 1) by omega]; simpa using this)
  simp only [List.forIn_cons,Sem.run_bind,if_pos g6,hx,Result.andThen_ok,hc,Sem.run_pure];exact this
theorem Kc (e : Bool) (n : Nat) {el : TypeId} {d : TypeDesc} {inf : TypeInfo} (g1 : P.info? el = some inf) (g3 : inf.size = 1) (g2 : P.underlying el = some d) (g4 : Li d = false) (a : Array Value) : ∀ (vs : List Value) (i : Nat),(∀ x ∈ vs,KS d x) -> (∀ j,j < vs.length -> a[i + j]? = vs[j]?) ->
  (forIn (List.range' i vs.length) PUnit.unit fun i _ => do
    let s ← sizeOf el
    let x ← part el a (i * s)
    Instr.checkKey e (n + 1) el x
    pure (ForInStep.yield PUnit.unit) : Sem PUnit).run P w = .ok PUnit.unit w
 | [],_,_,_ => by simp
 | v :: vs,i,h1,h2 => by
  have g5 := h1 v (by simp)
  have hx : (part el a i).run P w = .ok v w := by
   have := h2 0 (by simp)
   unfold part;simp only [Sem.run_bind,Et g2,Result.andThen_ok,g4,bf_,if_false]
   simp at this; simp [this]
  have hc : (Instr.checkKey e (n + 1) el v).run P w = .ok () w := by
   unfold Instr.checkKey;simp only [Sem.run_bind,Aa g2,Result.andThen_ok];unfold KS at g5
   split at g5
   ·obtain ⟨_,rfl⟩ := g5; rfl
   ·obtain ⟨_,rfl⟩ := g5; rfl
   ·obtain ⟨_,rfl⟩ := g5; rfl
   ·exact g5.elim
  have hs : (sizeOf el).run P w = .ok 1 w := by rw [run_sizeOf w g1]; simp [Program.cellsOf,g1,g3]
  have := Kc e n g1 g3 g2 g4 a vs (i + 1) (fun x hx => h1 x (by simp [hx])) (fun j hj => by have := h2 (j + 1) (by simpa using hj); rw [show i + 1 + j = i + (j + 1) by omega]; simpa using this)
  simp only [ap_,cl_,List.forIn_cons,Sem.run_bind,hs,ex_,hx,Result.andThen_ok,hc,Sem.run_pure];exact this
theorem Cj {kt : TypeId} {v : Value} (t : KT P kt v) (e : Bool) (n : Nat) : (Instr.checkKey e (n + 2) kt v).run P w = .ok () w := by
 rcases t with ⟨d,ht,t⟩ | ⟨fs,a,ht,rfl,t1,t2,t3⟩ | ⟨len,el,a,d,inf,ht,rfl,g1,g3,g2,g4,t1,t0,t2⟩
 case inr.inr =>
  unfold Instr.checkKey;simp only [Sem.run_bind,Aa ht,Result.andThen_ok]
  have := Kc (w := w) e n g1 g3 g2 g4 a a.toList 0 t2 (fun j _ => by simp)
  simp only [Std.Legacy.Range.forIn_eq_forIn_range',Std.Legacy.Range.size,fa_,Nat.add_one_sub_one,Nat.div_one];rw [bv_,t1] at this;rw [this]
  rfl
 ·unfold Instr.checkKey;simp only [Sem.run_bind,Aa ht,Result.andThen_ok];unfold KS at t
  split at t
  ·obtain ⟨_,rfl⟩ := t; rfl
  ·obtain ⟨_,rfl⟩ := t; rfl
  ·obtain ⟨_,rfl⟩ := t; rfl
  ·exact t.elim
 ·unfold Instr.checkKey;simp only [Sem.run_bind,Aa ht,Result.andThen_ok];rw [← Array.forIn_toList]
  have := Je (w := w) e n a fs.toList 0 a.toList t2 t1 (fun j _ => by simp)
  rw [this]
  rfl
end
section
variable {P : Program} {C : Ctx} {N : Nat} {w : World}
theorem Yw {t : TypeId} {x y : AV} {X Y : Value} (hx : R C N w x X) (hy : R C N w y Y) {b : Bool} (h : S4 P t x y = some b) :
  ∃ l m,X = .agg l /\ Y = .agg m /\ EqR P w t X Y b /\ KT P t X := by
 unfold S4 at h
 split at h
 ·rename_i cs ds
  split at h
  ·rename_i k k' hk hk'
   cases h;obtain ⟨v1,t1⟩ := Hc hk hx;obtain ⟨v2,t2⟩ := Hc hk' hy;unfold R at hx hy;obtain ⟨l,rfl,_⟩ := hx;obtain ⟨m,rfl,_⟩ := hy;have := (Akc (P := P) (w := w) v1 v2 t1 t2).2;refine ⟨l,m,rfl,rfl,⟨?_,?_⟩,t1⟩
   ·rw [run_eql_struct,this 9998]; rfl
   ·rw [run_neq_struct,this 9998]; rfl
  ·cases h
 ·cases h
theorem Tn {t : TypeId} {l : Array Value} (h : KT P t (.agg l)) : P.eqGuardType P.depth t = false := by
 rcases h with ⟨d,ht,h⟩ | ⟨fs,a,ht,_,h1,h2,h3⟩ | ⟨n,e,a,d,inf,ht,hh,g1,g3,g2,g4,t1,t0,t2⟩
 ·unfold KS at h; split at h <;> first | (obtain ⟨_,h⟩ := h; cases h) | exact h.elim
 case inr.inr =>
  have hd : P.depth = (2 * (P.types.size + Made.depth)) + 1 + 1 := by unfold Program.depth; omega
  rw [hd]
  generalize 2 * (P.types.size + Made.depth) = m
  unfold Program.eqGuardType;rw [ht];simp only;unfold Program.eqGuardType;rw [g2]
  obtain ⟨x,hx⟩ : ∃ x,x ∈ a.toList := by
   cases hl : a.toList with
   | nil => exact absurd (by rw [← t1,← bv_,hl]; rfl) t0
   | cons x _ => exact ⟨x,by simp⟩
  have := t2 x hx;unfold KS at this
  split at this <;> first | rfl | exact this.elim
 ·have hd : P.depth = (2 * (P.types.size + Made.depth)) + 1 + 1 := by unfold Program.depth; omega
  rw [hd]
  generalize 2 * (P.types.size + Made.depth) = n
  unfold Program.eqGuardType;rw [ht];simp only [← Array.any_toList]
  have key : ∀ (fs : List Field) (vs : List Value), KFs P fs vs -> (fs.any fun f => f.name != "_" && P.eqGuardType (n + 1) f.type) = false := by
   intro fs
   induction fs with
   | nil => intro vs _; rfl
   | cons f fs ih =>
    intro vs hk;cases vs with
    | nil => unfold KFs at hk; exact hk.elim
    | cons v vs =>
     unfold KFs at hk;obtain ⟨⟨i,d,g1,g2,g3,g4,g5,g6⟩,hk⟩ := hk;simp only [List.any_cons,ih vs hk,fc_]
     have : P.eqGuardType (n + 1) f.type = false := by
      unfold Program.eqGuardType;rw [g2];unfold KS at g5
      split at g5 <;> first | rfl | exact g5.elim
     simp [this]
  exact key _ _ h1
theorem Ix (o : Option Ordering) (x : Ordering) : S5 o x = (o == some x) := by
 cases o with
 | none => cases x <;> rfl
 | some y => cases y <;> cases x <;> rfl
theorem K5 {k : FloatKind} {r : Option Nat} {v : AV} (h : Rn k r = some v) : ∃ n,r = some n /\ v = .flt k n := by
 cases r with
 | none => simp [Rn] at h
 | some n => simp only [Rn,Ag,ac_] at h; exact ⟨n,rfl,h.symm⟩
theorem Af4 {op : BinOp} {k : FloatKind} {a b : Nat} {v : AV} (h : Anl op k a b = some v) (t : TypeId) :
  ∃ x,(binOp op t (.float k a) (.float k b)).run P w = .ok x w /\ R C N w v x := by
 cases op <;> simp only [Anl] at h
 case add => obtain ⟨n,h1,rfl⟩ := K5 h; exact ⟨.float k n,by simp [binOp,Op.floatArith,Sem.run_bind,h1],by unfold R; rfl⟩
 case sub => obtain ⟨n,h1,rfl⟩ := K5 h; exact ⟨.float k n,by simp [binOp,Op.floatArith,Sem.run_bind,h1],by unfold R; rfl⟩
 case mul => obtain ⟨n,h1,rfl⟩ := K5 h; exact ⟨.float k n,by simp [binOp,Op.floatArith,Sem.run_bind,h1],by unfold R; rfl⟩
 case quo => obtain ⟨n,h1,rfl⟩ := K5 h; exact ⟨.float k n,by simp [binOp,Op.floatArith,Sem.run_bind,h1],by unfold R; rfl⟩
 case eql => cases h; exact ⟨_,by simp [binOp,Op.floatCmp]; rfl,by unfold R; rw [Ix]⟩
 case neq => cases h; exact ⟨.bool (!(k.format.order a b == some .eq)),by simp [binOp,Op.floatCmp,bne],by unfold R; rw [Ix]⟩
 case lss => cases h; exact ⟨_,by simp [binOp,Op.floatCmp]; rfl,by unfold R; rw [Ix]⟩
 case leq => cases h; exact ⟨.bool (k.format.order a b == some .lt || k.format.order a b == some .eq),by simp [binOp,Op.floatCmp],by unfold R; rw [Ix,Ix]⟩
 case gtr => cases h; exact ⟨_,by simp [binOp,Op.floatCmp]; rfl,by unfold R; rw [Ix]⟩
 case geq => cases h; exact ⟨.bool (k.format.order a b == some .gt || k.format.order a b == some .eq),by simp [binOp,Op.floatCmp],by unfold R; rw [Ix,Ix]⟩
 all_goals (cases h)
theorem Ais {op : BinOp} {t : TypeId} {xo yo : Operand} {x y : AV} {X Y : Value} (hx : R C N w x X) (hy : R C N w y Y) {v : AV}
  (h : Yg P op t (Ck xo || Ck yo) x y = some v) : Cp P C N w (do eqGuard op t xo yo X Y; binOp op t X Y) v := by
 have fin : ∀ {v : AV},(eqGuard op t xo yo X Y).run P w = .ok () w -> Cp P C N w (binOp op t X Y) v -> Cp P C N w (do eqGuard op t xo yo X Y; binOp op t X Y) v := by
  intro v h1 ⟨z,h2,h3⟩
  exact ⟨z,by simp only [Sem.run_bind,h1,Result.andThen_ok,h2],h3⟩
 unfold Yg at h
 split at h
 ·rename_i ti hti
  obtain ⟨i,d,_,hd,hdd,_⟩ := Al hti
  split at h
  ·rename_i k a k' b
   unfold R at hx hy; subst hx; subst hy;cases hk : Es k k'
   ·simp [hk] at h
   ·simp only [hk,cond_true] at h;have := (Ka k k').1 hk;subst this
    exact fin (Ea (fun _ _ hh => by cases hh.1) (fun hh => by cases hh.1)) (Af1 h t)
  ·unfold R at hx hy;obtain ⟨s,rfl,rfl⟩ := hx;obtain ⟨u,rfl,rfl⟩ := hy
   exact fin (Ea (fun _ _ hh => by cases hh.1) (fun hh => by cases hh.1)) (Af2 h t)
  ·rename_i k a k' b
   unfold R at hx hy; subst hx; subst hy
   split at h
   ·rename_i hk
    have := of_decide_eq_true hk;subst this
    exact fin (Ea (fun _ _ hh => by cases hh.1) (fun hh => by cases hh.1)) (Af4 h t)
   ·cases h
  ·rename_i a b
   unfold R at hx hy; subst hx; subst hy
   split at h
   ·rename_i hb
    cases h
    have := EqR.bool (w := w) (hd.trans (by rw [← hdd,hb])) a b
    exact fin (Ea (fun _ _ hh => by cases hh.1) (fun hh => by cases hh.1)) ⟨_,this.eql,by unfold R; cases a <;> cases b <;> rfl⟩
   ·rename_i hb
    cases h
    have := EqR.bool (w := w) (hd.trans (by rw [← hdd,hb])) a b
    exact fin (Ea (fun _ _ hh => by cases hh.1) (fun hh => by cases hh.1)) ⟨_,this.neq,by unfold R; cases a <;> cases b <;> rfl⟩
   ·cases h
  ·have other : ∀ b,Jk P ti t (Ck xo || Ck yo) x y = some b -> EqR P w t X Y b /\ (eqGuard op t xo yo X Y).run P w = .ok () w := by
    intro b hb;unfold Jk at hb
    split at hb
    ·rename_i b' hb'
     cases hb
     cases hc : (Ck xo || Ck yo)
     ·simp [hc] at hb'
     ·simp only [hc,cond_true] at hb'
      obtain ⟨h1,h2,h3⟩ := Af3 (by rw [hdd]; exact hd) hx hy hb'
      refine ⟨h1,?_⟩
      by_cases hn : X = .nilIface /\ Y = .nilIface
      ·obtain ⟨rfl,rfl⟩ := hn; exact Abh hc
      ·exact Ea (fun l m hh => h2 l hh.1) hn
    ·obtain ⟨l,m,rfl,rfl,h1,h2⟩ := Yw hx hy hb;exact ⟨h1,run_eqGuard_agg w op t xo yo l m (Tn h2)⟩
   split at h
   ·split at h
    ·rename_i b hb
     cases h;obtain ⟨h1,h2⟩ := other b hb
     exact fin h2 ⟨_,h1.eql,by unfold R; rfl⟩
    ·cases h
   ·split at h
    ·rename_i b hb
     cases h;obtain ⟨h1,h2⟩ := other b hb
     exact fin h2 ⟨_,h1.neq,by unfold R; rfl⟩
    ·cases h
   ·cases h
 ·cases h
theorem Al3 {op : UnOp} {x : AV} {X : Value} (hx : R C N w x X) {v : AV} (h : unA op x = some v) : Cp P C N w (Op.unary op X) v := by
 unfold unA at h
 split at h
 ·cases h; unfold R at hx; subst hx; exact ⟨_,rfl,by unfold R; rfl⟩
 ·cases h; unfold R at hx; subst hx
  refine ⟨_,by simp [Op.unary,Op.intArith]; rfl,?_⟩
  rw [L5,Vf,Int.zero_sub]; unfold R; rfl
 ·cases h
theorem Rq {x : AV} {n : Nat} {X : Value} (h : Lj x = some n) (hx : R C N w x X) : ∃ k,X = .int k (n : Int) := by
 unfold Lj at h
 split at h
 ·cases h; unfold R at hx; exact ⟨_,hx⟩
 ·cases h
theorem O4 {t : TypeId} {ti : TI} (hti : Aw P t = some ti) {l : List AV} {c o : Nat} (hc : RC C N w c l o) {v : AV} (h : Eh ti l = some v) :
  Cp P C N w (loadVar t ⟨c,o,none⟩) v := by
 obtain ⟨i,d,h1,h2,h3,h4,_,_,h5⟩ := Al hti;unfold Eh at h;unfold loadVar Cp;simp only [Sem.run_bind,Et h2,Result.andThen_ok];rw [← h5];cases ha : ti.isAgg
 ·simp only [ha] at h;simp only [bf_,if_false]
  split at h
  ·cases h;unfold RC at hc;obtain ⟨⟨x,q1,q2,q3⟩,_⟩ := hc
   exact ⟨x,by simp [q1],q3⟩
  ·cases h
 ·simp only [ha] at h
  split at h
  ·rename_i cs hcs
   cases h;obtain ⟨a,q1,q2,q3⟩ := Abf (P := P) (hc.take _ hcs);have hl := (Gt hcs).2
   refine ⟨.agg a,?_,by unfold R; exact ⟨a,rfl,q2,q3⟩⟩
   simp only [if_true,Sem.run_bind,Ax h1,Result.andThen_ok];rw [← h4,← hl,q1]
   simp
  ·cases h
theorem O5 {J J' : Sto} (hs : Sim P C w J) {t : TypeId} {ti : TI} (hti : Aw P t = some ti) {x : AV} {X : Value} (hx : R C (nx J) w x X) {v : AV} (h : Lx ti x J = some (v,J')) :
  J' = J /\ Cp P C (nx J) w (Instr.loadAt t X) v := by
 unfold Lx at h
 split at h
 ·rename_i a off
  split at h
  ·rename_i vs hvs
   split at h
   ·rename_i u hu
    cases h;refine ⟨rfl,?_⟩;unfold R at hx;obtain ⟨ad,rfl,_,hl⟩ := hx;unfold Sto.cells at hvs
    split at hvs
    ·rename_i vs' hg
     cases hvs;obtain ⟨c,o,cs,T,k1,k2,k3⟩ := hs.obj a _ hg;rw [hl c o k1];exact O4 hti (k3.drop off) hu
    ·cases hvs
   ·cases h
  ·cases h
 ·split at h
  ·rename_i u hu
   cases h;refine ⟨rfl,?_⟩;unfold R at hx;obtain ⟨c,o,rfl,_,k3⟩ := hx;exact O4 hti k3 hu
  ·cases h
 ·cases h
theorem To {x : AV} {X : Value} (hx : R C N w x X) {n : Nat} {v : AV} (h : Ro x n = some v) : ∃ ad,X = .pointer (some ad) /\ R C N w v (.pointer (some (ad.add n))) := by
 unfold Ro at h
 split at h
 ·rw [Ag] at h;cases h;unfold R at hx;obtain ⟨ad,rfl,h1,h2⟩ := hx;refine ⟨ad,rfl,?_⟩;unfold R
  exact ⟨ad.add n,rfl,h1,fun c o hc => by rw [h2 c o hc,Fi,gi_]⟩
 ·cases h;unfold R at hx;obtain ⟨c,o,rfl,h1,h2⟩ := hx;refine ⟨⟨c,o,none⟩,rfl,?_⟩;rw [Fi];unfold R;refine ⟨c,o + n,rfl,fun hne => h1 ?_,h2.drop n⟩
  intro h; apply hne; rw [h]; simp
 ·cases h
theorem Abi {t : TypeId} {ti : TI} (hti : Aw P t = some ti) {fs : Array Field} (hfs : ti.desc = .struct fs) {i : Nat} {f : Field} (hf : fs.toList[i]? = some f) {tf : TI} (htf : Aw P f.type = some tf)
  (hsz : tf.size ≠ 0) {x : AV} {X : Value} (hx : R C N w x X) {v : AV} (h : Ro x f.offset = some v) : Cp P C N w (Instr.fieldAt t X i) v := by
 obtain ⟨_,d,_,h2,h3,_⟩ := Al hti;obtain ⟨fi,_,g1,_,_,g4,_⟩ := Al htf;obtain ⟨ad,rfl,hr⟩ := To hx h;refine ⟨.pointer (some (ad.add f.offset)),?_,hr⟩;unfold Instr.fieldAt
 have hf' : fs[i]? = some f := by simpa using hf
 simp only [Sem.run_bind,Aa (h2.trans (by rw [← h3,hfs])),Result.andThen_ok,hf',Instr.sureAddr,Sem.run_pure,fieldPlace,Ax g1,Sem.run_ite]
 rw [if_neg (by rw [← g4]; exact hsz)]
 simp
theorem Af5 {t : TypeId} {ti : TI} (hti : Aw P t = some ti) {fs : Array Field} (hfs : ti.desc = .struct fs) {i : Nat} {f : Field} (hf : fs.toList[i]? = some f) {tf : TI} (htf : Aw P f.type = some tf)
  {cs : List AV} {X : Value} (hx : R C N w (.agg cs) X) {v : AV} (h : Eh tf (cs.drop f.offset) = some v) : Cp P C N w (Instr.field t X i) v := by
 obtain ⟨_,d,_,h2,h3,_⟩ := Al hti
 have hf' : fs[i]? = some f := by simpa using hf
 unfold R at hx;obtain ⟨a,rfl,q1,q2⟩ := hx;unfold Instr.field
 have hp : Cp P C N w (part f.type a f.offset) v := by
  obtain ⟨fi,fd,g1,g2,g3,g4,_,_,g5⟩ := Al htf;unfold Eh at h;unfold part Cp;simp only [Sem.run_bind,Et g2,Result.andThen_ok];rw [← g5];have hd := q1.drop f.offset;cases ha : tf.isAgg
  ·simp only [ha] at h;simp only [bf_,if_false]
   split at h
   ·rename_i u r he
    cases h
    have : (cs.drop f.offset)[0]? = some v := by rw [he]; rfl
    obtain ⟨x,k1,k2⟩ := hd.get 0 v this
    have : a[f.offset]? = some x := by simpa using k1
    exact ⟨x,by simp [this],k2⟩
   ·cases h
  ·simp only [ha] at h
   split at h
   ·rename_i l hl
    cases h
    refine ⟨.agg (a.extract f.offset (f.offset + fi.size)),by simp [Ax g1],?_⟩
    obtain ⟨t1,t2⟩ := Gt hl;unfold R;refine ⟨_,rfl,?_,?_⟩
    ·have e : (a.extract f.offset (f.offset + fi.size)).toList = (a.toList.drop f.offset).take tf.size := by
      rw [g4]; simp [fn_]
     rw [e,t1]
     have key : ∀ (n : Nat) (l : List AV) (vs : List Value),RL C N w l vs -> RL C N w (l.take n) (vs.take n) := by
      intro n
      induction n with
      | zero => intro l vs _; simp only [List.take_zero]; unfold RL; trivial
      | succ n ih => intro l vs hl; cases l <;> cases vs <;> unfold RL at hl <;> first | exact hl.elim | (simp only [List.take_nil]; unfold RL; trivial) | (simp only [ft_]; unfold RL; exact ⟨hl.1,ih _ _ hl.2⟩)
     exact key _ _ _ hd
    ·intro y hy;refine q2 y ?_
     simp at hy
     have hm : y ∈ (a.toList.drop f.offset).take fi.size := by simpa [fn_] using hy
     exact es_ (ct_ hm)
   ·cases h
 obtain ⟨x,k1,k2⟩ := hp
 exact ⟨x,by simp only [Sem.run_bind,Aa (h2.trans (by rw [← h3,hfs])),Result.andThen_ok,hf',asAgg,Sem.run_pure,k1],k2⟩
theorem Vi {J J' : Sto} {t e : TypeId} {ti te : TI} (hti : Aw P t = some ti) (hd : ti.desc = .slice e) (hte : Aw P e = some te) {x i : AV} {X I : Value} (hx : R C N w x X) (hi : R C N w i I) {v : AV}
  (h : Ha te.size x i J = some (v,J')) : J' = J /\ Cp P C N w (Instr.indexAt t X I) v := by
 obtain ⟨_,d,_,h2,h3,_⟩ := Al hti;obtain ⟨ei,_,g1,_,_,g4,_⟩ := Al hte
 have hu := h2.trans (by rw [← h3,hd])
 unfold Ha at h
 split at h
 ·rename_i k n
  unfold R at hi; subst hi
  split at h
  ·rename_i a off sz len cap
   cases hb : Nat.blt n len
   ·simp [hb] at h
   ·simp only [hb,cond_true,Ag,ac_,ax_] at h;obtain ⟨rfl,rfl⟩ := h;have hlt : n < len := ak_ hb;refine ⟨rfl,?_⟩;unfold R at hx;obtain ⟨ad,kk,rfl,q1,q2,q3,q4⟩ := hx;refine ⟨.pointer (some (ad.add (n * ei.size))),?_,?_⟩
    ·unfold Instr.indexAt;simp only [asIntOf,Sem.run_bind,Sem.run_pure,Result.andThen_ok,Aa hu]
     rw [if_pos ⟨by simp,by simpa using hlt⟩]
     simp [Ax g1]
    ·unfold R;refine ⟨_,rfl,q1,fun c o hc => ?_⟩
     rw [(q4 c o hc).1 Om,Fi,g4]; congr 1; omega
  ·rename_i cs sz len cap
   cases hb : Nat.blt n len
   ·simp [hb] at h
   ·simp only [hb,cond_true,ac_,ax_] at h;obtain ⟨rfl,rfl⟩ := h;have hlt : n < len := ak_ hb;refine ⟨rfl,?_⟩;unfold R at hx;obtain ⟨ado,kk,rfl,q2,q3,q4,q0,q567⟩ := hx
    obtain _ | ad := ado
    ·have := q0 rfl; omega
    obtain ⟨q5,q6,q7⟩ := q567 ad rfl;have hsp := q5 Om;obtain ⟨b,o,sp⟩ := ad;simp only at hsp; subst hsp;refine ⟨.pointer (some ⟨b,o + n * ei.size,none⟩),?_,?_⟩
    ·unfold Instr.indexAt;simp only [asIntOf,Sem.run_bind,Sem.run_pure,Result.andThen_ok,Aa hu]
     rw [if_pos ⟨by simp,by simpa using hlt⟩]
     simp [Ax g1,Fi]
    ·unfold R;rw [g4]
     exact ⟨b,_,rfl,fun hne => q6 (fun hh => hne (by rw [hh]; simp)),q7.drop _⟩
  ·cases h
 ·cases h
theorem Q8 {J J' : Sto} {t e : TypeId} {len : Nat} {ti te : TI} (hti : Aw P t = some ti) (hd : ti.desc = .array len e) (hte : Aw P e = some te) {x i : AV} {X I : Value} (hx : R C N w x X) (hi : R C N w i I) {v : AV}
  (h : E7 len te.size x i J = some (v,J')) : J' = J /\ Cp P C N w (Instr.indexAt t X I) v := by
 obtain ⟨_,d,_,h2,h3,_⟩ := Al hti;obtain ⟨ei,_,g1,_,_,g4,_⟩ := Al hte
 have hu := h2.trans (by rw [← h3,hd])
 unfold E7 at h
 split at h
 ·rename_i k n
  unfold R at hi; subst hi;cases hb : Nat.blt n len
  ·simp [hb] at h
  ·simp only [hb,cond_true] at h
   split at h
   ·rename_i u hp
    cases h;have hlt : n < len := ak_ hb;obtain ⟨ad,rfl,hr⟩ := To hx hp
    refine ⟨rfl,.pointer (some (ad.add (n * ei.size))),?_,by rw [← g4]; exact hr⟩
    unfold Instr.indexAt;simp only [asIntOf,Sem.run_bind,Sem.run_pure,Result.andThen_ok,Aa hu,Instr.sureAddr]
    rw [if_pos ⟨by simp,by simpa using hlt⟩]
    simp [Ax g1]
   ·cases h
 ·cases h
theorem Af6 {s : ByteArray} {n b : Nat} (h : (Bl s)[n]? = some b) : ∃ u : UInt8,s[n]? = some u /\ u.toNat = b := by
 unfold Bl at h;simp only [az_,du_] at h;obtain ⟨u,h1,h2⟩ := h;refine ⟨u,?_,h2⟩;have hlt : n < s.data.toList.length := (ad_.1 h1).1
 have nv : n < s.size := by simpa using hlt
 rw [getElem?_pos s n nv];have := (ad_.1 h1).2;simp only [Array.getElem_toList] at this;rw [← this]; rfl
theorem Xi {J J' : Sto} {t : TypeId} {ti : TI} (hti : Aw P t = some ti) (hd : ti.desc = .string) {x i : AV} {X I : Value} (hx : R C N w x X) (hi : R C N w i I) {v : AV}
  (h : Jt x i J = some (v,J')) : J' = J /\ Cp P C N w (Instr.index t X I) v := by
 obtain ⟨_,d,_,h2,h3,_⟩ := Al hti
 have hu := h2.trans (by rw [← h3,hd])
 unfold Jt at h
 split at h
 ·rename_i l k n
  split at h
  ·rename_i b hb
   cases h;unfold R at hx hi;subst hi;obtain ⟨s,rfl,rfl⟩ := hx;obtain ⟨u,q1,q2⟩ := Af6 hb
   refine ⟨rfl,.int .u8 u.toNat,?_,by unfold R; rw [q2]; rfl⟩
   unfold Instr.index;simp only [asIntOf,Sem.run_bind,Sem.run_pure,Result.andThen_ok,Aa hu]
   have : (if (0 : Int) <= Int.ofNat n then s[(Int.ofNat n).toNat]? else none) = some u := by rw [if_pos (by simp)]; exact q1
   rw [this]
   rfl
  ·cases h
 ·cases h
end
end Go.AM
