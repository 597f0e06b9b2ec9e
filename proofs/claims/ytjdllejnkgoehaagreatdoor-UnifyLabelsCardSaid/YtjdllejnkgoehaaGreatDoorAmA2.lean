/- The operations that leave the store alone: what the abstract machine gives is what the model gives. -/
import Derived.Laws.Sem
import Derived.Laws.Strings
import Derived.IntWalk
import Derived.Laws.StructEq
import Derived.Laws.Tables
import Derived.Test.YtjdllejnkgoehaaGreatDoorAmA1
namespace Go.AM
open Go

/- a run of the model's that follows the abstract machine -/
def Runs {α : Type} (P : Program) (C : Ctx) (w : World) (σ : Sto) (s : Sem α) (ok : α → Value → Prop) (v : AV) (σ' : Sto) : Prop :=
  ∃ y x w' C', s.run P w = .ok y w' ∧ ok y x ∧ Sim P C' w' σ' ∧ Ext C (nx σ) w C' (nx σ') w' ∧ R C' (nx σ') w' v x

abbrev RunsV (P : Program) (C : Ctx) (w : World) (σ : Sto) (s : Sem Value) (v : AV) (σ' : Sto) : Prop := Runs P C w σ s (fun y x => y = x) v σ'

section
variable {P : Program} {C : Ctx} {w : World} {σ σ' : Sto}

theorem Runs.pure {s : Sem Value} {v : AV} {x : Value} (hs : Sim P C w σ) (h : s.run P w = .ok x w) (hr : R C (nx σ) w v x) : RunsV P C w σ s v σ :=
  ⟨x, x, w, C, h, rfl, hs, Ext.refl _ _ _, hr⟩

theorem tiOf_spec {t : TypeId} {ti : TI} (h : tiOf P t = some ti) : ∃ i d, P.info? t = some i ∧ P.underlying t = some d ∧ ti.desc = d ∧ ti.size = i.size ∧ ti.bytes = i.bytes ∧ ti.zero = zeroA (isAggD d) i.zero ∧ ti.isAgg = isAggD d := by
  unfold tiOf at h
  split at h
  · rename_i i d hi hd; simp at h; subst h; exact ⟨i, d, hi, hd, rfl, rfl, rfl, rfl, rfl⟩
  · cases h

theorem run_underlying' {t : TypeId} {d : TypeDesc} (h : P.underlying t = some d) (w : World) : (underlying t).run P w = .ok d w := by
  unfold underlying; simp [h]
theorem run_typeInfo' {t : TypeId} {i : TypeInfo} (h : P.info? t = some i) (w : World) : (typeInfo t).run P w = .ok i w := by
  unfold typeInfo; simp [h]
theorem run_sizeOf' {t : TypeId} {i : TypeInfo} (h : P.info? t = some i) (w : World) : (sizeOf t).run P w = .ok i.size w := by
  unfold sizeOf; simp [run_typeInfo' h]
theorem run_isAgg' {t : TypeId} {d : TypeDesc} (h : P.underlying t = some d) (w : World) : (isAgg t).run P w = .ok (isAggD d) w := by
  unfold isAgg; simp only [Sem.run_bind, run_underlying' h, Result.andThen_ok]; cases d <;> rfl

theorem plain_oneCell {v : Value} (h : plainV v = true) : v.oneCell = true := by
  cases v <;> first | rfl | (simp [plainV, isNil] at h)

theorem isNil_oneCell {v : Value} (h : isNil v = true) : v.oneCell = true := by
  cases v <;> first | rfl | (simp [isNil] at h)

/- every value that is a cell's, whatever the abstract one, but for the unknown ones -/
theorem R.oneCell {N : Nat} {x : AV} {v : Value} (h : R C N w x v) (h1 : x ≠ .any) (h2 : ∀ l, x ≠ .agg l) (h3 : ∀ l, x ≠ .tup l) : v.oneCell = true := by
  cases x <;> unfold R at h
  case any => exact absurd rfl h1
  case bool => subst h; rfl
  case int => subst h; rfl
  case str => obtain ⟨s, rfl, _⟩ := h; rfl
  case nil => obtain ⟨rfl, h⟩ := h; exact isNil_oneCell h
  case pr => obtain ⟨ad, rfl, _⟩ := h; rfl
  case pv => obtain ⟨c, o, rfl, _⟩ := h; rfl
  case sr => obtain ⟨ad, k, rfl, _⟩ := h; rfl
  case sv => obtain ⟨ad, k, rfl, _⟩ := h; rfl
  case mp => obtain ⟨c, rfl, _⟩ := h; rfl
  case it => obtain ⟨c, rfl, _⟩ := h; rfl
  case stp => obtain ⟨rfl, _⟩ := h; rfl
  case yl => obtain ⟨rfl, _⟩ := h; rfl
  case fn => obtain ⟨a, b, rfl, _⟩ := h; rfl
  case ifc => obtain ⟨y, rfl, _⟩ := h; rfl
  case agg l => exact absurd rfl (h2 l)
  case tup l => exact absurd rfl (h3 l)

theorem cells_of_oneCell {v : Value} (h : v.oneCell = true) : v.cells = #[v] := by
  cases v <;> first | rfl | (simp [Value.oneCell] at h)

/- the cells of a value -/
theorem cellsN_sound {N : Nat} {x : AV} {n : Nat} {l : List AV} {v : Value} (h : x.cellsN n = some l) (hr : R C N w x v) :
    RL C N w l v.cells.toList ∧ v.cells.size = n ∧ l.length = n ∧ ∀ y ∈ v.cells.toList, y.oneCell = true := by
  have one : x ≠ .any → (∀ l, x ≠ .agg l) → (∀ l, x ≠ .tup l) → cond (Nat.beq n 1) (some [x]) none = some l →
      RL C N w l v.cells.toList ∧ v.cells.size = n ∧ l.length = n ∧ ∀ y ∈ v.cells.toList, y.oneCell = true := by
    intro h1 h2 h3 h4
    have hv := hr.oneCell h1 h2 h3
    have hn : n = 1 := by
      by_cases hn : n = 1
      · exact hn
      · have : Nat.beq n 1 = false := by rw [Bool.eq_false_iff]; intro hb; exact hn (Nat.eq_of_beq_eq_true hb)
        simp [this] at h4
    subst hn
    simp at h4
    subst h4
    rw [cells_of_oneCell hv]
    refine ⟨by simp only [RL]; exact ⟨hr, trivial⟩, rfl, rfl, by simpa using hv⟩
  cases x <;> simp only [AV.cellsN] at h
  case any => cases h
  case tup => cases h
  case agg cs =>
    unfold R at hr
    obtain ⟨a, rfl, h1, h2⟩ := hr
    have hn : cs.length = n := by
      by_cases hn : cs.length = n
      · exact hn
      · have : Nat.beq cs.length n = false := by rw [Bool.eq_false_iff]; intro hb; exact hn (Nat.eq_of_beq_eq_true hb)
        simp [this] at h
    simp [hn] at h
    subst h
    have := h1.length
    exact ⟨h1, by simp [Value.cells]; rw [← hn, this]; simp, hn, h2⟩
  all_goals exact one (by intro h; cases h) (by intro l h; cases h) (by intro l h; cases h) h

/- ===== constants ===== -/
theorem isNil_nil {v : Value} (h : isNil v = true) : R C (nx σ) w (.nil v) v := by unfold R; exact ⟨rfl, h⟩

theorem forceL_eq {β : Type} : ∀ (l : List Nat) (k : List Nat → β), forceL l k = k l
  | [], k => rfl
  | x :: r, k => by simp only [forceL, forceN_eq, forceL_eq r]

theorem ofV0_sound {N : Nat} (v : Value) : R C N w (ofV0 v) v := by
  unfold ofV0
  split
  · unfold R; rfl
  · unfold R; rfl
  · rw [forceN_eq]; unfold R; rfl
  · unfold R; rfl
  · rw [forceL_eq]; unfold R; exact ⟨_, rfl, rfl⟩
  · cases h : isNil v
    · simp only [cond_false]; unfold R; trivial
    · simp only [cond_true]; unfold R; exact ⟨rfl, h⟩

theorem ofVs_sound {N : Nat} : ∀ (l : List Value), RL C N w (ofVs l) l
  | [] => by unfold ofVs RL; trivial
  | v :: r => by unfold ofVs RL; exact ⟨ofV0_sound v, ofVs_sound r⟩

theorem plainVs_mem : ∀ {l : List Value}, plainVs l = true → ∀ x ∈ l, x.oneCell = true
  | [], _, x, hx => by simp at hx
  | v :: r, h, x, hx => by
    simp only [plainVs, Bool.and_eq_true] at h
    rcases List.mem_cons.1 hx with rfl | hx
    · exact plain_oneCell h.1
    · exact plainVs_mem h.2 x hx

theorem zeroA_spec {b : Bool} {z : Option Value} {l : List AV} (h : zeroA b z = some l) {N : Nat} : ∃ v, z = some v ∧ RL C N w l v.cells.toList ∧ (∀ x ∈ v.cells.toList, x.oneCell = true) ∧
    (b = true → ∃ a, v = .agg a) ∧ (b = false → ∃ u, l = [u] ∧ R C N w u v) := by
  unfold zeroA at h
  split at h
  · rename_i v
    split at h
    · rename_i cs
      split at h
      · rename_i hp
        simp only [Bool.and_eq_true] at hp
        cases h
        exact ⟨.agg cs, rfl, ofVs_sound _, plainVs_mem hp.2, fun _ => ⟨cs, rfl⟩, fun hb => by rw [hb] at hp; cases hp.1⟩
      · cases h
    · rename_i hna
      split at h
      · rename_i hp
        simp only [Bool.and_eq_true, Bool.not_eq_true'] at hp
        cases h
        have h1 := plain_oneCell hp.2
        refine ⟨v, rfl, ?_⟩
        rw [cells_of_oneCell h1]
        exact ⟨(by unfold RL; exact ⟨ofV0_sound v, by unfold RL; trivial⟩), (by simpa using h1), (fun hb => by rw [hb] at hp; cases hp.1), fun _ => ⟨_, rfl, ofV0_sound v⟩⟩
      · cases h
  · cases h
end

section
variable {C : Ctx} {N : Nat} {w : World}
theorem ofV_sound (v : Value) : R C N w (ofV v) v := by
  unfold ofV
  split
  · rename_i cs
    cases h : plainVs cs.toList
    · simp only [cond_false]; unfold R; trivial
    · simp only [cond_true]; unfold R; exact ⟨cs, rfl, ofVs_sound _, plainVs_mem h⟩
  · unfold R; exact ⟨_, rfl, ofVs_sound _⟩
  · unfold R; exact ⟨_, rfl, ofV0_sound _⟩
  · rename_i f a b
    cases h : (a.isEmpty && b.isEmpty)
    · simp only [cond_false]; unfold R; trivial
    · simp only [cond_true]
      simp at h
      unfold R
      exact ⟨a, b, rfl, by rw [h.1]; unfold RL; trivial, by rw [h.2]; unfold RL; trivial⟩
  · exact ofV0_sound v
end

/- ===== operands ===== -/
def TR (C : Ctx) (N : Nat) (w : World) (tm : Tr AV) (tmps : Array Value) : Prop := ∀ i v, tm.get i = some v → R C N w v (tmps.getD i undef)

def Glob (C : Ctx) (N : Nat) (w : World) (E : Env) : Prop := ∀ g cs, E.gl g = some cs → R C N w (.pv cs) (.pointer (some ⟨g, 0, none⟩))

section
variable {E : Env} {C C' : Ctx} {N N' : Nat} {w w' : World} {tm : Tr AV} {a : Act}

theorem TR.ext {tmps : Array Value} (h : TR C N w tm tmps) (e : Ext C N w C' N' w') : TR C' N' w' tm tmps := fun i v hv => R.ext e _ _ (h i v hv)
theorem Glob.ext (h : Glob C N w E) (e : Ext C N w C' N' w') : Glob C' N' w' E := fun g cs hg => R.ext e _ _ (h g cs hg)

theorem opd_sound (hg : Glob C N w E) (ht : TR C N w tm a.tmps) (x : Operand) : R C N w (opd E tm x) (a.eval x) := by
  cases x with
  | tmp t =>
    simp only [opd, Act.eval]
    split
    · rename_i v hv; exact ht t v hv
    · unfold R; trivial
  | const v => exact ofV_sound v
  | global g =>
    simp only [opd, Act.eval]
    split
    · rename_i cs hc; exact hg g cs hc
    · unfold R; trivial
  | func f =>
    simp only [opd, Act.eval]
    unfold R
    exact ⟨#[], #[], rfl, by unfold RL; trivial, by unfold RL; trivial⟩

theorem opds_sound (hg : Glob C N w E) (ht : TR C N w tm a.tmps) : ∀ (l : List Operand), RL C N w (opds E tm l) (l.map a.eval)
  | [] => by simp only [opds, List.map_nil]; unfold RL; trivial
  | x :: r => by simp only [opds, List.map_cons]; unfold RL; exact ⟨opd_sound hg ht x, opds_sound hg ht r⟩
end

/- ===== integers, strings, bools ===== -/
theorem eqInt_iff (a b : Int) : eqInt a b = (a == b) := by
  cases a <;> cases b <;> simp only [eqInt]
  · rename_i m n
    by_cases h : m = n
    · subst h; simp
    · have : Nat.beq m n = false := by rw [Bool.eq_false_iff]; intro hb; exact h (Nat.eq_of_beq_eq_true hb)
      rw [this]; symm; simp; omega
  · rfl
  · rfl
  · rename_i m n
    by_cases h : m = n
    · subst h; simp
    · have : Nat.beq m n = false := by rw [Bool.eq_false_iff]; intro hb; exact h (Nat.eq_of_beq_eq_true hb)
      rw [this]; symm; simp; omega

theorem leInt_iff (a b : Int) : leInt a b = decide (a ≤ b) := by
  cases a <;> cases b <;> simp only [leInt]
  · rename_i m n
    rw [Bool.eq_iff_iff, Nat.ble_eq, decide_eq_true_iff]; simp
  · rename_i m n; symm; simp; omega
  · rename_i m n; symm; simp; omega
  · rename_i m n
    rw [Bool.eq_iff_iff, Nat.ble_eq, decide_eq_true_iff]; omega

theorem eqKind_iff (a b : IntKind) : eqKind a b = true ↔ a = b := by cases a <;> cases b <;> simp [eqKind]

theorem beq_ne {a b : Nat} (h : a ≠ b) : Nat.beq a b = false := by
  rw [Bool.eq_false_iff]; intro hb; exact h (Nat.eq_of_beq_eq_true hb)

theorem wrap_of_inKind (k : IntKind) (n : Int) (h : inKind k n = true) : k.wrap n = n := by
  cases n with
  | ofNat m =>
    have e : Int.ofNat m = (m : Int) := rfl
    rw [e]
    cases k
    · have h' : m ≤ 127 := Nat.le_of_ble_eq_true h; exact IntWalk.i8_in _ ⟨by omega, by omega⟩
    · have h' : m ≤ 32767 := Nat.le_of_ble_eq_true h; exact IntWalk.i16_in _ ⟨by omega, by omega⟩
    · have h' : m ≤ 2147483647 := Nat.le_of_ble_eq_true h; exact IntWalk.i32_in _ ⟨by omega, by omega⟩
    · have h' : m ≤ 9223372036854775807 := Nat.le_of_ble_eq_true h; exact IntWalk.i64_in _ ⟨by omega, by omega⟩
    · have h' : m ≤ 255 := Nat.le_of_ble_eq_true h; exact IntWalk.u8_in _ ⟨by omega, by omega⟩
    · have h' : m ≤ 65535 := Nat.le_of_ble_eq_true h; exact IntWalk.u16_in _ ⟨by omega, by omega⟩
    · have h' : m ≤ 4294967295 := Nat.le_of_ble_eq_true h; exact IntWalk.u32_in _ ⟨by omega, by omega⟩
    · have h' : m ≤ 18446744073709551615 := Nat.le_of_ble_eq_true h; exact IntWalk.u64_in _ ⟨by omega, by omega⟩
  | negSucc m =>
    have e : Int.negSucc m = -((m : Int) + 1) := by omega
    cases k
    · have h' : m ≤ 127 := Nat.le_of_ble_eq_true h; rw [e]; exact IntWalk.i8_in _ ⟨by omega, by omega⟩
    · have h' : m ≤ 32767 := Nat.le_of_ble_eq_true h; rw [e]; exact IntWalk.i16_in _ ⟨by omega, by omega⟩
    · have h' : m ≤ 2147483647 := Nat.le_of_ble_eq_true h; rw [e]; exact IntWalk.i32_in _ ⟨by omega, by omega⟩
    · have h' : m ≤ 9223372036854775807 := Nat.le_of_ble_eq_true h; rw [e]; exact IntWalk.i64_in _ ⟨by omega, by omega⟩
    all_goals (cases h)

theorem mkInt_eq (k : IntKind) (n : Int) : mkInt k n = .int k (k.wrap n) := by
  have key : ∀ m : Int, cond (inKind k m) (AV.int k m) (.int k (k.wrap m)) = .int k (k.wrap m) := fun m => by
    cases h : inKind k m
    · rfl
    · simp [wrap_of_inKind k m h]
  cases n <;> simp only [mkInt, forceN_eq] <;> exact key _

theorem addInt_eq (a b : Int) : addInt a b = a + b := by cases a <;> cases b <;> rfl
theorem subInt_eq (a b : Int) : subInt a b = a - b := by
  cases a with
  | ofNat m => cases b with
    | ofNat n =>
      simp only [subInt]
      cases h : Nat.ble n m
      · rfl
      · simp only [cond_true]; have : n ≤ m := by simpa using h
        simp; omega
    | negSucc n => rfl
  | negSucc m => cases b <;> rfl

theorem bytesOf_inj {a b : ByteArray} (h : bytesOf a = bytesOf b) : a = b := by
  unfold bytesOf at h
  have h1 : a.data.toList = b.data.toList := by
    have key : ∀ (l m : List UInt8), l.map UInt8.toNat = m.map UInt8.toNat → l = m := by
      intro l
      induction l with
      | nil => intro m h; cases m with
        | nil => rfl
        | cons => simp at h
      | cons x r ih => intro m h; cases m with
        | nil => simp at h
        | cons y s => simp only [List.map_cons, List.cons.injEq] at h; rw [UInt8.toNat_inj.1 h.1, ih s h.2]
    exact key _ _ h
  cases a; cases b; simp at h1; simp [h1]

theorem eqNats_iff : ∀ (a b : List Nat), eqNats a b = true ↔ a = b
  | [], [] => by simp [eqNats]
  | [], _ :: _ => by simp [eqNats]
  | _ :: _, [] => by simp [eqNats]
  | x :: r, y :: s => by
    simp only [eqNats]
    by_cases h : x = y
    · subst h; simp [eqNats_iff r s]
    · have : Nat.beq x y = false := by rw [Bool.eq_false_iff]; intro hb; exact h (Nat.eq_of_beq_eq_true hb)
      simp [this, h]

theorem eqNats_str (a b : ByteArray) : eqNats (bytesOf a) (bytesOf b) = (a.toList == b.toList) := by
  rw [Bool.eq_iff_iff, eqNats_iff]
  simp only [Go.ByteArray.toList_eq, beq_iff_eq]
  constructor
  · intro h; rw [bytesOf_inj h]
  · intro h; unfold bytesOf; rw [h]

theorem ltNats_str : ∀ (a b : List UInt8), ltNats (a.map UInt8.toNat) (b.map UInt8.toNat) = Op.bytesLess a b
  | _, [] => by cases ‹List UInt8› <;> simp [ltNats, Op.bytesLess]
  | [], _ :: _ => by simp [ltNats, Op.bytesLess]
  | x :: r, y :: s => by
    simp only [List.map_cons, ltNats, Op.bytesLess, ltNats_str r s]
    by_cases h : x < y
    · have : Nat.blt x.toNat y.toNat = true := by simp [Nat.blt]; exact UInt8.lt_iff_toNat_lt.1 h
      simp [this, h]
    · have h1 : Nat.blt x.toNat y.toNat = false := by
        rw [Bool.eq_false_iff]; intro hb
        have : x.toNat < y.toNat := by simp [Nat.blt] at hb; exact hb
        exact h (UInt8.lt_iff_toNat_lt.2 this)
      by_cases h2 : x = y
      · subst h2; simp [h1, h]
      · have : Nat.beq x.toNat y.toNat = false := by rw [Bool.eq_false_iff]; intro hb; exact h2 (UInt8.toNat_inj.1 (Nat.eq_of_beq_eq_true hb))
        simp [h1, h, this, h2]

theorem bytesOf_append (a b : ByteArray) : bytesOf (a ++ b) = bytesOf a ++ bytesOf b := by
  unfold bytesOf; simp

theorem bytesOf_length (a : ByteArray) : (bytesOf a).length = a.size := by unfold bytesOf; simp

section
variable {P : Program} {C : Ctx} {N : Nat} {w : World}

theorem bnot_le (a b : Int) : (!decide (b ≤ a)) = decide (a < b) := by
  rw [Bool.eq_iff_iff]; simp

theorem intOp_sound {op : BinOp} {k : IntKind} {a b : Int} {v : AV} (h : intOp op k a b = some v) (t : TypeId) : ∃ x, (binOp op t (.int k a) (.int k b)).run P w = .ok x w ∧ R C N w v x := by
  cases op <;> simp only [intOp] at h
  case add => cases h; exact ⟨_, by simp only [binOp]; simp [Op.intArith]; rfl, by rw [mkInt_eq, addInt_eq]; unfold R; rfl⟩
  case sub => cases h; exact ⟨_, by simp only [binOp]; simp [Op.intArith]; rfl, by rw [mkInt_eq, subInt_eq]; unfold R; rfl⟩
  case mul => cases h; exact ⟨_, by simp only [binOp]; simp [Op.intArith]; rfl, by rw [mkInt_eq]; unfold R; rfl⟩
  case eql => cases h; exact ⟨_, by simp only [binOp]; simp [Op.intCmp]; rfl, by unfold R; rw [eqInt_iff]⟩
  case neq => cases h; exact ⟨_, by simp only [binOp]; simp [Op.intCmp]; rfl, by unfold R; rw [eqInt_iff]; rfl⟩
  case lss => cases h; exact ⟨_, by simp only [binOp]; simp [Op.intCmp]; rfl, by unfold R; rw [leInt_iff, bnot_le]⟩
  case leq => cases h; exact ⟨_, by simp only [binOp]; simp [Op.intCmp]; rfl, by unfold R; rw [leInt_iff]⟩
  case gtr => cases h; exact ⟨_, by simp only [binOp]; simp [Op.intCmp]; rfl, by unfold R; rw [leInt_iff, bnot_le]⟩
  case geq => cases h; exact ⟨_, by simp only [binOp]; simp [Op.intCmp]; rfl, by unfold R; rw [leInt_iff]⟩
  case quo =>
    split at h
    · rename_i a b
      cases h
      refine ⟨_, by simp only [binOp]; simp [Op.intDiv]; rfl, ?_⟩
      rw [mkInt_eq]; unfold R; rfl
    · cases h
  case rem =>
    split at h
    · rename_i a b
      rw [forceN_eq] at h
      cases h
      exact ⟨_, by simp only [binOp]; simp [Op.intDiv]; rfl, by unfold R; rfl⟩
    · cases h
  all_goals (cases h)
end

section
variable {P : Program} {C : Ctx} {N : Nat} {w : World}
/- a type's zero value -/
theorem zeroOf_sound {t : TypeId} {ti : TI} (hti : tiOf P t = some ti) {z : AV} (hz : zeroOf ti = some z) : ∃ Z, (zeroValue t).run P w = .ok Z w ∧ R C N w z Z := by
  obtain ⟨i, d, g1, g2, g3, g4, _, g6, g7⟩ := tiOf_spec hti
  unfold zeroOf at hz
  split at hz
  · rename_i l hl
    rw [g6] at hl
    obtain ⟨Z, q1, q2, q3, q4, q5⟩ := zeroA_spec (C := C) (w := w) (N := N) hl
    refine ⟨Z, by unfold zeroValue; simp [run_typeInfo' g1, q1], ?_⟩
    rw [g7] at hz
    cases hb : isAggD d
    · simp only [hb] at hz
      obtain ⟨u, rfl, hu⟩ := q5 hb
      simp at hz; subst hz; exact hu
    · simp only [hb] at hz
      cases hz
      obtain ⟨a, rfl⟩ := q4 hb
      unfold R
      exact ⟨a, rfl, q2, q3⟩
  · cases hz
end

end Go.AM

/- Operators, conversions, addresses, fields, elements, slices of what is there: sound. -/
namespace Go.AM
open Go

section
variable {P : Program} {C : Ctx} {N : Nat} {w : World}

/- the result of a plain operation: the world as it was -/
def PureR (P : Program) (C : Ctx) (N : Nat) (w : World) (s : Sem Value) (v : AV) : Prop := ∃ x, s.run P w = .ok x w ∧ R C N w v x

theorem PureR.runs {σ : Sto} {s : Sem Value} {v : AV} (hs : Sim P C w σ) (h : PureR P C (nx σ) w s v) : RunsV P C w σ s v σ :=
  let ⟨x, h1, h2⟩ := h; ⟨x, x, w, C, h1, rfl, hs, Ext.refl _ _ _, h2⟩

/- ===== two operands ===== -/
theorem eqGuard_other {op : BinOp} {t : TypeId} {x y : Operand} {a b : Value} (h1 : ∀ l m, ¬ (a = .agg l ∧ b = .agg m)) (h2 : ¬ (a = .nilIface ∧ b = .nilIface)) :
    (eqGuard op t x y a b).run P w = .ok () w := by
  cases op <;> first
    | (simp [eqGuard]; done)
    | (cases a <;> cases b <;> first
        | (simp [eqGuard]; done)
        | exact absurd ⟨rfl, rfl⟩ h2
        | exact absurd ⟨rfl, rfl⟩ (h1 _ _))

theorem eqGuard_const {op : BinOp} {t : TypeId} {x y : Operand} (h : (isConstO x || isConstO y) = true) : (eqGuard op t x y .nilIface .nilIface).run P w = .ok () w := by
  cases op <;> first
    | (simp [eqGuard]; done)
    | (cases x <;> cases y <;> first
        | (simp [isConstO] at h; done)
        | (simp [eqGuard]; done))

theorem strOp_sound {op : BinOp} {a b : ByteArray} {v : AV} (h : strOp op (bytesOf a) (bytesOf b) = some v) (t : TypeId) :
    ∃ x, (binOp op t (.string a) (.string b)).run P w = .ok x w ∧ R C N w v x := by
  have hl : ltNats (bytesOf a) (bytesOf b) = Op.bytesLess a.toList b.toList := by rw [ByteArray.toList_eq, ByteArray.toList_eq]; exact ltNats_str _ _
  cases op <;> simp only [strOp] at h
  case add =>
    cases hb : Nat.ble ((bytesOf a).length + (bytesOf b).length) sizeLim
    · simp [hb] at h
    · simp only [hb, cond_true] at h
      cases h
      have hle := Nat.le_of_ble_eq_true hb
      rw [bytesOf_length, bytesOf_length] at hle
      have hm : ¬ (((a.size + b.size : Nat) : Int) > IntKind.i64.max) := by
        have : IntKind.i64.max = 9223372036854775807 := by decide
        rw [this]; unfold sizeLim at hle; omega
      refine ⟨.string (a ++ b), ?_, by unfold R; exact ⟨_, rfl, bytesOf_append a b⟩⟩
      simp only [binOp, Op.stringOp, Sem.run_ite, if_neg hm, Sem.run_pure]
  case eql => cases h; exact ⟨_, by simp only [binOp]; simp [Op.stringOp]; rfl, by unfold R; rw [eqNats_str]⟩
  case neq => cases h; exact ⟨_, by simp only [binOp]; simp [Op.stringOp]; rfl, by unfold R; rw [eqNats_str]⟩
  case lss => cases h; exact ⟨_, by simp only [binOp]; simp [Op.stringOp]; rfl, by unfold R; rw [hl]⟩
  case leq => cases h; exact ⟨_, by simp only [binOp]; simp [Op.stringOp]; rfl, by unfold R; rw [hl, eqNats_str]⟩
  case gtr => cases h; exact ⟨.bool (!(Op.bytesLess a.toList b.toList || a.toList == b.toList)), by simp only [binOp, Op.stringOp, Sem.run_pure], by unfold R; rw [hl, eqNats_str]⟩
  case geq => cases h; exact ⟨_, by simp only [binOp]; simp [Op.stringOp]; rfl, by unfold R; rw [hl]⟩
  all_goals (cases h)

/- '==' of two values that are no numbers and no strings -/
structure EqR (P : Program) (w : World) (t : TypeId) (X Y : Value) (b : Bool) : Prop where
  eql : (binOp .eql t X Y).run P w = .ok (.bool b) w
  neq : (binOp .neq t X Y).run P w = .ok (.bool !b) w

theorem EqR.mk' {t : TypeId} {X Y : Value} {b : Bool} (h : ∀ d, (Op.equalIn (d + 1) t X Y).run P w = .ok b w)
    (e1 : binOp .eql t X Y = (do pure (.bool (← Op.equal t X Y)))) (e2 : binOp .neq t X Y = (do pure (.bool (!(← Op.equal t X Y))))) : EqR P w t X Y b := by
  have h' : (Op.equal t X Y).run P w = .ok b w := h 9999
  exact ⟨by rw [e1]; simp only [Sem.run_bind, h', Result.andThen_ok, Sem.run_pure], by rw [e2]; simp only [Sem.run_bind, h', Result.andThen_ok, Sem.run_pure]⟩

section
variable {t : TypeId} {d : TypeDesc}
theorem EqR.slice (hd : P.underlying t = some d) (h : ∃ e, d = .slice e) (ad : Addr) (n k : Nat) : EqR P w t (.slice (some ad) n k) (.slice none 0 0) false ∧ EqR P w t (.slice none 0 0) (.slice (some ad) n k) false ∧ EqR P w t (.slice none 0 0) (.slice none 0 0) true := by
  obtain ⟨e, rfl⟩ := h
  exact ⟨.mk' (fun d => by simp [Op.equalIn, run_underlying' hd]) rfl rfl, .mk' (fun d => by simp [Op.equalIn, run_underlying' hd]) rfl rfl, .mk' (fun d => by simp [Op.equalIn, run_underlying' hd]) rfl rfl⟩
theorem EqR.pointer (hd : P.underlying t = some d) (h : ∃ e, d = .pointer e) (ad : Addr) : EqR P w t (.pointer (some ad)) (.pointer none) false ∧ EqR P w t (.pointer none) (.pointer (some ad)) false ∧ EqR P w t (.pointer none) (.pointer none) true := by
  obtain ⟨e, rfl⟩ := h
  exact ⟨.mk' (fun d => by simp [Op.equalIn, run_underlying' hd]) rfl rfl, .mk' (fun d => by simp [Op.equalIn, run_underlying' hd]) rfl rfl, .mk' (fun d => by simp [Op.equalIn, run_underlying' hd]) rfl rfl⟩
theorem EqR.map (hd : P.underlying t = some d) (h : ∃ k e, d = .map k e) (c : Nat) : EqR P w t (.map (some c)) (.map none) false ∧ EqR P w t (.map none) (.map (some c)) false ∧ EqR P w t (.map none) (.map none) true := by
  obtain ⟨k, e, rfl⟩ := h
  exact ⟨.mk' (fun d => by simp [Op.equalIn, run_underlying' hd]) rfl rfl, .mk' (fun d => by simp [Op.equalIn, run_underlying' hd]) rfl rfl, .mk' (fun d => by simp [Op.equalIn, run_underlying' hd]) rfl rfl⟩
theorem EqR.func (hd : P.underlying t = some d) (h : ∃ a b c, d = .func a b c) (f : Fn) (p q : Array Value) : EqR P w t (.func f p q) .nilFunc false ∧ EqR P w t .nilFunc (.func f p q) false ∧ EqR P w t .nilFunc .nilFunc true := by
  obtain ⟨a, b, c, rfl⟩ := h
  exact ⟨.mk' (fun d => by simp [Op.equalIn, run_underlying' hd]) rfl rfl, .mk' (fun d => by simp [Op.equalIn, run_underlying' hd]) rfl rfl, .mk' (fun d => by simp [Op.equalIn, run_underlying' hd]) rfl rfl⟩
theorem EqR.iface (hd : P.underlying t = some d) (h : ∃ m, d = .interface m) (u : TypeId) (v : Value) : EqR P w t (.iface u v) .nilIface false ∧ EqR P w t .nilIface (.iface u v) false ∧ EqR P w t .nilIface .nilIface true := by
  obtain ⟨m, rfl⟩ := h
  exact ⟨.mk' (fun d => by simp [Op.equalIn, run_underlying' hd]) rfl rfl, .mk' (fun d => by simp [Op.equalIn, run_underlying' hd]) rfl rfl, .mk' (fun d => by simp [Op.equalIn, run_underlying' hd]) rfl rfl⟩
theorem EqR.bool (hd : P.underlying t = some .bool) (a b : Bool) : EqR P w t (.bool a) (.bool b) (a == b) :=
  .mk' (fun d => by simp [Op.equalIn, run_underlying' hd]) rfl rfl
end

def noAgg (X : Value) : Prop := ∀ l, X ≠ .agg l

/- '==' against nil -/
theorem notNil_sound {d : TypeDesc} {t : TypeId} (hd : P.underlying t = some d) {x y : AV} {X Y : Value} (hx : R C N w x X) (hy : R C N w y Y) (h : notNil d x y = true) :
    EqR P w t X Y false ∧ EqR P w t Y X false ∧ noAgg X ∧ noAgg Y := by
  unfold notNil at h
  split at h
  · unfold R at hy; obtain ⟨rfl, _⟩ := hy
    split at h
    · unfold R at hx; obtain ⟨ad, k, rfl, _⟩ := hx
      have := EqR.slice (w := w) hd ⟨_, rfl⟩ ad; exact ⟨(this _ _).1, (this _ _).2.1, (fun _ h => nomatch h), (fun _ h => nomatch h)⟩
    · unfold R at hx; obtain ⟨ad, k, rfl, _⟩ := hx
      have := EqR.slice (w := w) hd ⟨_, rfl⟩ ad; exact ⟨(this _ _).1, (this _ _).2.1, (fun _ h => nomatch h), (fun _ h => nomatch h)⟩
    · cases h
  · unfold R at hy; obtain ⟨rfl, _⟩ := hy
    split at h
    · unfold R at hx; obtain ⟨ad, rfl, _⟩ := hx
      have := EqR.pointer (w := w) hd ⟨_, rfl⟩ ad; exact ⟨this.1, this.2.1, (fun _ h => nomatch h), (fun _ h => nomatch h)⟩
    · unfold R at hx; obtain ⟨c, o, rfl, _⟩ := hx
      have := EqR.pointer (w := w) hd ⟨_, rfl⟩ ⟨c, o, none⟩; exact ⟨this.1, this.2.1, (fun _ h => nomatch h), (fun _ h => nomatch h)⟩
    · cases h
  · unfold R at hy; obtain ⟨rfl, _⟩ := hy
    split at h
    · unfold R at hx; obtain ⟨c, rfl, _⟩ := hx
      have := EqR.map (w := w) hd ⟨_, _, rfl⟩ c; exact ⟨this.1, this.2.1, (fun _ h => nomatch h), (fun _ h => nomatch h)⟩
    · cases h
  · unfold R at hy; obtain ⟨rfl, _⟩ := hy
    split at h
    · unfold R at hx; obtain ⟨a, b, rfl, _⟩ := hx
      have := EqR.func (w := w) hd ⟨_, _, _, rfl⟩; exact ⟨(this _ _ _).1, (this _ _ _).2.1, (fun _ h => nomatch h), (fun _ h => nomatch h)⟩
    · cases h
  · unfold R at hy; obtain ⟨rfl, _⟩ := hy
    split at h
    · unfold R at hx; obtain ⟨z, rfl, _⟩ := hx
      have := EqR.iface (w := w) hd ⟨_, rfl⟩; exact ⟨(this _ _).1, (this _ _).2.1, (fun _ h => nomatch h), (fun _ h => nomatch h)⟩
    · cases h
  · cases h

theorem eqNil_sound {d : TypeDesc} {t : TypeId} (hd : P.underlying t = some d) {x y : AV} {X Y : Value} (hx : R C N w x X) (hy : R C N w y Y) {b : Bool} (h : eqNil d x y = some b) :
    EqR P w t X Y b ∧ noAgg X ∧ noAgg Y := by
  unfold eqNil at h
  cases hb : bothNil d x y
  · simp only [hb, cond_false] at h
    cases h1 : notNil d x y
    · cases h2 : notNil d y x
      · simp [h1, h2] at h
      · simp [h2] at h; subst h; have := notNil_sound hd hy hx h2; exact ⟨this.2.1, this.2.2.2, this.2.2.1⟩
    · simp [h1] at h; subst h; have := notNil_sound hd hx hy h1; exact ⟨this.1, this.2.2.1, this.2.2.2⟩
  · simp only [hb, cond_true, Option.some.injEq] at h
    subst h
    unfold bothNil at hb
    split at hb
    · unfold R at hx hy; obtain ⟨rfl, _⟩ := hx; obtain ⟨rfl, _⟩ := hy
      exact ⟨(EqR.slice (w := w) hd ⟨_, rfl⟩ ⟨0, 0, none⟩ 0 0).2.2, (fun _ h => nomatch h), (fun _ h => nomatch h)⟩
    · unfold R at hx hy; obtain ⟨rfl, _⟩ := hx; obtain ⟨rfl, _⟩ := hy
      exact ⟨(EqR.pointer (w := w) hd ⟨_, rfl⟩ ⟨0, 0, none⟩).2.2, (fun _ h => nomatch h), (fun _ h => nomatch h)⟩
    · unfold R at hx hy; obtain ⟨rfl, _⟩ := hx; obtain ⟨rfl, _⟩ := hy
      exact ⟨(EqR.map (w := w) hd ⟨_, _, rfl⟩ 0).2.2, (fun _ h => nomatch h), (fun _ h => nomatch h)⟩
    · unfold R at hx hy; obtain ⟨rfl, _⟩ := hx; obtain ⟨rfl, _⟩ := hy
      exact ⟨(EqR.func (w := w) hd ⟨_, _, _, rfl⟩ (.func 0) #[] #[]).2.2, (fun _ h => nomatch h), (fun _ h => nomatch h)⟩
    · unfold R at hx hy; obtain ⟨rfl, _⟩ := hx; obtain ⟨rfl, _⟩ := hy
      exact ⟨(EqR.iface (w := w) hd ⟨_, rfl⟩ 0 .nilIface).2.2, (fun _ h => nomatch h), (fun _ h => nomatch h)⟩
    · cases hb

/- ===== keys ===== -/
theorem key0_spec {d : TypeDesc} {x : AV} {k : Key} {v : Value} (h : key0 d x = some k) (hr : R C N w x v) : KV k v ∧ KS d v := by
  unfold key0 at h
  split at h
  · rename_i j k' n
    cases hk : eqKind j k'
    · simp [hk] at h
    · simp only [hk, cond_true, Option.some.injEq] at h
      subst h
      have := (eqKind_iff j k').1 hk
      subst this
      unfold R at hr; subst hr
      exact ⟨by unfold KV; rfl, n, rfl⟩
  · rename_i l
    cases h
    unfold R at hr
    obtain ⟨s, rfl, h2⟩ := hr
    exact ⟨by unfold KV; exact ⟨s, rfl, h2⟩, s, rfl⟩
  · rename_i b
    cases h
    unfold R at hr; subst hr
    exact ⟨by unfold KV; rfl, b, rfl⟩
  · cases h

theorem keyFs_spec : ∀ {fs : List Field} {cs : List AV} {ks : List Key} {vs : List Value}, keyFs P fs cs = some ks → RL C N w cs vs → KVs ks vs ∧ KFs P fs vs
  | [], [], ks, vs, h, hr => by
    simp only [keyFs, Option.some.injEq] at h; subst h
    cases vs with
    | nil => exact ⟨by unfold KVs; trivial, by unfold KFs; trivial⟩
    | cons => unfold RL at hr; exact hr.elim
  | f :: fs, c :: cs, ks, vs, h, hr => by
    cases vs with
    | nil => unfold RL at hr; exact hr.elim
    | cons v vs =>
      unfold RL at hr
      simp only [keyFs] at h
      split at h
      · rename_i ti hti
        split at h
        · rename_i k ks' hk hks
          cases hb : (f.name != "_" && Nat.beq ti.size 1)
          · simp [hb] at h
          · simp only [hb, cond_true, Option.some.injEq] at h
            subst h
            simp only [Bool.and_eq_true, bne_iff_ne, ne_eq] at hb
            obtain ⟨i, d, h1, h2, h3, h4, _, _, _⟩ := tiOf_spec hti
            obtain ⟨q1, q2⟩ := key0_spec hk hr.1
            obtain ⟨q3, q4⟩ := keyFs_spec hks hr.2
            have hs : i.size = 1 := by rw [← h4]; exact Nat.eq_of_beq_eq_true hb.2
            rw [h3] at q2
            exact ⟨by unfold KVs; exact ⟨q1, q3⟩, by unfold KFs; exact ⟨⟨i, d, h1, h2, hs, by cases d <;> first | rfl | exact q2.elim, q2, hb.1⟩, q4⟩⟩
        · cases h
      · cases h
  | [], _ :: _, _, _, h, _ => by simp [keyFs] at h
  | _ :: _, [], _, _, h, _ => by simp [keyFs] at h

theorem keyOf_spec {kt : TypeId} {x : AV} {k : Key} {v : Value} (h : keyOf P kt x = some k) (hr : R C N w x v) : KV k v ∧ KT P kt v := by
  unfold keyOf at h
  split at h
  · rename_i ti hti
    obtain ⟨i, d, h1, h2, h3, h4, _, _, _⟩ := tiOf_spec hti
    split at h
    · rename_i fs hfs
      cases hb : (fieldsAt fs.toList 0 && !P.stoodInHeld kt)
      · simp [hb] at h
      · simp only [hb] at h
        unfold keyAgg at h
        split at h
        · rename_i cs
          split at h
          · rename_i l hl
            cases h
            unfold R at hr
            obtain ⟨a, rfl, q1, q2⟩ := hr
            obtain ⟨g1, g2⟩ := keyFs_spec hl q1
            simp only [Bool.and_eq_true, Bool.not_eq_true'] at hb
            exact ⟨by unfold KV; exact ⟨a, rfl, g1⟩, .inr ⟨fs, a, by rw [h2, ← h3, hfs], rfl, g2, hb.1, hb.2⟩⟩
          · cases h
        · cases h
    · obtain ⟨g1, g2⟩ := key0_spec h hr
      rw [h3] at g2
      exact ⟨g1, .inl ⟨d, h2, g2⟩⟩
  · cases h


theorem KV_scalar {d : TypeDesc} {k k' : Key} {v v' : Value} (h : KV k v) (h' : KV k' v') (t : KS d v) (t' : KS d v') :
    (Key.eq k k' = true ↔ v = v') ∧ ∀ (t : TypeId), P.underlying t = some d → ∀ n, (Op.equalIn (n + 1) t v v').run P w = .ok (Key.eq k k') w := by
  unfold KS at t t'
  split at t
  · obtain ⟨n, rfl⟩ := t
    obtain ⟨m, rfl⟩ := t'
    cases k <;> unfold KV at h <;> first | (cases h; done) | (obtain ⟨_, hh, _⟩ := h; cases hh; done) | skip
    cases k' <;> unfold KV at h' <;> first | (cases h'; done) | (obtain ⟨_, hh, _⟩ := h'; cases hh; done) | skip
    cases h; cases h'
    have hk : ∀ j : IntKind, eqKind j j = true := fun j => (eqKind_iff j j).2 rfl
    refine ⟨by simp [Key.eq, hk, eqInt_iff], fun t ht n => ?_⟩
    rw [run_equalIn_int _ _ _ _ _ _ _ ht]; simp [Key.eq, hk, eqInt_iff]
  · obtain ⟨n, rfl⟩ := t
    obtain ⟨m, rfl⟩ := t'
    cases k <;> unfold KV at h <;> first | (cases h; done) | skip
    cases k' <;> unfold KV at h' <;> first | (cases h'; done) | skip
    · obtain ⟨s, q1, q2⟩ := h
      obtain ⟨s', q3, q4⟩ := h'
      cases q1; cases q3
      subst q2; subst q4
      refine ⟨?_, fun t ht n => ?_⟩
      · simp only [Key.eq, eqNats_iff, Value.string.injEq]
        exact ⟨bytesOf_inj, fun h => by rw [h]⟩
      · rw [run_equalIn_string _ _ _ _ _ ht]; simp only [Key.eq, eqNats_str]
    · obtain ⟨_, hh, _⟩ := h'; cases hh
    · obtain ⟨_, hh, _⟩ := h; cases hh
  · obtain ⟨n, rfl⟩ := t
    obtain ⟨m, rfl⟩ := t'
    cases k <;> unfold KV at h <;> first | (cases h; done) | (obtain ⟨_, hh, _⟩ := h; cases hh; done) | skip
    cases k' <;> unfold KV at h' <;> first | (cases h'; done) | (obtain ⟨_, hh, _⟩ := h'; cases hh; done) | skip
    cases h; cases h'
    refine ⟨by cases n <;> cases m <;> simp [Key.eq], fun t ht _ => ?_⟩
    rw [run_equalIn_bool' _ _ _ _ _ ht]; cases n <;> cases m <;> simp [Key.eq]
  · exact t.elim

theorem KFs_length : ∀ {fs : List Field} {vs : List Value}, KFs P fs vs → fs.length = vs.length
  | [], [], _ => rfl
  | f :: fs, v :: vs, h => by unfold KFs at h; simp [KFs_length h.2]
  | [], _ :: _, h => by unfold KFs at h; exact h.elim
  | _ :: _, [], h => by unfold KFs at h; exact h.elim

theorem KVs_fields (n : Nat) (xs ys : Array Value) : ∀ (fs : List Field) (i : Nat) (ks ks' : List Key) (vs vs' : List Value), fieldsAt fs i = true → KFs P fs vs → KFs P fs vs' → KVs ks vs → KVs ks' vs' →
    (∀ j, j < vs.length → xs[i + j]? = vs[j]?) → (∀ j, j < vs'.length → ys[i + j]? = vs'[j]?) →
    (Key.eqs ks ks' = true ↔ vs = vs') ∧ (Op.eqFields (n + 1) xs ys fs).run P w = .ok (Key.eqs ks ks') w
  | [], i, ks, ks', vs, vs', _, h1, h2, h3, h4, _, _ => by
    cases vs <;> unfold KFs at h1 <;> first | exact h1.elim | skip
    cases vs' <;> unfold KFs at h2 <;> first | exact h2.elim | skip
    cases ks <;> unfold KVs at h3 <;> first | exact h3.elim | skip
    cases ks' <;> unfold KVs at h4 <;> first | exact h4.elim | skip
    exact ⟨by simp [Key.eqs], by simp [Op.eqFields, Key.eqs]⟩
  | f :: fs, i, ks, ks', vs, vs', h0, h1, h2, h3, h4, h5, h6 => by
    cases vs with
    | nil => unfold KFs at h1; exact h1.elim
    | cons v vs =>
    cases vs' with
    | nil => unfold KFs at h2; exact h2.elim
    | cons v' vs' =>
    cases ks with
    | nil => unfold KVs at h3; exact h3.elim
    | cons k ks =>
    cases ks' with
    | nil => unfold KVs at h4; exact h4.elim
    | cons k' ks' =>
    unfold KFs at h1 h2
    unfold KVs at h3 h4
    obtain ⟨⟨inf, d, g1, g2, g3, g4, g5, g6⟩, h1⟩ := h1
    obtain ⟨⟨inf', d', e1, e2, _, _, e5, _⟩, h2⟩ := h2
    rw [g2] at e2; cases e2
    simp only [fieldsAt, Bool.and_eq_true] at h0
    have ho : f.offset = i := Nat.eq_of_beq_eq_true h0.1
    obtain ⟨q1, q2⟩ := KV_scalar (P := P) (w := w) h3.1 h4.1 g5 e5
    obtain ⟨q3, q4⟩ := KVs_fields n xs ys fs (i + 1) ks ks' vs vs' h0.2 h1 h2 h3.2 h4.2 (fun j hj => by have := h5 (j + 1) (by simpa using hj); rw [show i + 1 + j = i + (j + 1) by omega]; simpa using this)
      (fun j hj => by have := h6 (j + 1) (by simpa using hj); rw [show i + 1 + j = i + (j + 1) by omega]; simpa using this)
    have hx : (part f.type xs f.offset).run P w = .ok v w := by
      have := h5 0 (by simp)
      unfold part
      simp only [Sem.run_bind, run_isAgg' g2, Result.andThen_ok, g4, Bool.false_eq_true, if_false, ho]
      simp at this; simp [this]
    have hy : (part f.type ys f.offset).run P w = .ok v' w := by
      have := h6 0 (by simp)
      unfold part
      simp only [Sem.run_bind, run_isAgg' g2, Result.andThen_ok, g4, Bool.false_eq_true, if_false, ho]
      simp at this; simp [this]
    constructor
    · simp only [Key.eqs, List.cons.injEq]
      cases hk : Key.eq k k'
      · simp only [cond_false, Bool.false_eq_true, false_iff, not_and]
        intro hv; rw [← q1, hk] at hv; cases hv
      · simp only [cond_true, q3]
        exact ⟨fun h => ⟨q1.1 hk, h⟩, fun h => h.2⟩
    · simp only [Op.eqFields, if_pos g6, Sem.run_bind, hx, hy, Result.andThen_ok, q2 _ g2 n, Sem.run_ite, q4, Sem.run_pure, Key.eqs]
      cases Key.eq k k' <;> simp

/- equality of two keys of one type -/
theorem KV_eq {kt : TypeId} {k k' : Key} {v v' : Value} (h : KV k v) (h' : KV k' v') (t : KT P kt v) (t' : KT P kt v') :
    (Key.eq k k' = true ↔ v = v') ∧ ∀ n, (Op.equalIn (n + 2) kt v v').run P w = .ok (Key.eq k k') w := by
  rcases t with ⟨d, ht, t⟩ | ⟨fs, a, ht, rfl, t1, t2, t3⟩
  · rcases t' with ⟨d', ht', t'⟩ | ⟨fs, a, ht', rfl, _, _, _⟩
    · rw [ht] at ht'; cases ht'
      obtain ⟨q1, q2⟩ := KV_scalar (P := P) (w := w) h h' t t'
      exact ⟨q1, fun n => q2 kt ht (n + 1)⟩
    · rw [ht] at ht'; cases ht'; exact t.elim
  · rcases t' with ⟨d', ht', t'⟩ | ⟨fs', a', ht', rfl, t4, _, _⟩
    · rw [ht] at ht'; cases ht'; exact t'.elim
    · rw [ht] at ht'; cases ht'
      cases k <;> unfold KV at h <;> first | (cases h; done) | (obtain ⟨_, hh, _⟩ := h; cases hh; done) | skip
      cases k' <;> unfold KV at h' <;> first | (cases h'; done) | (obtain ⟨_, hh, _⟩ := h'; cases hh; done) | skip
      obtain ⟨_, hh, h⟩ := h; cases hh
      obtain ⟨_, hh, h'⟩ := h'; cases hh
      have hf : P.fieldsOf kt = fs := by unfold Program.fieldsOf; rw [ht]
      have key := fun n => KVs_fields (P := P) (w := w) n a a' fs.toList 0 _ _ a.toList a'.toList t2 t1 t4 h h' (fun j _ => by simp) (fun j _ => by simp)
      constructor
      · simp only [Key.eq]
        rw [(key 0).1]
        constructor
        · intro hl; rw [Array.toList_inj.1 hl]
        · intro hl; cases hl; rfl
      · intro n
        rw [run_equalIn_struct w (n + 1) kt a a' (by rw [hf]; exact ht) t3, hf, (key n).2]
        simp only [Key.eq]

/- the key's check passes -/
theorem run_checkKey_fields (e : Bool) (n : Nat) (a : Array Value) : ∀ (fs : List Field) (i : Nat) (vs : List Value), fieldsAt fs i = true → KFs P fs vs → (∀ j, j < vs.length → a[i + j]? = vs[j]?) →
    (forIn fs PUnit.unit fun f _ => if f.name ≠ "_" then do
        let x ← part f.type a f.offset
        Instr.checkKey e (n + 1) f.type x
        pure (ForInStep.yield PUnit.unit)
      else pure (ForInStep.yield PUnit.unit) : Sem PUnit).run P w = .ok PUnit.unit w
  | [], _, _, _, _, _ => by simp
  | f :: fs, i, vs, h0, h1, h2 => by
    cases vs with
    | nil => unfold KFs at h1; exact h1.elim
    | cons v vs =>
    unfold KFs at h1
    obtain ⟨⟨inf, d, g1, g2, g3, g4, g5, g6⟩, h1⟩ := h1
    simp only [fieldsAt, Bool.and_eq_true] at h0
    have ho : f.offset = i := Nat.eq_of_beq_eq_true h0.1
    have hx : (part f.type a f.offset).run P w = .ok v w := by
      have := h2 0 (by simp)
      unfold part
      simp only [Sem.run_bind, run_isAgg' g2, Result.andThen_ok, g4, Bool.false_eq_true, if_false, ho]
      simp at this; simp [this]
    have hc : (Instr.checkKey e (n + 1) f.type v).run P w = .ok () w := by
      unfold Instr.checkKey
      simp only [Sem.run_bind, run_underlying' g2, Result.andThen_ok]
      unfold KS at g5
      split at g5
      · obtain ⟨_, rfl⟩ := g5; rfl
      · obtain ⟨_, rfl⟩ := g5; rfl
      · obtain ⟨_, rfl⟩ := g5; rfl
      · exact g5.elim
    have := run_checkKey_fields e n a fs (i + 1) vs h0.2 h1 (fun j hj => by have := h2 (j + 1) (by simpa using hj); rw [show i + 1 + j = i + (j + 1) by omega]; simpa using this)
    simp only [List.forIn_cons, Sem.run_bind, if_pos g6, hx, Result.andThen_ok, hc, Sem.run_pure]
    exact this

theorem run_checkKey' {kt : TypeId} {v : Value} (t : KT P kt v) (e : Bool) (n : Nat) : (Instr.checkKey e (n + 2) kt v).run P w = .ok () w := by
  rcases t with ⟨d, ht, t⟩ | ⟨fs, a, ht, rfl, t1, t2, t3⟩
  · unfold Instr.checkKey
    simp only [Sem.run_bind, run_underlying' ht, Result.andThen_ok]
    unfold KS at t
    split at t
    · obtain ⟨_, rfl⟩ := t; rfl
    · obtain ⟨_, rfl⟩ := t; rfl
    · obtain ⟨_, rfl⟩ := t; rfl
    · exact t.elim
  · unfold Instr.checkKey
    simp only [Sem.run_bind, run_underlying' ht, Result.andThen_ok]
    rw [← Array.forIn_toList]
    have := run_checkKey_fields (w := w) e n a fs.toList 0 a.toList t2 t1 (fun j _ => by simp)
    rw [this]
    rfl

end
end Go.AM

/- The plain operations of the abstract machine, one by one: sound. -/
namespace Go.AM
open Go

section
variable {P : Program} {C : Ctx} {N : Nat} {w : World}

theorem isNil_noAgg {X : Value} (h : isNil X = true) : noAgg X := by intro l hl; subst hl; simp [isNil] at h

theorem eqStruct_sound {t : TypeId} {x y : AV} {X Y : Value} (hx : R C N w x X) (hy : R C N w y Y) {b : Bool} (h : eqStruct P t x y = some b) :
    ∃ l m, X = .agg l ∧ Y = .agg m ∧ EqR P w t X Y b ∧ KT P t X := by
  unfold eqStruct at h
  split at h
  · rename_i cs ds
    split at h
    · rename_i k k' hk hk'
      cases h
      obtain ⟨v1, t1⟩ := keyOf_spec hk hx
      obtain ⟨v2, t2⟩ := keyOf_spec hk' hy
      unfold R at hx hy
      obtain ⟨l, rfl, _⟩ := hx
      obtain ⟨m, rfl, _⟩ := hy
      have := (KV_eq (P := P) (w := w) v1 v2 t1 t2).2
      refine ⟨l, m, rfl, rfl, ⟨?_, ?_⟩, t1⟩
      · rw [run_eql_struct, this 9998]; rfl
      · rw [run_neq_struct, this 9998]; rfl
    · cases h
  · cases h

/- a struct of scalars has no part of an interface type -/
theorem eqGuardType_false {t : TypeId} {l : Array Value} (h : KT P t (.agg l)) : P.eqGuardType P.depth t = false := by
  rcases h with ⟨d, ht, h⟩ | ⟨fs, a, ht, _, h1, h2, h3⟩
  · unfold KS at h; split at h <;> first | (obtain ⟨_, h⟩ := h; cases h) | exact h.elim
  · have hd : P.depth = (2 * (P.types.size + Made.depth)) + 1 + 1 := by unfold Program.depth; omega
    rw [hd]
    generalize 2 * (P.types.size + Made.depth) = n
    unfold Program.eqGuardType
    rw [ht]
    simp only [← Array.any_toList]
    have key : ∀ (fs : List Field) (vs : List Value), KFs P fs vs → (fs.any fun f => f.name != "_" && P.eqGuardType (n + 1) f.type) = false := by
      intro fs
      induction fs with
      | nil => intro vs _; rfl
      | cons f fs ih =>
        intro vs hk
        cases vs with
        | nil => unfold KFs at hk; exact hk.elim
        | cons v vs =>
          unfold KFs at hk
          obtain ⟨⟨i, d, g1, g2, g3, g4, g5, g6⟩, hk⟩ := hk
          simp only [List.any_cons, ih vs hk, Bool.or_false]
          have : P.eqGuardType (n + 1) f.type = false := by
            unfold Program.eqGuardType
            rw [g2]
            unfold KS at g5
            split at g5 <;> first | rfl | exact g5.elim
          simp [this]
    exact key _ _ h1

theorem binA_sound {op : BinOp} {t : TypeId} {xo yo : Operand} {x y : AV} {X Y : Value} (hx : R C N w x X) (hy : R C N w y Y) {v : AV}
    (h : binA P op t (isConstO xo || isConstO yo) x y = some v) : PureR P C N w (do eqGuard op t xo yo X Y; binOp op t X Y) v := by
  have fin : ∀ {v : AV}, (eqGuard op t xo yo X Y).run P w = .ok () w → PureR P C N w (binOp op t X Y) v → PureR P C N w (do eqGuard op t xo yo X Y; binOp op t X Y) v := by
    intro v h1 ⟨z, h2, h3⟩
    exact ⟨z, by simp only [Sem.run_bind, h1, Result.andThen_ok, h2], h3⟩
  unfold binA at h
  split at h
  · rename_i ti hti
    obtain ⟨i, d, _, hd, hdd, _⟩ := tiOf_spec hti
    split at h
    · rename_i k a k' b
      unfold R at hx hy; subst hx; subst hy
      cases hk : eqKind k k'
      · simp [hk] at h
      · simp only [hk, cond_true] at h
        have := (eqKind_iff k k').1 hk
        subst this
        exact fin (eqGuard_other (fun _ _ hh => nomatch hh.1) (fun hh => nomatch hh.1)) (intOp_sound h t)
    · unfold R at hx hy
      obtain ⟨s, rfl, rfl⟩ := hx
      obtain ⟨u, rfl, rfl⟩ := hy
      exact fin (eqGuard_other (fun _ _ hh => nomatch hh.1) (fun hh => nomatch hh.1)) (strOp_sound h t)
    · rename_i a b
      unfold R at hx hy; subst hx; subst hy
      split at h
      · rename_i hb
        cases h
        have := EqR.bool (w := w) (hd.trans (by rw [← hdd, hb])) a b
        exact fin (eqGuard_other (fun _ _ hh => nomatch hh.1) (fun hh => nomatch hh.1)) ⟨_, this.eql, by unfold R; cases a <;> cases b <;> rfl⟩
      · rename_i hb
        cases h
        have := EqR.bool (w := w) (hd.trans (by rw [← hdd, hb])) a b
        exact fin (eqGuard_other (fun _ _ hh => nomatch hh.1) (fun hh => nomatch hh.1)) ⟨_, this.neq, by unfold R; cases a <;> cases b <;> rfl⟩
      · cases h
    · have other : ∀ b, eqOther P ti t (isConstO xo || isConstO yo) x y = some b → EqR P w t X Y b ∧ (eqGuard op t xo yo X Y).run P w = .ok () w := by
        intro b hb
        unfold eqOther at hb
        split at hb
        · rename_i b' hb'
          cases hb
          cases hc : (isConstO xo || isConstO yo)
          · simp [hc] at hb'
          · simp only [hc, cond_true] at hb'
            obtain ⟨h1, h2, h3⟩ := eqNil_sound (by rw [hdd]; exact hd) hx hy hb'
            refine ⟨h1, ?_⟩
            by_cases hn : X = .nilIface ∧ Y = .nilIface
            · obtain ⟨rfl, rfl⟩ := hn; exact eqGuard_const hc
            · exact eqGuard_other (fun l m hh => h2 l hh.1) hn
        · obtain ⟨l, m, rfl, rfl, h1, h2⟩ := eqStruct_sound hx hy hb
          exact ⟨h1, run_eqGuard_agg w op t xo yo l m (eqGuardType_false h2)⟩
      split at h
      · split at h
        · rename_i b hb
          cases h
          obtain ⟨h1, h2⟩ := other b hb
          exact fin h2 ⟨_, h1.eql, by unfold R; rfl⟩
        · cases h
      · split at h
        · rename_i b hb
          cases h
          obtain ⟨h1, h2⟩ := other b hb
          exact fin h2 ⟨_, h1.neq, by unfold R; rfl⟩
        · cases h
      · cases h
  · cases h

theorem unA_sound {op : UnOp} {x : AV} {X : Value} (hx : R C N w x X) {v : AV} (h : unA op x = some v) : PureR P C N w (Op.unary op X) v := by
  unfold unA at h
  split at h
  · cases h; unfold R at hx; subst hx; exact ⟨_, rfl, by unfold R; rfl⟩
  · cases h; unfold R at hx; subst hx
    refine ⟨_, by simp [Op.unary, Op.intArith]; rfl, ?_⟩
    rw [mkInt_eq, subInt_eq, Int.zero_sub]; unfold R; rfl
  · cases h

theorem natOf_spec {x : AV} {n : Nat} {X : Value} (h : natOf? x = some n) (hx : R C N w x X) : ∃ k, X = .int k (n : Int) := by
  unfold natOf? at h
  split at h
  · cases h; unfold R at hx; exact ⟨_, hx⟩
  · cases h

/- ===== loads ===== -/
theorem loadFrom_sound {t : TypeId} {ti : TI} (hti : tiOf P t = some ti) {l : List AV} {c o : Nat} (hc : RC C N w c l o) {v : AV} (h : loadFrom ti l = some v) :
    PureR P C N w (loadVar t ⟨c, o, none⟩) v := by
  obtain ⟨i, d, h1, h2, h3, h4, _, _, h5⟩ := tiOf_spec hti
  unfold loadFrom at h
  unfold loadVar PureR
  simp only [Sem.run_bind, run_isAgg' h2, Result.andThen_ok]
  rw [← h5]
  cases ha : ti.isAgg
  · simp only [ha] at h
    simp only [Bool.false_eq_true, if_false]
    split at h
    · cases h
      unfold RC at hc
      obtain ⟨⟨x, q1, q2, q3⟩, _⟩ := hc
      exact ⟨x, by simp [q1], q3⟩
    · cases h
  · simp only [ha] at h
    split at h
    · rename_i cs hcs
      cases h
      obtain ⟨a, q1, q2, q3⟩ := run_loadCells (P := P) (hc.take _ hcs)
      have hl := (takeN_eq hcs).2
      refine ⟨.agg a, ?_, by unfold R; exact ⟨a, rfl, q2, q3⟩⟩
      simp only [if_true, Sem.run_bind, run_sizeOf' h1, Result.andThen_ok]
      rw [← h4, ← hl, q1]
      simp
    · cases h

theorem sLoad_sound {σ σ' : Sto} (hs : Sim P C w σ) {t : TypeId} {ti : TI} (hti : tiOf P t = some ti) {x : AV} {X : Value} (hx : R C (nx σ) w x X) {v : AV} (h : sLoad ti x σ = some (v, σ')) :
    σ' = σ ∧ PureR P C (nx σ) w (Instr.loadAt t X) v := by
  unfold sLoad at h
  split at h
  · rename_i a off
    split at h
    · rename_i vs hvs
      split at h
      · rename_i u hu
        cases h
        refine ⟨rfl, ?_⟩
        unfold R at hx
        obtain ⟨ad, rfl, _, hl⟩ := hx
        unfold Sto.cells at hvs
        split at hvs
        · rename_i vs' hg
          cases hvs
          obtain ⟨c, o, cs, T, k1, k2, k3⟩ := hs.obj a _ hg
          rw [hl c o k1]
          exact loadFrom_sound hti (k3.drop off) hu
        · cases hvs
      · cases h
    · cases h
  · split at h
    · rename_i u hu
      cases h
      refine ⟨rfl, ?_⟩
      unfold R at hx
      obtain ⟨c, o, rfl, _, k3⟩ := hx
      exact loadFrom_sound hti k3 hu
    · cases h
  · cases h

/- ===== addresses ===== -/
theorem ptrAdd_sound {x : AV} {X : Value} (hx : R C N w x X) {n : Nat} {v : AV} (h : ptrAdd x n = some v) : ∃ ad, X = .pointer (some ad) ∧ R C N w v (.pointer (some (ad.add n))) := by
  unfold ptrAdd at h
  split at h
  · rw [forceN_eq] at h
    cases h
    unfold R at hx
    obtain ⟨ad, rfl, h1, h2⟩ := hx
    refine ⟨ad, rfl, ?_⟩
    unfold R
    exact ⟨ad.add n, rfl, h1, fun c o hc => by rw [h2 c o hc, add_off, Nat.add_assoc]⟩
  · cases h
    unfold R at hx
    obtain ⟨c, o, rfl, h1, h2⟩ := hx
    refine ⟨⟨c, o, none⟩, rfl, ?_⟩
    rw [add_off]
    unfold R
    refine ⟨c, o + n, rfl, fun hne => h1 ?_, h2.drop n⟩
    intro h; apply hne; rw [h]; simp
  · cases h

theorem fieldAt_sound {t : TypeId} {ti : TI} (hti : tiOf P t = some ti) {fs : Array Field} (hfs : ti.desc = .struct fs) {i : Nat} {f : Field} (hf : fs.toList[i]? = some f) {tf : TI} (htf : tiOf P f.type = some tf)
    (hsz : tf.size ≠ 0) {x : AV} {X : Value} (hx : R C N w x X) {v : AV} (h : ptrAdd x f.offset = some v) : PureR P C N w (Instr.fieldAt t X i) v := by
  obtain ⟨_, d, _, h2, h3, _⟩ := tiOf_spec hti
  obtain ⟨fi, _, g1, _, _, g4, _⟩ := tiOf_spec htf
  obtain ⟨ad, rfl, hr⟩ := ptrAdd_sound hx h
  refine ⟨.pointer (some (ad.add f.offset)), ?_, hr⟩
  unfold Instr.fieldAt
  have hf' : fs[i]? = some f := by simpa using hf
  simp only [Sem.run_bind, run_underlying' (h2.trans (by rw [← h3, hfs])), Result.andThen_ok, hf', Instr.sureAddr, Sem.run_pure, fieldPlace, run_sizeOf' g1, Sem.run_ite]
  rw [if_neg (by rw [← g4]; exact hsz)]
  simp


theorem field_sound {t : TypeId} {ti : TI} (hti : tiOf P t = some ti) {fs : Array Field} (hfs : ti.desc = .struct fs) {i : Nat} {f : Field} (hf : fs.toList[i]? = some f) {tf : TI} (htf : tiOf P f.type = some tf)
    {cs : List AV} {X : Value} (hx : R C N w (.agg cs) X) {v : AV} (h : loadFrom tf (cs.drop f.offset) = some v) : PureR P C N w (Instr.field t X i) v := by
  obtain ⟨_, d, _, h2, h3, _⟩ := tiOf_spec hti
  have hf' : fs[i]? = some f := by simpa using hf
  unfold R at hx
  obtain ⟨a, rfl, q1, q2⟩ := hx
  unfold Instr.field
  have hp : PureR P C N w (part f.type a f.offset) v := by
    obtain ⟨fi, fd, g1, g2, g3, g4, _, _, g5⟩ := tiOf_spec htf
    unfold loadFrom at h
    unfold part PureR
    simp only [Sem.run_bind, run_isAgg' g2, Result.andThen_ok]
    rw [← g5]
    have hd := q1.drop f.offset
    cases ha : tf.isAgg
    · simp only [ha] at h
      simp only [Bool.false_eq_true, if_false]
      split at h
      · rename_i u r he
        cases h
        have : (cs.drop f.offset)[0]? = some v := by rw [he]; rfl
        obtain ⟨x, k1, k2⟩ := hd.get 0 v this
        have : a[f.offset]? = some x := by simpa using k1
        exact ⟨x, by simp [this], k2⟩
      · cases h
    · simp only [ha] at h
      split at h
      · rename_i l hl
        cases h
        refine ⟨.agg (a.extract f.offset (f.offset + fi.size)), by simp [run_sizeOf' g1], ?_⟩
        obtain ⟨t1, t2⟩ := takeN_eq hl
        unfold R
        refine ⟨_, rfl, ?_, ?_⟩
        · have e : (a.extract f.offset (f.offset + fi.size)).toList = (a.toList.drop f.offset).take tf.size := by
            rw [g4]; simp [List.drop_take]
          rw [e, t1]
          have key : ∀ (n : Nat) (l : List AV) (vs : List Value), RL C N w l vs → RL C N w (l.take n) (vs.take n) := by
            intro n
            induction n with
            | zero => intro l vs _; simp only [List.take_zero]; unfold RL; trivial
            | succ n ih => intro l vs hl; cases l <;> cases vs <;> unfold RL at hl <;> first | exact hl.elim | (simp only [List.take_nil]; unfold RL; trivial) | (simp only [List.take_succ_cons]; unfold RL; exact ⟨hl.1, ih _ _ hl.2⟩)
          exact key _ _ _ hd
        · intro y hy
          refine q2 y ?_
          simp at hy
          have hm : y ∈ (a.toList.drop f.offset).take fi.size := by simpa [List.drop_take] using hy
          exact List.mem_of_mem_drop (List.mem_of_mem_take hm)
      · cases h
  obtain ⟨x, k1, k2⟩ := hp
  exact ⟨x, by simp only [Sem.run_bind, run_underlying' (h2.trans (by rw [← h3, hfs])), Result.andThen_ok, hf', asAgg, Sem.run_pure, k1], k2⟩

theorem wrapNat {n : Nat} : (Int.ofNat n).toNat = n := rfl

theorem sIndexAddr_sound {σ σ' : Sto} {t e : TypeId} {ti te : TI} (hti : tiOf P t = some ti) (hd : ti.desc = .slice e) (hte : tiOf P e = some te) {x i : AV} {X I : Value} (hx : R C N w x X) (hi : R C N w i I) {v : AV}
    (h : sIndexAddr te.size x i σ = some (v, σ')) : σ' = σ ∧ PureR P C N w (Instr.indexAt t X I) v := by
  obtain ⟨_, d, _, h2, h3, _⟩ := tiOf_spec hti
  obtain ⟨ei, _, g1, _, _, g4, _⟩ := tiOf_spec hte
  have hu := h2.trans (by rw [← h3, hd])
  unfold sIndexAddr at h
  split at h
  · rename_i k n
    unfold R at hi; subst hi
    split at h
    · rename_i a off sz len cap
      cases hb : Nat.blt n len
      · simp [hb] at h
      · simp only [hb, cond_true, forceN_eq, Option.some.injEq, Prod.mk.injEq] at h
        obtain ⟨rfl, rfl⟩ := h
        have hlt : n < len := Nat.le_of_ble_eq_true hb
        refine ⟨rfl, ?_⟩
        unfold R at hx
        obtain ⟨ad, kk, rfl, q1, q2, q3, q4⟩ := hx
        refine ⟨.pointer (some (ad.add (n * ei.size))), ?_, ?_⟩
        · unfold Instr.indexAt
          simp only [asIntOf, Sem.run_bind, Sem.run_pure, Result.andThen_ok, run_underlying' hu]
          rw [if_pos ⟨by simp, by simpa using hlt⟩]
          simp [run_sizeOf' g1]
        · unfold R
          refine ⟨_, rfl, q1, fun c o hc => ?_⟩
          rw [(q4 c o hc).1 (by omega), add_off, g4]; congr 1; omega
    · rename_i cs sz len cap
      cases hb : Nat.blt n len
      · simp [hb] at h
      · simp only [hb, cond_true, Option.some.injEq, Prod.mk.injEq] at h
        obtain ⟨rfl, rfl⟩ := h
        have hlt : n < len := Nat.le_of_ble_eq_true hb
        refine ⟨rfl, ?_⟩
        unfold R at hx
        obtain ⟨ad, kk, rfl, q2, q3, q4, q5, q6, q7⟩ := hx
        have hsp := q5 (by omega)
        obtain ⟨b, o, sp⟩ := ad
        simp only at hsp; subst hsp
        refine ⟨.pointer (some ⟨b, o + n * ei.size, none⟩), ?_, ?_⟩
        · unfold Instr.indexAt
          simp only [asIntOf, Sem.run_bind, Sem.run_pure, Result.andThen_ok, run_underlying' hu]
          rw [if_pos ⟨by simp, by simpa using hlt⟩]
          simp [run_sizeOf' g1, add_off]
        · unfold R
          rw [g4]
          exact ⟨b, _, rfl, fun hne => q6 (fun hh => hne (by rw [hh]; simp)), q7.drop _⟩
    · cases h
  · cases h

theorem sIndexAddrArr_sound {σ σ' : Sto} {t e : TypeId} {len : Nat} {ti te : TI} (hti : tiOf P t = some ti) (hd : ti.desc = .array len e) (hte : tiOf P e = some te) {x i : AV} {X I : Value} (hx : R C N w x X) (hi : R C N w i I) {v : AV}
    (h : sIndexAddrArr len te.size x i σ = some (v, σ')) : σ' = σ ∧ PureR P C N w (Instr.indexAt t X I) v := by
  obtain ⟨_, d, _, h2, h3, _⟩ := tiOf_spec hti
  obtain ⟨ei, _, g1, _, _, g4, _⟩ := tiOf_spec hte
  have hu := h2.trans (by rw [← h3, hd])
  unfold sIndexAddrArr at h
  split at h
  · rename_i k n
    unfold R at hi; subst hi
    cases hb : Nat.blt n len
    · simp [hb] at h
    · simp only [hb, cond_true] at h
      split at h
      · rename_i u hp
        cases h
        have hlt : n < len := Nat.le_of_ble_eq_true hb
        obtain ⟨ad, rfl, hr⟩ := ptrAdd_sound hx hp
        refine ⟨rfl, .pointer (some (ad.add (n * ei.size))), ?_, by rw [← g4]; exact hr⟩
        unfold Instr.indexAt
        simp only [asIntOf, Sem.run_bind, Sem.run_pure, Result.andThen_ok, run_underlying' hu, Instr.sureAddr]
        rw [if_pos ⟨by simp, by simpa using hlt⟩]
        simp [run_sizeOf' g1]
      · cases h
  · cases h

theorem bytesOf_get {s : ByteArray} {n b : Nat} (h : (bytesOf s)[n]? = some b) : ∃ u : UInt8, s[n]? = some u ∧ u.toNat = b := by
  unfold bytesOf at h
  simp only [List.getElem?_map, Option.map_eq_some_iff] at h
  obtain ⟨u, h1, h2⟩ := h
  refine ⟨u, ?_, h2⟩
  have hlt : n < s.data.toList.length := (List.getElem?_eq_some_iff.1 h1).1
  have hlt' : n < s.size := by simpa using hlt
  rw [getElem?_pos s n hlt']
  have := (List.getElem?_eq_some_iff.1 h1).2
  simp only [Array.getElem_toList] at this
  rw [← this]; rfl

theorem sIndexStr_sound {σ σ' : Sto} {t : TypeId} {ti : TI} (hti : tiOf P t = some ti) (hd : ti.desc = .string) {x i : AV} {X I : Value} (hx : R C N w x X) (hi : R C N w i I) {v : AV}
    (h : sIndexStr x i σ = some (v, σ')) : σ' = σ ∧ PureR P C N w (Instr.index t X I) v := by
  obtain ⟨_, d, _, h2, h3, _⟩ := tiOf_spec hti
  have hu := h2.trans (by rw [← h3, hd])
  unfold sIndexStr at h
  split at h
  · rename_i l k n
    split at h
    · rename_i b hb
      cases h
      unfold R at hx hi
      subst hi
      obtain ⟨s, rfl, rfl⟩ := hx
      obtain ⟨u, q1, q2⟩ := bytesOf_get hb
      refine ⟨rfl, .int .u8 u.toNat, ?_, by unfold R; rw [q2]; rfl⟩
      unfold Instr.index
      simp only [asIntOf, Sem.run_bind, Sem.run_pure, Result.andThen_ok, run_underlying' hu]
      have : (if (0 : Int) ≤ Int.ofNat n then s[(Int.ofNat n).toNat]? else none) = some u := by rw [if_pos (by simp)]; exact q1
      rw [this]
      rfl
    · cases h
  · cases h

end
end Go.AM

/- Slices cut, parts taken out, lengths, conversions: sound. -/
namespace Go.AM
open Go

section
variable {P : Program} {C : Ctx} {N : Nat} {w : World}

theorem optR {x : Option AV} {X : Option Value} (_ : ∀ v, x = some v → ∃ V, X = some V ∧ R C N w v V) (_ : x = none → X = none) : True := trivial

/- an operand that may be missing -/
def RO (C : Ctx) (N : Nat) (w : World) : Option AV → Option Value → Prop
  | none, none => True
  | some x, some v => R C N w x v
  | _, _ => False

theorem sliceBound_ok {n y : Nat} {k : IntKind} {code : BoundsCode} (h : n ≤ y) : (Instr.sliceBound (.int k (n : Int)) y code).run P w = .ok n w := by
  unfold Instr.sliceBound
  simp only [asIntOf, Sem.run_bind, Sem.run_pure, Result.andThen_ok]
  rw [if_pos ⟨by omega, by omega⟩]
  simp

/- the bounds: the model's are the machine's -/
theorem boundsA_sound {len cap k : Nat} {acap : Option Nat} (hk : len ≤ k) (hcap : ∀ q, acap = some q → k = q) {lo hi mx : Option AV} {LO HI MX : Option Value} (h1 : RO C N w lo LO) (h2 : RO C N w hi HI) (h3 : RO C N w mx MX)
    {l h : Nat} {c : Option Nat} (hb : boundsA len acap lo hi mx = some (l, h, c)) (sl : Bool) :
    ∃ m, (Instr.sliceBounds sl len k LO HI MX).run P w = .ok (l, h, m) w ∧ l ≤ h ∧ h ≤ m ∧ m ≤ k ∧ (∀ q, c = some q → m - l = q) ∧ (mx = none → m = k ∧ c = capSub acap l) := by
  have hcapOk : ∀ n, capOk len acap n = true → n ≤ k := fun n hn => by
    unfold capOk at hn
    cases hb : Nat.ble n len
    · simp only [hb, cond_false] at hn
      split at hn
      · rename_i q; have := hcap q rfl; have := Nat.le_of_ble_eq_true hn; omega
      · cases hn
    · have := Nat.le_of_ble_eq_true hb; omega
  unfold boundsA at hb
  split at hb
  · rename_i l' h' hl hh
    have hLO : (LO = none ∧ l' = 0) ∨ ∃ kk, LO = some (.int kk (l' : Int)) := by
      cases lo with
      | none =>
        cases LO with
        | none => simp at hl; exact .inl ⟨rfl, hl.symm⟩
        | some _ => unfold RO at h1; exact h1.elim
      | some v =>
        cases LO with
        | none => unfold RO at h1; exact h1.elim
        | some V =>
          unfold RO at h1
          simp only at hl
          obtain ⟨kk, rfl⟩ := natOf_spec hl h1
          exact .inr ⟨kk, rfl⟩
    have hHI : (hi = none ∧ HI = none ∧ h' = len) ∨ ∃ kk, HI = some (.int kk (h' : Int)) := by
      cases hi with
      | none =>
        cases HI with
        | none => simp at hh; exact .inl ⟨rfl, rfl, hh.symm⟩
        | some _ => unfold RO at h2; exact h2.elim
      | some v =>
        cases HI with
        | none => unfold RO at h2; exact h2.elim
        | some V =>
          unfold RO at h2
          simp only at hh
          obtain ⟨kk, rfl⟩ := natOf_spec hh h2
          exact .inr ⟨kk, rfl⟩
    split at hb
    · have hMX : MX = none := by
        cases MX with
        | none => rfl
        | some _ => unfold RO at h3; exact h3.elim
      subst hMX
      cases hc : (Nat.ble l' h' && capOk len acap h')
      · simp [hc] at hb
      · simp only [hc, cond_true, Option.some.injEq, Prod.mk.injEq] at hb
        obtain ⟨rfl, rfl, rfl⟩ := hb
        simp only [Bool.and_eq_true] at hc
        have hle := Nat.le_of_ble_eq_true hc.1
        have hk' := hcapOk h' hc.2
        refine ⟨k, ?_, hle, hk', Nat.le_refl _, fun q hq => ?_, fun _ => ⟨rfl, rfl⟩⟩
        · unfold Instr.sliceBounds
          rcases hHI with ⟨_, rfl, rfl⟩ | ⟨kk, rfl⟩ <;> rcases hLO with ⟨rfl, rfl⟩ | ⟨kk', rfl⟩ <;>
            simp only [Sem.run_bind, Sem.run_pure, Result.andThen_ok, sliceBound_ok hk', sliceBound_ok hle]
        · unfold capSub at hq
          split at hq
          · rename_i q'; cases hq; have := hcap q' rfl; omega
          · cases hq
    · rename_i mv
      split at hb
      · rename_i m hv hm
        have hMX : ∃ kk, MX = some (.int kk (m : Int)) := by
          cases MX with
          | none => unfold RO at h3; exact h3.elim
          | some V => unfold RO at h3; obtain ⟨kk, rfl⟩ := natOf_spec hm h3; exact ⟨kk, rfl⟩
        obtain ⟨k3, rfl⟩ := hMX
        cases hc : (Nat.ble l' h' && Nat.ble h' m && capOk len acap m)
        · simp [hc] at hb
        · simp only [hc, cond_true, Option.some.injEq, Prod.mk.injEq] at hb
          obtain ⟨rfl, rfl, rfl⟩ := hb
          simp only [Bool.and_eq_true] at hc
          have hle := Nat.le_of_ble_eq_true hc.1.1
          have hle' := Nat.le_of_ble_eq_true hc.1.2
          have hk' := hcapOk m hc.2
          refine ⟨m, ?_, hle, hle', hk', fun q hq => by cases hq; rfl, fun hh => by cases hh⟩
          unfold Instr.sliceBounds
          rcases hHI with ⟨hn, _, _⟩ | ⟨kk, rfl⟩
          · cases hn
          · rcases hLO with ⟨rfl, rfl⟩ | ⟨kk', rfl⟩ <;>
              simp only [Sem.run_bind, Sem.run_pure, Result.andThen_ok, sliceBound_ok hk', sliceBound_ok hle, sliceBound_ok hle']
      · cases hb
  · cases hb

theorem sSlice_sound {σ σ' : Sto} {t e : TypeId} {ti te : TI} (hti : tiOf P t = some ti) (hd : ti.desc = .slice e) (hte : tiOf P e = some te) {x : AV} {X : Value} (hx : R C N w x X) {lo hi mx : Option AV} {LO HI MX : Option Value}
    (h1 : RO C N w lo LO) (h2 : RO C N w hi HI) (h3 : RO C N w mx MX) {v : AV} (h : sSlice te.size x lo hi mx σ = some (v, σ')) : σ' = σ ∧ PureR P C N w (Instr.sliceAt t X LO HI MX) v := by
  obtain ⟨_, d, _, g2, g3, _⟩ := tiOf_spec hti
  obtain ⟨ei, _, e1, _, _, e4, _⟩ := tiOf_spec hte
  have hu := g2.trans (by rw [← g3, hd])
  unfold sSlice at h
  split at h
  · rename_i a off sz len cap
    split at h
    · rename_i hsz
      split at h
      · rename_i l hh c hb
        simp only [forceN_eq, Option.some.injEq, Prod.mk.injEq] at h
        obtain ⟨rfl, rfl⟩ := h
        refine ⟨rfl, ?_⟩
        unfold R at hx
        obtain ⟨ad, k, rfl, q1, q2, q3, q4⟩ := hx
        obtain ⟨m, b1, b2, b3, b4, b5, _⟩ := boundsA_sound (P := P) (cap := 0) q2 q3 h1 h2 h3 hb true
        have hs : sz = ei.size := by rw [← e4]; exact Nat.eq_of_beq_eq_true hsz
        refine ⟨.slice (if m = l then some ad else some (ad.add (l * ei.size))) (hh - l) (m - l), ?_, ?_⟩
        · unfold Instr.sliceAt
          simp only [Sem.run_bind, run_underlying' hu, Result.andThen_ok]
          unfold Instr.slice
          simp only [Sem.run_bind, run_underlying' hu, Result.andThen_ok, b1, run_sizeOf' e1, Sem.run_pure, Option.map_some]
        · unfold R
          refine ⟨if m = l then ad else ad.add (l * ei.size), m - l, by split <;> rfl, q1, by omega, b5, fun c' o hc => ?_⟩
          obtain ⟨q5, q6⟩ := q4 c' o hc
          refine ⟨fun hpos => ?_, ?_⟩
          · rw [if_neg (by omega), q5 (by omega), add_off, hs]; congr 1; omega
          · have : (m - l) * sz + l * sz ≤ k * sz := by rw [← Nat.add_mul]; exact Nat.mul_le_mul_right _ (by omega)
            omega
      · cases h
    · cases h
  · rename_i cs sz len cap
    split at h
    · rename_i hsz
      split at h
      · rename_i l hh c hb
        split at h
        · rename_i cs' hcs
          simp only [forceN_eq, Option.some.injEq, Prod.mk.injEq] at h
          obtain ⟨rfl, rfl⟩ := h
          refine ⟨rfl, ?_⟩
          unfold R at hx
          obtain ⟨ad, k, rfl, q2, q3, q4, q5, q6, q7⟩ := hx
          obtain ⟨m, b1, b2, b3, b4, b5, _⟩ := boundsA_sound (P := P) (cap := 0) q2 q3 h1 h2 h3 hb true
          have hs : sz = ei.size := by rw [← e4]; exact Nat.eq_of_beq_eq_true hsz
          obtain ⟨t1, t2⟩ := takeN_eq hcs
          refine ⟨.slice (if m = l then some ad else some (ad.add (l * ei.size))) (hh - l) (m - l), ?_, ?_⟩
          · unfold Instr.sliceAt
            simp only [Sem.run_bind, run_underlying' hu, Result.andThen_ok]
            unfold Instr.slice
            simp only [Sem.run_bind, run_underlying' hu, Result.andThen_ok, b1, run_sizeOf' e1, Sem.run_pure, Option.map_some]
          · have hne : cs' ≠ [] → ¬ m = l := fun hne hml => by
              apply hne
              have : hh - l = 0 := by omega
              rw [this] at t2; simp at t2; exact t2
            unfold R
            refine ⟨if m = l then ad else ad.add (l * ei.size), m - l, by split <;> rfl, by omega, b5, t2, fun hpos => ?_, fun hne' => ?_, ?_⟩
            · rw [if_neg (by omega)]
              have := q5 (by omega)
              obtain ⟨b, o, sp⟩ := ad
              simp only at this; subst this
              rw [add_off]
            · have hcs0 : cs ≠ [] := fun h0 => by
                apply hne'; rw [t1, h0]; simp
              rw [if_neg (hne hne')]
              have hlen : 0 < k := by
                rcases Nat.eq_zero_or_pos k with h0 | h0
                · exfalso; apply hne'; have : hh - l = 0 := by omega
                  rw [this] at t2; simpa using t2
                · exact h0
              have := q5 hlen
              obtain ⟨b, o, sp⟩ := ad
              simp only at this; subst this
              rw [add_off]
              exact q6 hcs0
            · by_cases hne' : cs' = []
              · rw [hne']; unfold RC; trivial
              · rw [if_neg (hne hne')]
                have hlen : 0 < k := by
                  rcases Nat.eq_zero_or_pos k with h0 | h0
                  · exfalso; apply hne'; have : hh - l = 0 := by omega
                    rw [this] at t2; simpa using t2
                  · exact h0
                have := q5 hlen
                obtain ⟨b, o, sp⟩ := ad
                simp only at this; subst this
                rw [add_off, ← hs]
                exact (q7.drop (l * sz)).take _ hcs
        · cases h
      · cases h
    · cases h
  · split at h
    · rename_i b hb
      cases h
      refine ⟨rfl, ?_⟩
      obtain ⟨l, hh, c⟩ := b
      unfold R at hx
      obtain ⟨rfl, hn⟩ := hx
      obtain ⟨m, b1, b2, b3, b4, b5, _⟩ := boundsA_sound (P := P) (cap := 0) (k := 0) (Nat.le_refl _) (fun q hq => by cases hq; rfl) h1 h2 h3 hb true
      have : hh - l = 0 ∧ m - l = 0 := by omega
      refine ⟨.slice none 0 0, ?_, by unfold R; exact ⟨rfl, hn⟩⟩
      unfold Instr.sliceAt
      simp only [Sem.run_bind, run_underlying' hu, Result.andThen_ok]
      unfold Instr.slice
      simp only [Sem.run_bind, run_underlying' hu, Result.andThen_ok, b1, run_sizeOf' e1, Sem.run_pure, Option.map_none, this.1, this.2]
      split <;> rfl
    · cases h
  · cases h

theorem bytesOf_extract (s : ByteArray) (l h : Nat) : bytesOf (s.extract l h) = ((bytesOf s).take h).drop l := by
  unfold bytesOf
  rw [List.drop_take]
  simp [ByteArray.data_extract, List.map_take, List.map_drop]

theorem sSliceStr_sound {σ σ' : Sto} {t : TypeId} {ti : TI} (hti : tiOf P t = some ti) (hd : ti.desc = .string) {x : AV} {X : Value} (hx : R C N w x X) {lo hi : Option AV} {LO HI : Option Value}
    (h1 : RO C N w lo LO) (h2 : RO C N w hi HI) {v : AV} (h : sSliceStr x lo hi σ = some (v, σ')) : σ' = σ ∧ PureR P C N w (Instr.sliceAt t X LO HI none) v := by
  obtain ⟨_, d, _, g2, g3, _⟩ := tiOf_spec hti
  have hu := g2.trans (by rw [← g3, hd])
  unfold sSliceStr at h
  split at h
  · rename_i l
    split at h
    · rename_i a b c hb
      cases h
      refine ⟨rfl, ?_⟩
      unfold R at hx
      obtain ⟨s, rfl, rfl⟩ := hx
      obtain ⟨m, b1, b2, b3, b4, b5, _⟩ := boundsA_sound (P := P) (cap := 0) (k := (bytesOf s).length) (Nat.le_refl _) (fun q hq => by cases hq; rfl) h1 h2 (show RO C N w none none by unfold RO; trivial) hb false
      rw [bytesOf_length] at b1
      refine ⟨.string (s.extract a b), ?_, by unfold R; exact ⟨_, rfl, bytesOf_extract s a b⟩⟩
      unfold Instr.sliceAt
      simp only [Sem.run_bind, run_underlying' hu, Result.andThen_ok]
      unfold Instr.slice
      simp only [Sem.run_bind, run_underlying' hu, Result.andThen_ok, Option.isSome_none, Bool.false_eq_true, if_false, b1, Sem.run_pure]
    · cases h
  · cases h

theorem sExtract_sound {σ σ' : Sto} {i : Nat} {x : AV} {X : Value} (hx : R C N w x X) {v : AV} (h : sExtract i x σ = some (v, σ')) : σ' = σ ∧ PureR P C N w (Instr.extract X i) v := by
  unfold sExtract at h
  split at h
  · split at h
    · rename_i vs u hu
      cases h
      unfold R at hx
      obtain ⟨a, rfl, q⟩ := hx
      obtain ⟨z, k1, k2⟩ := q.get i _ hu
      have : a[i]? = some z := by simpa using k1
      exact ⟨rfl, z, by simp [Instr.extract, this], k2⟩
    · cases h
  · cases h

theorem sNilCheck_sound {σ σ' : Sto} {x : AV} {X : Value} (hx : R C N w x X) {v : AV} (h : sNilCheck x σ = some (v, σ')) (dst : Option Tmp) (o : Operand) (ρ : Operand → Value) (hρ : ρ o = X) (ty : TypeId) (pos : String) (after : Array Edge) (g : Option (Nat × Bool)) :
    σ' = σ ∧ (execOp ρ ⟨dst, .nilCheck o, ty, pos, after, g⟩).run P w = .ok (.value X) w ∧ R C N w v X := by
  unfold sNilCheck at h
  split at h
  · cases h
    refine ⟨rfl, ?_, hx⟩
    unfold R at hx
    obtain ⟨ad, rfl, _⟩ := hx
    simp [execOp, hρ]
  · cases h
    refine ⟨rfl, ?_, hx⟩
    unfold R at hx
    obtain ⟨c, o', rfl, _⟩ := hx
    simp [execOp, hρ]
  · cases h
    refine ⟨rfl, ?_, hx⟩
    unfold R at hx
    obtain ⟨a, b, rfl, _⟩ := hx
    simp [execOp, hρ]
  · cases h


theorem sSliceArr_sound {σ σ' : Sto} {t e : TypeId} {n : Nat} {ti te : TI} (hti : tiOf P t = some ti) (hd : ti.desc = .array n e) (hte : tiOf P e = some te) {x : AV} {X : Value} (hx : R C N w x X) (hsim : ∀ a vs, σ.get a = some (.cells vs) → vs ≠ [] → ∃ c o, C.loc a = some (c, o) ∧ o + vs.length ≤ csize w c)
    {lo hi mx : Option AV} {LO HI MX : Option Value}
    (h1 : RO C N w lo LO) (h2 : RO C N w hi HI) (h3 : RO C N w mx MX) {v : AV} (h : sSliceArr n te.size x lo hi mx σ = some (v, σ')) : σ' = σ ∧ PureR P C N w (Instr.sliceAt t X LO HI MX) v := by
  obtain ⟨_, d, _, g2, g3, _⟩ := tiOf_spec hti
  obtain ⟨ei, _, e1, _, _, e4, _⟩ := tiOf_spec hte
  have hu := g2.trans (by rw [← g3, hd])
  unfold sSliceArr at h
  split at h
  · rename_i a off
    split at h
    · rename_i vs hvs
      split at h
      · rename_i hroom
        split at h
        · rename_i l hh c hb
          simp only [forceN_eq, Option.some.injEq, Prod.mk.injEq] at h
          obtain ⟨rfl, rfl⟩ := h
          refine ⟨rfl, ?_⟩
          unfold R at hx
          obtain ⟨ad, rfl, q1, q4⟩ := hx
          obtain ⟨m, b1, b2, b3, b4, b5, _⟩ := boundsA_sound (P := P) (cap := 0) (k := n) (Nat.le_refl _) (fun q hq => by cases hq; rfl) h1 h2 h3 hb false
          refine ⟨.slice (some (if m = l then ad else ad.add (l * ei.size))) (hh - l) (m - l), ?_, ?_⟩
          · unfold Instr.sliceAt
            simp only [Sem.run_bind, run_underlying' hu, Result.andThen_ok, Instr.sureAddr, b1, run_sizeOf' e1, Sem.run_pure]
          · unfold R
            refine ⟨_, m - l, rfl, q1, by omega, b5, fun c' o hc => ⟨fun hpos => ?_, ?_⟩⟩
            · rw [if_neg (by omega), q4 c' o hc, add_off, e4]; congr 1; omega
            · unfold Sto.cells at hvs
              split at hvs
              · rename_i vs' hg
                cases hvs
                rw [Bool.and_eq_true] at hroom
                obtain ⟨hne, hroom⟩ := hroom
                obtain ⟨c2, o2, k1, k2⟩ := hsim a _ hg (fun h0 => by rw [h0] at hne; cases hne)
                rw [hc] at k1; cases k1
                have hr := Nat.le_of_ble_eq_true hroom
                have : (m - l) * te.size + l * te.size ≤ n * te.size := by rw [← Nat.add_mul]; exact Nat.mul_le_mul_right _ (by omega)
                omega
              · cases hvs
        · cases h
      · cases h
    · cases h
  · cases h

theorem RC.room : ∀ {vs : List AV} {c o : Nat}, RC C N w c vs o → vs ≠ [] → o + vs.length ≤ csize w c
  | [x], c, o, h, _ => by
    unfold RC at h
    obtain ⟨⟨v, h1, _⟩, _⟩ := h
    unfold World.cell? at h1
    unfold csize
    split at h1
    · rename_i cs _ _ heq
      simp only [heq]
      simp only [Option.isSome_none, Bool.false_eq_true, if_false] at h1
      have := (Array.getElem?_eq_some_iff.1 h1).1
      simp only [List.length_singleton]
      omega
    · cases h1
  | x :: y :: r, c, o, h, _ => by
    unfold RC at h
    have := RC.room h.2 (by simp)
    simp only [List.length_cons] at *
    omega

theorem sAssert_sound {σ σ' : Sto} {t xt : TypeId} {ti : TI} (hti : tiOf P t = some ti) (hd : ∀ m, ti.desc ≠ .interface m) {ok : Bool} {x : AV} {X : Value} (hx : R C N w x X) {v : AV} (h : sAssert t (zeroOf ti) ok x σ = some (v, σ')) :
    σ' = σ ∧ PureR P C N w (Instr.typeAssert X xt t ok) v := by
  obtain ⟨i, d, g1, g2, g3, g4, _, g6, g7⟩ := tiOf_spec hti
  have hnd : ∀ m, d ≠ .interface m := fun m => by rw [← g3]; exact hd m
  have fails : ok = true → ∀ z, zeroOf ti = some z → (∃ u y, X = .iface u y ∧ u ≠ t) ∨ X = .nilIface → PureR P C N w (Instr.typeAssert X xt t ok) (.tup [z, .bool false]) := by
    intro hok z hz hX
    subst hok
    obtain ⟨Z, q1, q2⟩ := zeroOf_sound (P := P) (C := C) (N := N) (w := w) hti hz
    refine ⟨.tuple #[Z, .bool false], ?_, by unfold R; exact ⟨_, rfl, by unfold RL; exact ⟨q2, by unfold RL; exact ⟨by unfold R; rfl, by unfold RL; trivial⟩⟩⟩⟩
    unfold Instr.typeAssert
    simp only [Sem.run_bind, run_underlying' g2, Result.andThen_ok]
    rcases hX with ⟨u, y, rfl, hne⟩ | rfl
    · cases d <;> first | (exact absurd rfl (hnd _)) | simp [hne, q1]
    · cases d <;> first | (exact absurd rfl (hnd _)) | simp [q1]
  unfold sAssert at h
  split at h
  · rename_i t' y
    unfold R at hx
    obtain ⟨Y, rfl, hy⟩ := hx
    split at h
    · rename_i ht
      have ht := Nat.eq_of_beq_eq_true ht
      subst ht
      cases h
      refine ⟨rfl, ?_⟩
      cases ok
      · refine ⟨Y, ?_, hy⟩
        unfold Instr.typeAssert
        simp only [Sem.run_bind, run_underlying' g2, Result.andThen_ok]
        cases d <;> first | (exact absurd rfl (hnd _)) | simp
      · refine ⟨.tuple #[Y, .bool true], ?_, by simp only [okOut]; unfold R; exact ⟨_, rfl, by unfold RL; exact ⟨hy, by unfold RL; exact ⟨by unfold R; rfl, by unfold RL; trivial⟩⟩⟩⟩
        unfold Instr.typeAssert
        simp only [Sem.run_bind, run_underlying' g2, Result.andThen_ok]
        cases d <;> first | (exact absurd rfl (hnd _)) | simp
    · rename_i ht
      split at h
      · rename_i z hz
        cases h
        exact ⟨rfl, fails rfl z hz (.inl ⟨t', Y, rfl, fun he => by rw [he] at ht; simp at ht⟩)⟩
      · cases h
  · unfold R at hx
    obtain ⟨rfl, _⟩ := hx
    split at h
    · rename_i z hz
      cases h
      exact ⟨rfl, fails rfl z hz (.inr rfl)⟩
    · cases h
  · cases h

end
end Go.AM

/- Operations that make or turn cells: sound. -/
namespace Go.AM
open Go

section
variable {P : Program} {C C' : Ctx} {N N' : Nat} {w w' : World}

theorem RL.of_get : ∀ {l : List AV} {vs : List Value}, l.length = vs.length → (∀ (i : Nat) (x : AV), l[i]? = some x → ∃ v, vs[i]? = some v ∧ R C N w x v) → RL C N w l vs
  | [], [], _, _ => by unfold RL; trivial
  | x :: r, v :: s, hl, h => by
    unfold RL
    obtain ⟨v', h1, h2⟩ := h 0 x rfl
    simp at h1; subst h1
    exact ⟨h2, RL.of_get (by simpa using hl) fun i y hy => by have := h (i + 1) y (by simpa using hy); simpa using this⟩
  | [], _ :: _, hl, _ => by simp at hl
  | _ :: _, [], hl, _ => by simp at hl

theorem RC.of_get : ∀ {cs : List AV} {c o : Nat}, (∀ (i : Nat) (x : AV), cs[i]? = some x → ∃ v, w.cell? ⟨c, o + i, none⟩ = some v ∧ v.oneCell = true ∧ R C N w x v) → RC C N w c cs o
  | [], _, _, _ => by unfold RC; trivial
  | x :: r, c, o, h => by
    unfold RC
    exact ⟨h 0 x rfl, RC.of_get fun i y hy => by have := h (i + 1) y (by simpa using hy); rwa [show o + 1 + i = o + (i + 1) by omega]⟩

theorem setAt_spec : ∀ {l : List AV} {off : Nat} {xs l' : List AV}, setAt l off xs = some l' →
    l'.length = l.length ∧ off + xs.length ≤ l.length ∧ ∀ j : Nat, l'[j]? = if off ≤ j ∧ j < off + xs.length then xs[j - off]? else l[j]?
  | l, 0, [], l', h => by
    have : l = l' := by cases l <;> simpa [setAt] using h
    subst this
    exact ⟨rfl, by simp, fun j => by rw [if_neg (by simp)]⟩
  | y :: r, 0, x :: xs, l', h => by
    simp only [setAt] at h
    split at h
    · rename_i m hm
      cases h
      obtain ⟨h1, h2, h3⟩ := setAt_spec hm
      refine ⟨by simp [h1], by simp at h2 ⊢; omega, fun j => ?_⟩
      cases j with
      | zero => rw [if_pos (by simp)]; rfl
      | succ j =>
        have := h3 j
        simp only [List.getElem?_cons_succ, this]
        simp only [List.length_cons]
        by_cases hj : j < xs.length
        · rw [if_pos (by omega), if_pos (by omega)]; simp
        · rw [if_neg (by omega), if_neg (by omega)]
    · cases h
  | y :: r, k + 1, xs, l', h => by
    have h' : ∃ m, setAt r k xs = some m ∧ y :: m = l' := by
      cases xs with
      | nil =>
        simp only [setAt] at h
        cases hm : setAt r k [] with
        | none => rw [hm] at h; cases h
        | some m => rw [hm] at h; simp only [Option.some.injEq] at h; exact ⟨m, rfl, h⟩
      | cons x xs =>
        simp only [setAt] at h
        cases hm : setAt r k (x :: xs) with
        | none => rw [hm] at h; cases h
        | some m => rw [hm] at h; simp only [Option.some.injEq] at h; exact ⟨m, rfl, h⟩
    obtain ⟨m, hm, he⟩ := h'
    subst he
    · obtain ⟨h1, h2, h3⟩ := setAt_spec hm
      refine ⟨by simp [h1], by simp; omega, fun j => ?_⟩
      cases j with
      | zero => rw [if_neg (by omega)]; rfl
      | succ j =>
        simp only [List.getElem?_cons_succ, h3 j]
        by_cases hj : k ≤ j ∧ j < k + xs.length
        · rw [if_pos hj, if_pos (by omega), show j + 1 - (k + 1) = j - k by omega]
        · rw [if_neg hj, if_neg (by omega)]
  | [], 0, x :: xs, l', h => by simp [setAt] at h
  | [], k + 1, xs, l', h => by cases xs <;> simp [setAt] at h

theorem RL.set {l xs l' : List AV} {off : Nat} {cs : Array Value} {vs : List Value} (h : RL C N w l cs.toList) (hx : RL C N w xs vs) (hs : setAt l off xs = some l') : RL C N w l' (putL cs off vs).toList ∧ off + vs.length ≤ cs.size := by
  obtain ⟨h1, h2, h3⟩ := setAt_spec hs
  have hl := h.length
  have hxl := hx.length
  have hle : off + vs.length ≤ cs.size := by rw [← hxl]; simp at hl; omega
  refine ⟨RL.of_get (by rw [h1, hl]; simp [putL_size]) fun i x hi => ?_, hle⟩
  rw [h3 i] at hi
  rw [Array.getElem?_toList, putL_get vs cs off hle]
  by_cases hc : off ≤ i ∧ i < off + xs.length
  · rw [if_pos hc] at hi
    rw [if_pos (by omega)]
    exact hx.get _ x hi
  · rw [if_neg hc] at hi
    rw [if_neg (by omega), ← Array.getElem?_toList]
    exact h.get i x hi

theorem putL_mem {vs : List Value} {cs : Array Value} {off : Nat} (h : ∀ x ∈ cs.toList, x.oneCell = true) (hv : ∀ x ∈ vs, x.oneCell = true) (hle : off + vs.length ≤ cs.size) : ∀ x ∈ (putL cs off vs).toList, x.oneCell = true := by
  intro x hx
  obtain ⟨i, hi⟩ := List.mem_iff_getElem?.1 hx
  rw [Array.getElem?_toList, putL_get vs cs off hle] at hi
  split at hi
  · exact hv x (List.mem_of_getElem? hi)
  · exact h x (by rw [← Array.getElem?_toList] at hi; exact List.mem_of_getElem? hi)

/- ===== parts filled in ===== -/
theorem foldl_putL (l : List Value) : ∀ (off k : Nat) (cs : Array Value), ((l.zipIdx k).foldl (fun cs (x : Value × Nat) => cs.setIfInBounds (off + x.2) x.1) cs) = putL cs (off + k) l := by
  induction l with
  | nil => intro off k cs; rfl
  | cons v r ih =>
    intro off k cs
    simp only [List.zipIdx_cons, List.foldl_cons, putL]
    rw [ih off (k + 1)]
    rfl

def Parts (C : Ctx) (N : Nat) (w : World) (place : Nat → Option (Nat × Nat)) : List (Nat × Nat × AV) → List (Nat × Value) → Prop
  | [], [] => True
  | x :: r, p :: s => (place p.1 = some (x.1, x.2.1) ∧ R C N w x.2.2 p.2) ∧ Parts C N w place r s
  | _, _ => False

theorem fill_sound {place : Nat → Option (Nat × Nat)} : ∀ {ps : List (Nat × Nat × AV)} {vs : List (Nat × Value)} {l l' : List AV} {cs : Array Value}, Parts C N w place ps vs → RL C N w l cs.toList → (∀ x ∈ cs.toList, x.oneCell = true) → fillA l ps = some l' →
    ∃ cs', Instr.fill place cs vs = some cs' ∧ RL C N w l' cs'.toList ∧ (∀ x ∈ cs'.toList, x.oneCell = true) ∧ cs'.size = cs.size
  | [], [], l, l', cs, _, h1, h2, h => by
    simp only [fillA, Option.some.injEq] at h; subst h
    exact ⟨cs, rfl, h1, h2, rfl⟩
  | x :: r, p :: s, l, l', cs, hp, h1, h2, h => by
    obtain ⟨off, size, v⟩ := x
    obtain ⟨i, V⟩ := p
    unfold Parts at hp
    obtain ⟨⟨hp1, hp2⟩, hp3⟩ := hp
    simp only [fillA] at h
    split at h
    · rename_i m hm
      split at h
      · rename_i l1 hl1
        obtain ⟨q1, q2, q3, q4⟩ := cellsN_sound hm hp2
        obtain ⟨k1, k2⟩ := h1.set q1 hl1
        obtain ⟨cs', g1, g2, g3, g4⟩ := fill_sound hp3 k1 (putL_mem h2 q4 k2) h
        refine ⟨cs', ?_, g2, g3, by rw [g4, putL_size]⟩
        have hsz : V.cells.toList.length = V.cells.size := by simp
        simp only [Instr.fill, hp1]
        rw [if_neg (by simp; exact ⟨q2, by omega⟩)]
        rw [← g1]
        congr 1
        have := foldl_putL V.cells.toList off 0 cs
        rw [Nat.add_zero] at this
        rw [← this, ← Array.foldl_toList]
        congr 1
        simp
      · cases h
    · cases h
  | [], _ :: _, _, _, _, hp, _, _, _ => by unfold Parts at hp; exact hp.elim
  | _ :: _, [], _, _, _, hp, _, _, _ => by unfold Parts at hp; exact hp.elim

end
end Go.AM

/- Operations that make new cells: sound. -/
namespace Go.AM
open Go

section
variable {P : Program} {C C' : Ctx} {N N' : Nat} {w w' : World} {σ σ' : Sto}

theorem cell_cells {c o : Nat} {cs : Array Value} {T : TypeId} {fz : Nat × Nat} (h : w.heap[c]? = some (.cells cs T fz)) : w.cell? ⟨c, o, none⟩ = cs[o]? := by
  unfold World.cell?; simp [h]

theorem csize_cells {c : Nat} {cs : Array Value} {T : TypeId} {fz : Nat × Nat} (h : w.heap[c]? = some (.cells cs T fz)) : csize w c = cs.size := by
  unfold csize; simp [h]

theorem RC.of_cells {c o : Nat} {cs : Array Value} {T : TypeId} {fz : Nat × Nat} {l : List AV} {vs : List Value} (hh : w.heap[c]? = some (.cells cs T fz)) (h : RL C N w l vs) (h1 : ∀ x ∈ vs, x.oneCell = true)
    (hv : ∀ (i : Nat) (v : Value), vs[i]? = some v → cs[o + i]? = some v) : RC C N w c l o := by
  refine RC.of_get fun i x hi => ?_
  obtain ⟨v, k1, k2⟩ := h.get i x hi
  exact ⟨v, (cell_cells hh).trans (hv i v k1), h1 v (List.mem_of_getElem? k1), k2⟩

/- a row of cells is made -/
theorem newCells (hs : Sim P C w σ) {cs : Array Value} {T : TypeId} {l : List AV} {vs : List Value} (p : Pu w w' (.cells cs T (0, 0))) (h : RL C (nx σ) w l vs) (h1 : ∀ x ∈ vs, x.oneCell = true)
    (hv : ∀ (i : Nat) (v : Value), vs[i]? = some v → cs[i]? = some v) :
    Sim P (C.add (nx σ) w.heap.size 0) w' (σ.new (.cells l)) ∧ Ext C (nx σ) w (C.add (nx σ) w.heap.size 0) (nx σ + 1) w' := by
  refine hs.new p (.cells l) rfl fun e => ?_
  refine ⟨w.heap.size, 0, cs, T, by simp [Ctx.add], p.here, ?_⟩
  rw [nx_new]
  exact RC.of_cells p.here (h.ext e) h1 fun i v hi => by rw [Nat.zero_add]; exact hv i v hi

theorem R.newPtr {c o N : Nat} {a : Nat} (ha : a < N) (hl : C.loc a = some (c, o)) : R C N w (.pr a 0) (.pointer (some ⟨c, o, none⟩)) := by
  unfold R
  refine ⟨_, rfl, ha, fun c' o' hc => ?_⟩
  rw [hl] at hc; cases hc; simp

theorem R.newSlice {c o N len k sz : Nat} {a : Nat} {cap : Option Nat} (ha : a < N) (hl : C.loc a = some (c, o)) (h1 : len ≤ k) (h2 : ∀ q, cap = some q → k = q) (h3 : o + k * sz ≤ csize w c) :
    R C N w (.sr a 0 sz len cap) (.slice (some ⟨c, o, none⟩) len k) := by
  unfold R
  refine ⟨_, k, rfl, ha, h1, h2, fun c' o' hc => ?_⟩
  rw [hl] at hc; cases hc
  exact ⟨fun _ => by simp, by omega⟩

theorem Ctx.add_loc (C : Ctx) (a c o : Nat) : (C.add a c o).loc a = some (c, o) := by simp [Ctx.add]

theorem pu_push (w : World) (O : Obj) : Pu w { w with heap := w.heap.push O } O := Pu.of_push rfl ⟨rfl, rfl⟩
theorem pu_drew (w : World) (O : Obj) : Pu w { w with heap := w.heap.push O, drawn := w.drawn + 1 } O := Pu.of_push rfl ⟨rfl, rfl⟩

theorem run_zeroValue' {t : TypeId} {i : TypeInfo} {z : Value} (h : P.info? t = some i) (hz : i.zero = some z) (w : World) : (zeroValue t).run P w = .ok z w := by
  unfold zeroValue; simp [run_typeInfo' h, hz]

theorem sAlloc_sound (hs : Sim P C w σ) {t : TypeId} {ti : TI} (hti : tiOf P t = some ti) {z : List AV} (hz : ti.zero = some z) {v : AV} (h : sAlloc z σ = some (v, σ')) : RunsV P C w σ (Instr.alloc t true (.tuple #[])) v σ' := by
  obtain ⟨i, d, g1, g2, g3, g4, _, g6, g7⟩ := tiOf_spec hti
  rw [g6] at hz
  obtain ⟨Z, q1, q2, q3, _, _⟩ := zeroA_spec (C := C) (w := w) (N := nx σ) hz
  unfold sAlloc at h
  cases h
  have p := pu_push w (.cells Z.cells t (0, 0))
  obtain ⟨k1, k2⟩ := newCells hs p q2 q3 (fun i v hi => by rwa [Array.getElem?_toList] at hi)
  refine ⟨_, _, _, _, ?_, rfl, k1, by rw [nx_new]; exact k2, by rw [nx_new]; exact R.newPtr (Nat.lt_succ_self _) (Ctx.add_loc ..)⟩
  unfold Instr.alloc
  simp [run_zeroValue' g1 q1, newVar, newRow]

theorem sBox_sound (hs : Sim P C w σ) {t : TypeId} {n : Nat} {x : AV} {X : Value} (hx : R C (nx σ) w x X) {v : AV} (h : sBox n x σ = some (v, σ')) : RunsV P C w σ (Instr.box t X) v σ' := by
  unfold sBox at h
  split at h
  · rename_i cs hcs
    cases h
    obtain ⟨q1, q2, q3, q4⟩ := cellsN_sound hcs hx
    have p := pu_push w (.cells X.cells t (0, 0))
    obtain ⟨k1, k2⟩ := newCells hs p q1 q4 (fun i v hi => by rwa [Array.getElem?_toList] at hi)
    refine ⟨_, _, _, _, ?_, rfl, k1, by rw [nx_new]; exact k2, by rw [nx_new]; exact R.newPtr (Nat.lt_succ_self _) (Ctx.add_loc ..)⟩
    unfold Instr.box
    simp [newVar, newRow]
  · cases h

/- ===== copies of a zero value ===== -/
theorem rep_length (z : List AV) : ∀ n, (rep z n).length = n * z.length
  | 0 => by simp [rep]
  | n + 1 => by simp [rep, rep_length z n, Nat.succ_mul]; omega

theorem rep_get (z : List AV) (hz : 0 < z.length) : ∀ (n i : Nat) (x : AV), (rep z n)[i]? = some x → z[i % z.length]? = some x
  | 0, i, x, h => by simp [rep] at h
  | n + 1, i, x, h => by
    simp only [rep] at h
    by_cases hi : i < z.length
    · rw [List.getElem?_append_left hi] at h
      rw [Nat.mod_eq_of_lt hi]; exact h
    · rw [List.getElem?_append_right (by omega)] at h
      have := rep_get z hz n _ x h
      rw [Nat.mod_eq_sub_mod (by omega)]; exact this

theorem RL.rep {z : List AV} {zc : Array Value} (h : RL C N w z zc.toList) (n : Nat) : RL C N w (rep z n) ((Array.range (n * zc.size)).map (zc[· % zc.size]!)).toList := by
  have hl := h.length
  have hl' : z.length = zc.size := by simpa using hl
  refine RL.of_get (by rw [rep_length]; simp [hl']) fun i x hi => ?_
  have hb := (List.getElem?_eq_some_iff.1 hi).1
  rw [rep_length] at hb
  have hz : 0 < z.length := by
    rcases Nat.eq_zero_or_pos z.length with h0 | h0
    · rw [h0] at hb; omega
    · exact h0
  obtain ⟨v, k1, k2⟩ := h.get _ _ (rep_get z hz n i x hi)
  refine ⟨v, ?_, k2⟩
  rw [hl'] at k1 hb
  have k1' : zc[i % zc.size]? = some v := by simpa using k1
  simp only [Array.toList_map, List.getElem?_map, Array.getElem?_toList, Array.getElem?_range]
  simp [hb, getElem!_def, k1']

theorem rep_oneCell {zc : Array Value} (h : ∀ x ∈ zc.toList, x.oneCell = true) (n : Nat) : ∀ x ∈ ((Array.range (n * zc.size)).map (zc[· % zc.size]!)).toList, x.oneCell = true := by
  intro x hx
  simp only [Array.toList_map, List.mem_map] at hx
  obtain ⟨i, h1, rfl⟩ := hx
  have hi : i < n * zc.size := by simpa using h1
  have hz : 0 < zc.size := by
    rcases Nat.eq_zero_or_pos zc.size with h0 | h0
    · rw [h0] at hi; omega
    · exact h0
  have hm : i % zc.size < zc.size := Nat.mod_lt _ hz
  rw [getElem!_pos zc _ hm]
  exact h _ (by simp)

end
end Go.AM
