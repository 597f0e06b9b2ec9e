/- A part of the proof; shortened by program. -/
import Derived.KernelRfl
import Derived.Test.YtcnkdbldfpaebaaGreatDoorChecked
import Derived.Test.YtcnkdbldfpaebaaGreatDoorP06
set_option maxRecDepth 100000
set_option maxHeartbeats 4000000
set_option linter.unusedSimpArgs false
set_option linter.unusedVariables false
namespace Go.AM
open Go
section
variable {E : Env} {tm tm' : Tr AV} {J J' : Sto}
theorem Iz : ∀ {l : List Operand},(∀ x ∈ l,opd E tm x = opd E tm' x) -> opds E tm l = opds E tm' l
 | [],_ => rfl
 | x :: r,h => by simp only [opds,h x (by simp),Iz fun y hy => h y (ak_ _ hy)]
theorem Rs {P : Program} {fs : List Field} : ∀ {l : List (Nat × Operand)},(∀ x ∈ l.map (·.2),opd E tm x = opd E tm' x) -> I7 P E tm fs l = I7 P E tm' fs l
 | [],_ => rfl
 | (i,x) :: r,h => by
  simp only [I7,h x (by simp),Rs (l := r) fun y hy => h y (ak_ _ hy)]
theorem Lu {n : Nat} : ∀ {l : List (Nat × Operand)},(∀ x ∈ l.map (·.2),opd E tm x = opd E tm' x) -> H2 E tm n l = H2 E tm' n l
 | [],_ => rfl
 | (i,x) :: r,h => by
  simp only [H2,h x (by simp),Lu (l := r) fun y hy => h y (ak_ _ hy)]
theorem W2 {op : Op} (h : ∀ x ∈ op.operands,opd E tm x = opd E tm' x) : Bd E op tm J = Bd E op tm' J := by
 cases op <;> simp only [Op.operands] at h <;> simp only [Bd]
 case build t ps =>
  have h' : ∀ x ∈ ps.toList.map (·.2),opd E tm x = opd E tm' x := fun x hx => h x (by simpa using hx)
  simp only [Rs h',Lu h']
 case buildSlice t n ps =>
  have h' : ∀ x ∈ ps.toList.map (·.2),opd E tm x = opd E tm' x := fun x hx => h x (by simpa using hx)
  simp only [Lu h']
 case makeFunc f first cap =>
  rw [Iz (l := first.toList) fun x hx => h x (by simp at hx; simp [hx]),Iz (l := cap.toList) fun x hx => h x (by simp at hx; simp [hx])]
 case makeMap t r =>
  cases hti : Bf E.P t with
  | none => rfl
  | some ti =>
   obtain ⟨d,n,b,z,g⟩ := ti;cases r with
   | none => cases d <;> rfl
   | some x => cases d <;> first | rfl | simp only [h x (by simp)]
 case slice t x lo hi mx => cases lo <;> cases hi <;> cases mx <;> simp_all [opdO]
 case call c =>
  have h' : opds E tm c.args.toList = opds E tm' c.args.toList := Iz fun x hx => h x (by simp [Call.operands]; right; simpa using hx)
  cases hc : c.callee with
  | builtin b =>
   simp only;cases hx : c.args.toList with
   | nil => cases c.argTypes.toList <;> rfl
   | cons y ys =>
    rw [hx] at h';simp only [opds,de_] at h';cases c.argTypes.toList with
    | nil => rfl
    | cons t ts => simp only [h'.1,h'.2]
  | value f => rfl
  | invoke r m => rfl
 all_goals (first | rfl | (simp_all; done))
theorem Ab4 {Rr : Rec} {op : Op} (h : ∀ x ∈ op.operands,opd E tm x = opd E tm' x) : opA E op Rr tm J = opA E op Rr tm' J := by
 cases op
 case call c =>
  cases hc : c.callee with
  | value f =>
   simp only [opA,hc]
   rw [h f (by simp [Op.operands,Call.operands,hc]),Iz (l := c.args.toList) fun x hx => h x (by simp [Op.operands,Call.operands,hc]; right; simpa using hx)]
  | builtin b => simp only [opA,hc]; exact W2 h
  | invoke r m =>
   simp only [opA,hc]
   rw [h r (by simp [Op.operands,Call.operands,hc]),Iz (l := c.args.toList) fun x hx => h x (by simp [Op.operands,Call.operands,hc]; right; simpa using hx)]
 all_goals (simp only [opA]; exact W2 h)
def F0 (f : Sto -> Res) : Prop := ∀ J J' v,f J = some (v,J') -> J' = J /\ ∀ τ,f τ = some (v,τ)
theorem F0.const (r : Option AV) : F0 fun J => match r with | some v => some (v,J) | none => none := by
 intro J J' v h;cases r with
 | none => cases h
 | some u => cases h; exact ⟨rfl,fun _ => rfl⟩
theorem F0.none : F0 fun _ => Option.none := fun _ _ _ h => by cases h
abbrev as_ := @F0.none
theorem F0.some (v : AV) : F0 fun J => Option.some (v,J) := fun _ _ _ h => by cases h; exact ⟨rfl,fun _ => rfl⟩
abbrev cb_ := @F0.some
theorem Ab5 (x : AV) : F0 (Ym x) := cb_ x
theorem Aon (t : Nat) (x : AV) : F0 (sIfc t x) := cb_ _
theorem Amk (f : Fn) (a b : List AV) : F0 (Akb f a b) := cb_ _
theorem Aml (c a b : AV) : F0 (Abt c a b) := by
 unfold Abt; split
 ·exact cb_ _
 ·exact cb_ _
 ·exact as_
theorem Abi (x : AV) : F0 (Iv x) := by
 unfold Iv; split
 ·exact cb_ _
 ·exact cb_ _
 ·exact cb_ _
 ·exact as_
theorem Afv (r : Option AV) : F0 (Yk r) := by
 unfold Yk; split
 ·exact cb_ _
 ·exact as_
theorem Zh (z : List AV) (ps : List (Nat × Nat × AV)) : F0 (Ls z ps) := by
 unfold Ls; split
 ·exact cb_ _
 ·exact as_
theorem Xy (z : List AV) (size len : Nat) (ps : List (Nat × Nat × AV)) : F0 (Ho z size len false ps) := by
 unfold Ho; split
 ·exact cb_ _
 ·exact as_
theorem Aoo (n : Nat) (x : AV) : F0 (An5 n x) := by
 unfold An5; split
 ·exact cb_ _
 ·exact as_
theorem Aiu (ti : TI) (n : Nat) (x : AV) : F0 (Adm ti n x) := by
 unfold Adm; split
 ·split
  ·exact cb_ _
  ·exact as_
 ·exact as_
theorem Kj (b : Bool) {f g : Sto -> Res} (hf : F0 f) (hg : F0 g) : F0 fun J => cond b (f J) (g J) := by
 cases b
 ·exact hg
 ·exact hf
theorem Zi (n : Nat) (x i : AV) : F0 (Ha n x i) := by
 unfold Ha; split
 ·split
  ·simp only [Av]; exact Kj _ (cb_ _) as_
  ·exact Kj _ (cb_ _) as_
  ·exact as_
 ·exact as_
theorem Tv (l n : Nat) (x i : AV) : F0 (Fp l n x i) := by
 unfold Fp; split
 ·exact Kj _ (F0.const _) as_
 ·exact as_
theorem Abj (x i : AV) : F0 (Kh x i) := by
 unfold Kh; split
 ·split
  ·exact cb_ _
  ·exact as_
 ·exact as_
theorem Abk (te : TI) (l : Nat) (x i : AV) : F0 (Ki te l x i) := by
 unfold Ki; split
 ·exact Kj _ (F0.const _) as_
 ·exact as_
theorem Rt (x : AV) (lo hi : Option AV) : F0 (L4 x lo hi) := by
 unfold L4; split
 ·split
  ·exact cb_ _
  ·exact as_
 ·exact as_
theorem Zj (n : Nat) (x : AV) (lo hi mx : Option AV) : F0 (Ms n x lo hi mx) := by
 unfold Ms; split
 ·split
  ·split
   ·simp only [Av]; exact cb_ _
   ·exact as_
  ·exact as_
 ·split
  ·split
   ·split
    ·simp only [Av]; exact cb_ _
    ·exact as_
   ·exact as_
  ·exact as_
 ·split
  ·exact cb_ _
  ·exact as_
 ·exact as_
theorem Ad9 (i : Nat) (x : AV) : F0 (L5 i x) := by
 unfold L5; split
 ·split
  ·exact cb_ _
  ·exact as_
 ·exact as_
theorem Afw (t : Nat) (z : Option AV) (ok : Bool) (x : AV) : F0 (Mu t z ok x) := by
 unfold Mu; split
 ·split
  ·exact cb_ _
  ·split
   ·exact cb_ _
   ·exact as_
 ·split
  ·exact cb_ _
  ·exact as_
 ·exact as_
theorem Aop (x : AV) : F0 (Jn x) := by
 unfold Jn; split
 ·exact cb_ _
 ·exact cb_ _
 ·exact cb_ _
 ·exact as_
theorem Afx (f : Int -> Int -> Int) (x y : AV) : F0 (Yo f x y) := by
 unfold Yo; split
 ·exact Kj _ (cb_ _) as_
 ·exact as_
theorem Amm (x y z : AV) : F0 (Afe x y z) := by
 unfold Afe; split
 ·exact Kj _ (cb_ _) as_
 ·exact as_
theorem Ab6 {op : Op} (hc : By E op = .pure) : F0 (Bd E op tm) := by
 show F0 fun J => Bd E op tm J
 cases op <;> simp only [By] at hc <;> try (cases hc; done)
 case move x => exact Ab5 _
 case assign x => exact Ab5 _
 case pick c a b => exact Aml _ _ _
 case nilCheck x => exact Abi _
 case build t ps =>
  simp only [Bd]; split
  ·split
   ·split
    ·exact Zh _ _
    ·exact as_
   ·split
    ·exact Zh _ _
    ·exact as_
   ·exact as_
  ·exact as_
 case buildSlice t n ps =>
  simp only [Bd]
  split at hc
  ·rename_i ti hti
   split at hc
   ·rename_i e hd
    split at hc
    ·cases hc
    ·rename_i hb
     split
     ·split
      ·split
       ·rw [hb]; exact Xy _ _ _ _
       ·exact as_
      ·exact as_
     ·exact as_
   ·cases hc
  ·cases hc
 case binOp op t x y _ => exact Afv _
 case unOp op t x => exact Afv _
 case makeInterface t x =>
  simp only [Bd]; split
  ·split
   ·exact as_
   ·exact Aon _ _
  ·exact as_
 case makeFunc f a b => exact Amk _ _ _
 case slice t x lo hi mx =>
  simp only [Bd]
  split at hc
  ·rename_i ti hti
   split at hc
   ·cases hc
   ·rename_i hd
    split
    ·split
     ·exact Rt _ _ _
     ·exact as_
    ·split
     ·exact Zj _ _ _ _ _
     ·exact as_
    ·rename_i n e hd'; exact absurd hd' (hd n e)
    ·exact as_
  ·cases hc
 case fieldAddr t x i =>
  simp only [Bd]; split
  ·split
   ·split
    ·split
     ·split
      ·exact as_
      ·exact Aoo _ _
     ·exact as_
    ·exact as_
   ·exact as_
  ·exact as_
 case field t x i =>
  simp only [Bd]; split
  ·split
   ·split
    ·split
     ·exact Aiu _ _ _
     ·exact as_
    ·exact as_
   ·exact as_
  ·exact as_
 case indexAddr t x i =>
  simp only [Bd]; split
  ·split
   ·split
    ·exact Zi _ _ _
    ·exact as_
   ·split
    ·exact Tv _ _ _ _
    ·exact as_
   ·exact as_
  ·exact as_
 case index t x i =>
  simp only [Bd]; split
  ·split
   ·exact Abj _ _
   ·split
    ·exact Abk _ _ _ _
    ·exact as_
   ·exact as_
  ·exact as_
 case extract x i => exact Ad9 _ _
 case typeAssert x xt t ok =>
  simp only [Bd]; split
  ·split
   ·exact as_
   ·exact Afw _ _ _ _
  ·exact as_
 case call c =>
  simp only [Bd]
  split at hc <;> try (cases hc; done)
  all_goals rename_i hb
  all_goals simp only [hb]
  all_goals split <;> try exact as_
  all_goals split <;> try exact as_
  all_goals simp only [Eb]
  ·split
   ·exact Aop _
   ·exact as_
  ·split
   ·exact Afx _ _ _
   ·exact as_
  ·split
   ·exact Afx _ _ _
   ·exact Amm _ _ _
   ·exact as_
theorem Zk {op : Op} (hc : By E op = .read) {v : AV} (h : Bd E op tm J = some (v,J')) : J' = J := by
 cases op <;> simp only [By] at hc <;> try (cases hc; done)
 case load t x =>
  simp only [Bd] at h
  split at h
  ·unfold L3 at h
   (repeat' (split at h)) <;> first | (cases h; done) | (cases h; rfl)
  ·cases h
 case lookup t m k ok =>
  simp only [Bd] at h
  (repeat' (split at h)) <;> try (cases h; done)
  unfold Kb at h
  (repeat' (split at h)) <;> first | (cases h; done) | (cases h; rfl)
 case entry x =>
  simp only [Bd] at h;unfold Yn at h
  split at h
  ·split at h
   ·split at h
    ·unfold cond at h
     split at h
     ·cases h; rfl
     ·cases h
    ·cases h
   ·cases h
  ·cases h
 case convert s d x =>
  simp only [Bd] at h
  (repeat' (split at h)) <;> try (cases h; done)
  ·unfold S0 at h
   (repeat' (split at h)) <;> first | (cases h; done) | (cases h; rfl)
  ·unfold S1 at h;simp only [Av] at h
   (repeat' (split at h)) <;> first | (cases h; done) | (cases h; rfl)
  ·unfold S2 at h
   (repeat' (split at h)) <;> first | (cases h; done) | (cases h; rfl)
  ·unfold Ka at h
   (repeat' (split at h)) <;> first | (cases h; done) | (cases h; rfl)
  ·unfold Jz at h
   (repeat' (split at h)) <;> first | (cases h; done) | (cases h; rfl)
 case slice t x lo hi mx =>
  simp only [Bd] at h
  (repeat' (split at h)) <;> try (cases h; done)
  ·exact (Rt _ _ _ _ _ _ h).1
  ·exact (Zj _ _ _ _ _ _ _ _ h).1
  ·unfold Qu at h;simp only [Av] at h
   (repeat' (split at h)) <;> first | (cases h; done) | (cases h; rfl)
 case call c =>
  simp only [Bd] at h
  split at hc <;> try (cases hc; done)
  rename_i hb
  simp only [hb] at h
  (repeat' (split at h)) <;> try (cases h; done)
  simp only [Eb] at h
  (repeat' (split at h)) <;> try (cases h; done)
  ·unfold sLen at h
   (repeat' (split at h)) <;> first | (cases h; done) | (cases h; rfl)
  ·unfold X3 at h;simp only [Av] at h
   (repeat' (split at h)) <;> first | (cases h; done) | (cases h; rfl)
  ·unfold S5 at h;simp only [Av] at h
   (repeat' (split at h)) <;> first | (cases h; done) | (cases h; rfl)
  ·cases h; rfl
 all_goals (split at hc <;> first | (cases hc; done) | (split at hc <;> first | (cases hc; done) | (split at hc <;> cases hc)))
end
abbrev Ao := List (Nat × AV)
def Ao.at : Ao -> Nat -> Option AV
 | [],_ => none
 | (j,v) :: r,i => cond (Nat.beq j i) (some v) (Ao.at r i)
def Has (tm : Tr AV) (ρ : Ao) : Prop := ∀ i v,Ao.at ρ i = some v -> tm.get i = some v
def hdV : AV -> Option AV
 | .any => none
 | .bool b => some (.bool b)
 | .int k n => some (.int k n)
 | .str l => some (.str l)
 | .nil v => some (.nil v)
 | .agg l => some (.agg l)
 | .fn f a b => some (.fn f a b)
 | .tup l => some (.tup l)
 | _ => none
theorem At2 {v u : AV} (h : hdV v = some u) : v = u := by cases v <;> simp_all [hdV]
section
variable {E : Env} {ρ : Ao} {tm : Tr AV} {J J' J'' : Sto} {Rr : Rec} {lf nt : Nat} {df : List (Nat × List AV)}
def A4 (E : Env) (ρ : Ao) : Operand -> Option AV
 | .tmp t => Ao.at ρ t
 | .const v => hdV (ofV v)
 | .global g => match E.gl g with | some cs => some (.pv cs) | none => none
 | .func f => some (.fn (.func f) [] [])
def L9 (E : Env) (ρ : Ao) : List Operand -> Option (List AV)
 | [] => some []
 | x :: r => match A4 E ρ x,L9 E ρ r with
  | some v,some l => some (v :: l)
  | _,_ => none
def Lk (E : Env) (ρ : Ao) : Option Operand -> Option (Option AV)
 | none => some none
 | some x => match A4 E ρ x with | some v => some (some v) | none => none
theorem Has.opd (h : Has tm ρ) {x : Operand} {v : AV} (hx : A4 E ρ x = some v) : opd E tm x = v := by
 cases x with
 | tmp t => simp only [A4] at hx; simp only [Go.AM.opd,h t v hx]
 | const c => exact At2 hx
 | global g =>
  simp only [A4] at hx;simp only [Go.AM.opd]
  split at hx
  ·rename_i cs hg; cases hx; simp only [hg]
  ·cases hx
 | func f => simp only [A4,ac_] at hx; exact hx
theorem Has.opds (h : Has tm ρ) : ∀ {l : List Operand} {vs : List AV},L9 E ρ l = some vs -> opds E tm l = vs
 | [],vs,hl => by simp only [L9,ac_] at hl; subst hl; rfl
 | x :: r,vs,hl => by
  simp only [L9] at hl
  split at hl
  ·rename_i v l hv hr
   cases hl;simp only [Go.AM.opds,h.opd hv,Has.opds h hr]
  ·cases hl
theorem Has.opdO (h : Has tm ρ) {x : Option Operand} {v : Option AV} (hx : Lk E ρ x = some v) : opdO E tm x = v := by
 cases x with
 | none => simp only [Lk,ac_] at hx; subst hx; rfl
 | some x =>
  simp only [Lk] at hx
  split at hx
  ·rename_i u hu; cases hx; simp only [Go.AM.opdO,h.opd hu]
  ·cases hx
theorem Has.put (h : Has tm ρ) (d : Nat) (v : AV) : Has (tm.put (d + 1) d (some v)) ((d,v) :: ρ) := by
 intro i u hu;rw [db_];simp only [Ao.at] at hu;cases hb : Nat.beq d i with
 | true => rw [hb] at hu; have := aa_ hb; subst this; rw [if_pos rfl]; exact hu
 | false =>
  rw [hb] at hu
  rw [if_neg (fun he => by subst he; rw [bg_] at hb; cases hb)]
  exact h i u hu
def Bo (E : Env) (Rr : Rec) (op : Op) (ρ : Ao) (J : Sto) (v : AV) (J' : Sto) : Prop := ∀ tm,Has tm ρ -> opA E op Rr tm J = some (v,J')
variable {x y c a b : Operand} {v u u' z : AV} {l l' : List AV} {t : Nat} {n : Nat}
theorem Ag (hx : A4 E ρ x = some v) : Bo E Rr (.move x) ρ J v J := fun tm h => by simp only [opA,Bd,Ym,h.opd hx]
theorem Bk (hx : A4 E ρ x = some v) : Bo E Rr (.assign x) ρ J v J := fun tm h => by simp only [opA,Bd,Ym,h.opd hx]
theorem Bu {bb : Bool} (hc : A4 E ρ c = some (.bool bb)) (hb : bb = true) (hx : A4 E ρ a = some v) : Bo E Rr (.pick c a b) ρ J v J := fun tm h => by
 subst hb; simp only [opA,Bd,Abt,h.opd hc,h.opd hx]
theorem Br {bb : Bool} (hc : A4 E ρ c = some (.bool bb)) (hb : bb = false) (hx : A4 E ρ b = some v) : Bo E Rr (.pick c a b) ρ J v J := fun tm h => by
 subst hb; simp only [opA,Bd,Abt,h.opd hc,h.opd hx]
theorem Hq {ad off : Nat} (hx : A4 E ρ x = some (.pr ad off)) : Bo E Rr (.nilCheck x) ρ J (.pr ad off) J := fun tm h => by simp only [opA,Bd,Iv,h.opd hx]
theorem Bp (hx : A4 E ρ x = some (.pv l)) : Bo E Rr (.nilCheck x) ρ J (.pv l) J := fun tm h => by simp only [opA,Bd,Iv,h.opd hx]
def zI (P : Program) (t : Nat) : Option (List AV) := match Bf P t with | some ti => ti.zero | none => none
def ldI (P : Program) (t : Nat) : Option (Nat × Bool) := match Bf P t with | some ti => some (ti.size,ti.isAgg) | none => none
def okI (P : Program) (t : Nat) : Bool := match Bf P t with | some _ => true | none => false
def fdI (P : Program) (t i : Nat) : Option (Nat × Nat × Bool) := match Bf P t with
 | some ti => match ti.desc with
  | .struct fs => match fs.toList[i]? with
   | some f => match Bf P f.type with
    | some tf => some (f.offset,tf.size,tf.isAgg)
    | none => none
   | none => none
  | _ => none
 | none => none
def elI (P : Program) (t : Nat) : Option (Nat × Nat × Option (List AV)) := match Bf P t with
 | some ti => match ti.desc with
  | .slice e => match Bf P e with
   | some te => some (te.size,te.bytes,te.zero)
   | none => none
  | _ => none
 | none => none
def arI (P : Program) (t : Nat) : Option (Nat × Nat × Bool) := match Bf P t with
 | some ti => match ti.desc with
  | .array n e => match Bf P e with
   | some te => some (n,te.size,te.isAgg)
   | none => none
  | _ => none
 | none => none
def bdF (P : Program) : List Field -> Option (List (Nat × Nat))
 | [] => some []
 | f :: r => match Bf P f.type,bdF P r with
  | some ti,some l => some ((f.offset,ti.size) :: l)
  | _,_ => none
def bdI (P : Program) (t : Nat) : Option (List AV × List (Nat × Nat)) := match Bf P t with
 | some ti => match ti.zero,ti.desc with
  | some z,.struct fs => match Qt P fs.toList,bdF P fs.toList with
   | true,some l => some (z,l)
   | _,_ => none
  | _,_ => none
 | none => none
def mpI (P : Program) (t : Nat) : Option (Nat × AV × Nat × Bool) := match Bf P t with
 | some ti => match ti.desc with
  | .map kt et => match Bf P et with
   | some te => match H0 te with
    | some z => some (kt,z,te.size,te.isAgg)
    | none => none
   | none => none
  | _ => none
 | none => none
def Gw (P : Program) (t : Nat) : Bool := match Bf P t with | some ti => (match ti.desc with | .string => true | _ => false) | none => false
def X7 (P : Program) (t : Nat) : Bool := match Bf P t with | some ti => (match ti.desc with | .bool => true | _ => false) | none => false
def Fd (P : Program) (t : Nat) : Bool := match Bf P t with | some ti => (match ti.desc with | .slice _ => true | _ => false) | none => false
def Iq (sz : Nat) (agg : Bool) (l : List AV) : Option AV :=
 match agg with
 | true => match D6 sz l with | some cs => some (.agg cs) | none => none
 | false => match l with | v :: _ => some v | [] => none
def Dq (J : Sto) : AV -> Option (List AV)
 | .pr a off => match J.cells a with | some vs => some (vs.drop off) | none => none
 | .pv cs => some cs
 | _ => none
theorem Q3 {P : Program} {sz : Nat} {agg : Bool} (h : ldI P t = some (sz,agg)) : ∃ ti,Bf P t = some ti /\ ti.size = sz /\ ti.isAgg = agg := by
 unfold ldI at h
 split at h
 ·rename_i ti hti; cases h; exact ⟨ti,hti,rfl,rfl⟩
 ·cases h
theorem Ll (ti : TI) (l : List AV) : E1 ti l = Iq ti.size ti.isAgg l := by
 unfold E1 Iq;cases ti.isAgg <;> rfl
theorem Ae {sz : Nat} {agg : Bool} {cs : List AV} (hi : ldI E.P t = some (sz,agg)) (hx : A4 E ρ x = some u) (hc : Dq J u = some cs) (hv : Iq sz agg cs = some v) :
  Bo E Rr (.load t x) ρ J v J := fun tm h => by
 obtain ⟨ti,h1,h2,h3⟩ := Q3 hi;subst h2 h3;simp only [opA,Bd,h1,h.opd hx];cases u <;> simp only [Dq] at hc <;> try (cases hc)
 ·rename_i a off
  split at hc
  ·rename_i vs hvs
   cases hc;simp only [L3,hvs,Ll,hv]
  ·cases hc
 ·simp only [L3,Ll,hv]
theorem B9 {sz : Nat} {agg : Bool} {ad off : Nat} {vs vs' cs : List AV} (hi : ldI E.P t = some (sz,agg)) (hx : A4 E ρ x = some (.pr ad off)) (hy : A4 E ρ y = some v)
  (hc : v.cellsN sz = some cs) (hv : J.cells ad = some vs) (hs : D9 vs off cs = some vs') : Bo E Rr (.store t x y) ρ J A5 (J.set ad (.cells vs')) := fun tm h => by
 obtain ⟨ti,h1,h2,h3⟩ := Q3 hi;subst h2 h3;simp only [opA,Bd,h1,h.opd hx,h.opd hy,Vd,hc,hv,hs]
theorem Cw {z : List AV} (hi : zI E.P t = some z) : Bo E Rr (.alloc t) ρ J (.pr (nx J) 0) (J.new (.cells z)) := fun tm h => by
 unfold zI at hi
 split at hi
 ·rename_i ti hti
  simp only [opA,Bd,hti,hi,Yj]
 ·cases hi
theorem Aoq {sz : Nat} {agg : Bool} {cs : List AV} (hi : ldI E.P t = some (sz,agg)) (hx : A4 E ρ x = some v) (hc : v.cellsN sz = some cs) :
  Bo E Rr (.box t x) ρ J (.pr (nx J) 0) (J.new (.cells cs)) := fun tm h => by
 obtain ⟨ti,h1,h2,h3⟩ := Q3 hi;subst h2 h3;simp only [opA,Bd,h1,h.opd hx,sBox,hc]
def addP : AV -> Nat -> Option AV
 | .pr a off,n => some (.pr a (off + n))
 | .pv cs,n => some (.pv (cs.drop n))
 | _,_ => none
theorem Ako (x : AV) (n : Nat) : Rw x n = addP x n := by cases x <;> simp only [Rw,addP,Av]
theorem Ad {i off sz : Nat} {agg : Bool} (hi : fdI E.P t i = some (off,sz + 1,agg)) (hx : A4 E ρ x = some u) (hp : addP u off = some v) :
  Bo E Rr (.fieldAddr t x i) ρ J v J := fun tm h => by
 unfold fdI at hi
 split at hi
 ·rename_i ti hti
  split at hi
  ·rename_i fs hfs
   split at hi
   ·rename_i f hf
    split at hi
    ·rename_i tf htf
     simp only [ac_,aw_] at hi;obtain ⟨k1,k2,k3⟩ := hi;subst k1;simp only [opA,Bd,hti,hfs,hf,htf,k2,h.opd hx,An5,Ako,hp]
    ·cases hi
   ·cases hi
  ·cases hi
 ·cases hi
theorem Tw {sz by' : Nat} {zz : Option (List AV)} (h : elI E.P t = some (sz,by',zz)) : ∃ ti e te,Bf E.P t = some ti /\ ti.desc = .slice e /\ Bf E.P e = some te /\ te.size = sz /\ te.bytes = by' /\ te.zero = zz := by
 unfold elI at h
 split at h
 ·rename_i ti hti
  split at h
  ·rename_i e he
   split at h
   ·rename_i te hte
    simp only [ac_,aw_] at h;exact ⟨ti,e,te,hti,he,hte,h.1,h.2.1,h.2.2⟩
   ·cases h
  ·cases h
 ·cases h
theorem Zl {u : AV} {n : Nat} (h : lenA u = some n) (hs : Yl u = true) : (∃ a off sz cap,u = .sr a off sz n cap) ∨ (∃ cs sz cap,u = .sv cs sz n cap) ∨ (u = .nil (.slice none 0 0) /\ n = 0) := by
 unfold lenA at h
 split at h
 ·cases h; exact .inl ⟨_,_,_,_,rfl⟩
 ·cases h; exact .inr (.inl ⟨_,_,_,rfl⟩)
 ·cases h; exact .inr (.inr ⟨rfl,rfl⟩)
 ·simp [Yl] at hs
 ·cases h
def Afy : AV -> Nat -> AV
 | .sr a off sz _ _,n => .pr a (off + n)
 | .sv cs _ _ _,n => .pv (cs.drop n)
 | _,_ => .any
theorem Afz {sz by' m : Nat} {zz : Option (List AV)} {k : IntKind} (hi : elI E.P t = some (sz,by',zz)) (hx : A4 E ρ x = some u) (hy : A4 E ρ y = some (.int k (.ofNat n)))
  (hl : lenA u = some m) (hs : Yl u = true) (hn : n < m) : Bo E Rr (.indexAddr t x y) ρ J (Afy u (n * sz)) J := fun tm h => by
 obtain ⟨ti,e,te,h1,h2,h3,h4,h5,h6⟩ := Tw hi;subst h4;simp only [opA,Bd,h1,h2,h3,h.opd hx,h.opd hy]
 have hb : ∀ m,n < m -> Nat.blt n m = true := fun m hm => by simpa using hm
 rcases Zl hl hs with ⟨a,off,sz',cap,rfl⟩ | ⟨cs,sz',cap,rfl⟩ | ⟨rfl,rfl⟩
 ·simp only [Ha,hb _ hn,cond_true,Av,Afy]
 ·simp only [Ha,hb _ hn,cond_true,Afy]
 ·omega
theorem Lm {sz m : Nat} {agg : Bool} {k : IntKind} (hi : arI E.P t = some (m,sz,agg)) (hx : A4 E ρ x = some u) (hy : A4 E ρ y = some (.int k (.ofNat n)))
  (hn : n < m) (hp : addP u (n * sz) = some v) : Bo E Rr (.indexAddr t x y) ρ J v J := fun tm h => by
 unfold arI at hi
 split at hi
 ·rename_i ti hti
  split at hi
  ·rename_i nn e he
   split at hi
   ·rename_i te hte
    simp only [ac_,aw_] at hi;obtain ⟨k1,k2,k3⟩ := hi;subst k1 k2
    have hb : Nat.blt n nn = true := by simpa using hn
    simp only [opA,Bd,hti,he,hte,h.opd hx,h.opd hy,Fp,hb,cond_true,Ako,hp]
   ·cases hi
  ·cases hi
 ·cases hi
theorem Af0 {s : List Nat} {k : IntKind} {w : Nat} (hi : Gw E.P t = true) (hx : A4 E ρ x = some (.str s)) (hy : A4 E ρ y = some (.int k (.ofNat n))) (hn : s[n]? = some w) :
  Bo E Rr (.index t x y) ρ J (.int .u8 (.ofNat w)) J := fun tm h => by
 unfold Gw at hi
 split at hi
 ·rename_i ti hti
  split at hi
  ·rename_i hd
   simp only [opA,Bd,hti,hd,h.opd hx,h.opd hy,Kh,hn]
  ·cases hi
 ·cases hi
theorem P3 {P : Program} (h : okI P t = true) : ∃ ti,Bf P t = some ti := by
 unfold okI at h
 split at h
 ·rename_i ti hti; exact ⟨ti,hti⟩
 ·cases h
theorem P4 (k : IntKind) : Fe k k = true := by cases k <;> rfl
theorem Lv {k : IntKind} {op : BinOp} {p q : Int} {ty : Nat} (hi : okI E.P t = true) (hx : A4 E ρ x = some (.int k p)) (hy : A4 E ρ y = some (.int k q)) (hv : G0 op k p q = some v) :
  Bo E Rr (.binOp op t x y ty) ρ J v J := fun tm h => by
 obtain ⟨ti,hti⟩ := P3 hi;simp only [opA,Bd,h.opd hx,h.opd hy,Adl,hti,P4,cond_true,hv,Yk]
theorem Aiv {op : BinOp} {p q : List Nat} {ty : Nat} (hi : okI E.P t = true) (hx : A4 E ρ x = some (.str p)) (hy : A4 E ρ y = some (.str q)) (hv : Ws op p q = some v) :
  Bo E Rr (.binOp op t x y ty) ρ J v J := fun tm h => by
 obtain ⟨ti,hti⟩ := P3 hi;simp only [opA,Bd,h.opd hx,h.opd hy,Adl,hti,hv,Yk]
theorem Ark {k : IntKind} {p q : Int} : G0 .lss k p q = some (.bool (decide (p < q))) := by
 simp only [G0,Ej]; congr 2; by_cases h : q <= p <;> simp [h] <;> omega
theorem Arl {k : IntKind} {p q : Int} : G0 .leq k p q = some (.bool (decide (p <= q))) := by simp only [G0,Ej]
theorem Arm {k : IntKind} {p q : Int} : G0 .gtr k p q = some (.bool (decide (q < p))) := by
 simp only [G0,Ej]; congr 2; by_cases h : p <= q <;> simp [h] <;> omega
theorem Arn {k : IntKind} {p q : Int} : G0 .geq k p q = some (.bool (decide (q <= p))) := by simp only [G0,Ej]
theorem Aro {k : IntKind} {p q : Int} : G0 .eql k p q = some (.bool (decide (p = q))) := by simp only [G0,Ix]; congr 2
theorem Arp {k : IntKind} {p q : Int} : G0 .neq k p q = some (.bool (!decide (p = q))) := by simp only [G0,Ix]; congr 2
theorem Arq {p q : Nat} (h : p + q < 9223372036854775808) : G0 .add .i64 (.ofNat p) (.ofNat q) = some (.int .i64 (.ofNat (p + q))) := by
 have : Nat.ble (p + q) 9223372036854775807 = true := ba_ Om;simp only [G0,Aie,Ot,Av,Mp,this,cond_true]
theorem Akp {p q : List Nat} : Ws .eql p q = some (.bool (decide (p = q))) := by
 simp only [Ws]; congr 2; by_cases h : p = q
 ·rw [(F7 p q).2 h]; simp [h]
 ·cases hb : F4 p q
  ·simp [h]
  ·exact absurd ((F7 p q).1 hb) h
theorem Arr {p q : List Nat} : Ws .neq p q = some (.bool (!decide (p = q))) := by
 have := @Akp p q;simp only [Ws,ac_,AV.bool.injEq] at this ⊢;rw [this]
theorem A8 {k : IntKind} {p q : Int} {ty : Nat} (hi : okI E.P t = true) (hx : A4 E ρ x = some (.int k p)) (hy : A4 E ρ y = some (.int k q)) : Bo E Rr (.binOp .lss t x y ty) ρ J (.bool (decide (p < q))) J := Lv hi hx hy Ark
theorem R4 {k : IntKind} {p q : Int} {ty : Nat} (hi : okI E.P t = true) (hx : A4 E ρ x = some (.int k p)) (hy : A4 E ρ y = some (.int k q)) : Bo E Rr (.binOp .leq t x y ty) ρ J (.bool (decide (p <= q))) J := Lv hi hx hy Arl
theorem Ca {k : IntKind} {p q : Int} {ty : Nat} (hi : okI E.P t = true) (hx : A4 E ρ x = some (.int k p)) (hy : A4 E ρ y = some (.int k q)) : Bo E Rr (.binOp .gtr t x y ty) ρ J (.bool (decide (q < p))) J := Lv hi hx hy Arm
theorem Eq {k : IntKind} {p q : Int} {ty : Nat} (hi : okI E.P t = true) (hx : A4 E ρ x = some (.int k p)) (hy : A4 E ρ y = some (.int k q)) : Bo E Rr (.binOp .geq t x y ty) ρ J (.bool (decide (q <= p))) J := Lv hi hx hy Arn
theorem Do {k : IntKind} {p q : Int} {ty : Nat} (hi : okI E.P t = true) (hx : A4 E ρ x = some (.int k p)) (hy : A4 E ρ y = some (.int k q)) : Bo E Rr (.binOp .eql t x y ty) ρ J (.bool (decide (p = q))) J := Lv hi hx hy Aro
theorem Cx {k : IntKind} {p q : Int} {ty : Nat} (hi : okI E.P t = true) (hx : A4 E ρ x = some (.int k p)) (hy : A4 E ρ y = some (.int k q)) : Bo E Rr (.binOp .neq t x y ty) ρ J (.bool (!decide (p = q))) J := Lv hi hx hy Arp
theorem Ay {p q : Nat} {ty : Nat} (hi : okI E.P t = true) (hx : A4 E ρ x = some (.int .i64 (.ofNat p))) (hy : A4 E ρ y = some (.int .i64 (.ofNat q))) (hb : p + q < 9223372036854775808) :
  Bo E Rr (.binOp .add t x y ty) ρ J (.int .i64 (.ofNat (p + q))) J := Lv hi hx hy (Arq hb)
theorem At3 {p q : List Nat} {ty : Nat} (hi : okI E.P t = true) (hx : A4 E ρ x = some (.str p)) (hy : A4 E ρ y = some (.str q)) : Bo E Rr (.binOp .eql t x y ty) ρ J (.bool (decide (p = q))) J := Aiv hi hx hy Akp
theorem At4 {p q : List Nat} {ty : Nat} (hi : okI E.P t = true) (hx : A4 E ρ x = some (.str p)) (hy : A4 E ρ y = some (.str q)) : Bo E Rr (.binOp .neq t x y ty) ρ J (.bool (!decide (p = q))) J := Aiv hi hx hy Arr
theorem Bb {bb : Bool} (hx : A4 E ρ x = some (.bool bb)) : Bo E Rr (.unOp .not t x) ρ J (.bool (!bb)) J := fun tm h => by
 simp only [opA,Bd,h.opd hx,unA,Yk]
theorem Al {vs : List AV} {i : Nat} (hx : A4 E ρ x = some (.tup vs)) (hv : vs[i]? = some v) : Bo E Rr (.extract x i) ρ J v J := fun tm h => by
 simp only [opA,Bd,h.opd hx,L5,hv]
theorem Fw {f : Fn} {p q : Array Operand} (hp : L9 E ρ p.toList = some l) (hq : L9 E ρ q.toList = some l') : Bo E Rr (.makeFunc f p q) ρ J (.fn f l l') J := fun tm h => by
 simp only [opA,Bd,h.opds hp,h.opds hq,Akb]
theorem Ars {f : Operand} {args : Array Operand} {tys : Array Nat} {k : Nat} {vs first cap full : List AV} (hf : A4 E ρ f = some (.fn (.func k) first cap)) (ha : L9 E ρ args.toList = some vs)
  (hl : first ++ vs ++ cap = full) (hr : Rr (.fn k) full J = some (v,J')) : Bo E Rr (.call ⟨.value f,args,tys⟩) ρ J v J' := fun tm h => by
 subst hl;simp only [opA,h.opd hf,h.opds ha,Qx,hr]
theorem Zm {kt sz : Nat} {agg : Bool} (h : mpI E.P t = some (kt,z,sz,agg)) : ∃ ti et te,Bf E.P t = some ti /\ ti.desc = .map kt et /\ Bf E.P et = some te /\ H0 te = some z /\ te.size = sz /\ te.isAgg = agg := by
 unfold mpI at h
 split at h
 ·rename_i ti hti
  split at h
  ·rename_i kt' et he
   split at h
   ·rename_i te hte
    split at h
    ·rename_i z' hz
     simp only [ac_,aw_] at h;obtain ⟨k1,k2,k3,k4⟩ := h;subst k1 k2;exact ⟨ti,et,te,hti,he,hte,hz,k3,k4⟩
    ·cases h
   ·cases h
  ·cases h
 ·cases h
def Ab7 (J : Sto) (kt : Nat) (es : List (Key × AV)) : AV -> Prop
 | .mp r => ∃ ver,J.get r = some (.map kt es ver)
 | .nil (.map none) => es = []
 | _ => False
theorem W3 {kt : Nat} {es : List (Key × AV)} {u : AV} (h : Ab7 J kt es u) : (∃ r ver,u = .mp r /\ J.get r = some (.map kt es ver)) ∨ (u = .nil (.map none) /\ es = []) := by
 unfold Ab7 at h
 split at h
 ·obtain ⟨ver,h⟩ := h; exact .inl ⟨_,ver,rfl,h⟩
 ·exact .inr ⟨rfl,h⟩
 ·exact h.elim
theorem Amn {kt sz : Nat} {agg : Bool} {key : Key} {es : List (Key × AV)} (hi : mpI E.P t = some (kt,z,sz,agg)) (hx : A4 E ρ x = some u) (hm : Ab7 J kt es u)
  (hy : A4 E ρ y = some u') (hk : Hn E.P kt u' = some key) : Bo E Rr (.lookup t x y false) ρ J ((D7 key es).getD z) J := fun tm h => by
 obtain ⟨ti,et,te,h1,h2,h3,h4,h5,h6⟩ := Zm hi;simp only [opA,Bd,h1,h2,h3,h4,h.opd hx,h.opd hy,hk,Kb]
 rcases W3 hm with ⟨r,ver,rfl,hm'⟩ | ⟨rfl,rfl⟩
 ·simp only [hm',bg_];cases D7 key es <;> rfl
 ·simp [D7,S4]
theorem Aiw {kt sz : Nat} {agg : Bool} {key : Key} {es : List (Key × AV)} (hi : mpI E.P t = some (kt,z,sz,agg)) (hx : A4 E ρ x = some u) (hm : Ab7 J kt es u)
  (hy : A4 E ρ y = some u') (hk : Hn E.P kt u' = some key) : Bo E Rr (.lookup t x y true) ρ J (.tup [(D7 key es).getD z,.bool (D7 key es).isSome]) J := fun tm h => by
 obtain ⟨ti,et,te,h1,h2,h3,h4,h5,h6⟩ := Zm hi;simp only [opA,Bd,h1,h2,h3,h4,h.opd hx,h.opd hy,hk,Kb]
 rcases W3 hm with ⟨r,ver,rfl,hm'⟩ | ⟨rfl,rfl⟩
 ·simp only [hm',bg_];cases D7 key es <;> rfl
 ·simp [D7,S4]
def mput (k : Key) (v : AV) (es : List (Key × AV)) : List (Key × AV) := match D7 k es with | some _ => Re k v es | none => Ph k v es
theorem Amo {kt sz ver r : Nat} {agg : Bool} {key : Key} {es : List (Key × AV)} {w : Operand} (hi : mpI E.P t = some (kt,z,sz,agg)) (hx : A4 E ρ x = some (.mp r)) (hm : J.get r = some (.map kt es ver))
  (hy : A4 E ρ y = some u') (hk : Hn E.P kt u' = some key) (hw : A4 E ρ w = some v) (hf : ∀ te : TI,te.size = sz -> te.isAgg = agg -> O4 te v = true) :
  Bo E Rr (.mapUpdate t x y w) ρ J A5 (J.set r (.map kt (mput key v es) (ver + 1))) := fun tm h => by
 obtain ⟨ti,et,te,h1,h2,h3,h4,h5,h6⟩ := Zm hi;simp only [opA,Bd,h1,h2,h3,h.opd hx,h.opd hy,h.opd hw,hk,Mt,hm,bg_,hf te h5 h6,cm_,Av,mput];cases D7 key es <;> rfl
theorem Ga {kt sz : Nat} {agg : Bool} (hi : mpI E.P t = some (kt,z,sz,agg)) : Bo E Rr (.makeMap t none) ρ J (.mp (nx J)) (J.new (.map kt [] 0)) := fun tm h => by
 obtain ⟨ti,et,te,h1,h2,h3,h4,h5,h6⟩ := Zm hi;simp only [opA,Bd,h1,h2,S3]
theorem Em {t₀ : Nat} (hi : Fd E.P t₀ = true) (hx : A4 E ρ x = some u) (hl : lenA u = some n) (hs : Yl u = true) : Bo E Rr (.call ⟨.builtin .len,#[x],#[t₀]⟩) ρ J (.int .i64 (.ofNat n)) J := fun tm h => by
 unfold Fd at hi
 split at hi
 ·rename_i ti hti
  split at hi
  ·rename_i e hd
   simp only [opA,Bd,hti,Eb,hd,h.opd hx,opds,sLen]
   rcases Zl hl hs with ⟨a,off,sz',cap,rfl⟩ | ⟨cs,sz',cap,rfl⟩ | ⟨rfl,rfl⟩ <;> rfl
  ·cases hi
 ·cases hi
theorem Amp {t₀ : Nat} {s : List Nat} (hi : Gw E.P t₀ = true) (hx : A4 E ρ x = some (.str s)) : Bo E Rr (.call ⟨.builtin .len,#[x],#[t₀]⟩) ρ J (.int .i64 (.ofNat s.length)) J := fun tm h => by
 unfold Gw at hi
 split at hi
 ·rename_i ti hti
  split at hi
  ·rename_i hd
   simp only [opA,Bd,hti,Eb,hd,h.opd hx,opds,X3,Av]
  ·cases hi
 ·cases hi
end
section
open Go Go.Proofs
def Aix : List AV := [.str [],.bool false,.int .i64 0,.int .i64 0,.str [36,99],.bool false,.int .i64 1,.int .i64 200,.str [36,118],.bool false,.int .i64 1,.int .i64 200,.str [36,102],.bool true,.int .i64 2,.int .i64 2,
 .str [36,101],.bool true,.int .i64 1,.int .i64 200,.str [36,100],.bool false,.int .i64 1,.int .i64 200,.str [36,97],.bool true,.int .i64 1,.int .i64 200,.str [36,112],.bool true,.int .i64 1,.int .i64 200,
 .str [36,123],.bool false,.int .i64 0,.int .i64 0,.str [36,125],.bool false,.int .i64 0,.int .i64 0]
def glW (g : Nat) : Option (List AV) := match Nat.beq g 0 with | true => some Aix | false => none
noncomputable def Ew : Env := { P := Tryz.prog,gl := glW,sum := fun _ => none,dsum := fun _ => none,byref := fun _ => false }
theorem A1 : Tryz.prog.follows .mixedOrders = true := by kernel_rfl
def Zn (fn : Func) : Bool := !(fn.name == "runtime.NumGoroutine")
theorem Aea : Tryz.prog.funcs.toList.all Zn = true := by kernel_rfl
theorem Tx (f : Nat) (fn : Func) (h : Tryz.prog.funcs[f]? = some fn) : (fn.name == "runtime.NumGoroutine") = false := by
 have h1 : fn ∈ Tryz.prog.funcs.toList := by
  obtain ⟨h2,h3⟩ := ar_.1 h;rw [← h3]; exact Array.getElem_mem_toList h2
 have := bu_.1 Aea fn h1
 simpa [Zn] using this
end
def Vq (E : Env) (f : Nat) (g : List AV -> Sto -> Option Sto) : Prop :=
 ∀ (C : Ctx) (w : World) (J : Sto) (args : List AV) (vs : Array Value) (J' : Sto),Sim E.P C w J -> Fh C (nx J) w E -> RL C (nx J) w args vs.toList -> g args J = some J' ->
  Zf E.P f /\ CallsD E.P f vs .returning w fun
   | .returned _,u',w' => u' = .returning /\ ∃ C',Sim E.P C' w' J' /\ Ext C (nx J) w C' (nx J') w'
   | _,_,_ => False
section
variable {E : Env} {C C' : Ctx} {N N' : Nat} {w w' : World} {Rr : Rec}
theorem Hr : ∀ (l : List AV) (i : Nat) (t : Tr AV) (j : Nat),(H4 l i t).get j = if i <= j /\ j < i + l.length then l[j - i]? else t.get j
 | [],i,t,j => by simp only [H4]; rw [if_neg (by simp)]
 | x :: r,i,t,j => by
  simp only [H4];rw [Hr r (i + 1),db_];simp only [aq_]
  by_cases h1 : i + 1 <= j /\ j < i + 1 + r.length
  ·rw [if_pos h1,if_pos Om,show j - i = (j - (i + 1)) + 1 by omega]; rfl
  ·rw [if_neg h1]
   by_cases h2 : j = i
   ·subst h2; rw [if_pos rfl,if_pos Om]; simp
   ·rw [if_neg h2,if_neg Om]
theorem Aeb {P : Program} {J : Sto} (hs : Sim P C w J) {tm : Tr AV} {tmps : Array Value} (ht : TR C (nx J) w tm tmps) {r : ResultVar} {v : AV} (h : Yr P tm J r = some v) :
  ∃ x,((match r with
   | .tmp t => pure (tmps.getD t undef)
   | .cell a t => do loadVar t (← asAddr (tmps.getD a undef)) : Sem Value)).run P w = .ok x w /\ R C (nx J) w v x := by
 cases r with
 | tmp t => exact ⟨_,rfl,ht t v h⟩
 | cell a t =>
  simp only [Yr] at h
  split at h
  ·rename_i ti hti
   split at h
   ·rename_i b off cx
    split at h
    ·rename_i vs hvs
     have hX := ht a _ cx
     have hl : L3 ti (.pr b off) J = some (v,J) := by simp [L3,hvs,h]
     obtain ⟨_,x,q1,q2⟩ := Pp hs hti hX hl;unfold R at hX;obtain ⟨ad,hX,_⟩ := hX;refine ⟨x,?_,q2⟩
     show ((do loadVar t (← asAddr (tmps.getD a undef)) : Sem Value)).run P w = _
     rw [hX] at q1 ⊢
     simpa [Instr.loadAt,Instr.sureAddr,asAddr] using q1
    ·cases h
   ·cases h
  ·cases h
theorem Zo {P : Program} {J : Sto} (hs : Sim P C w J) {tm : Tr AV} {tmps : Array Value} (ht : TR C (nx J) w tm tmps) {f : ResultVar -> Sem Value}
  (hf : ∀ r,f r = match r with
   | .tmp t => pure (tmps.getD t undef)
   | .cell a t => do loadVar t (← asAddr (tmps.getD a undef))) : ∀ {rs : List ResultVar} {vs : List AV},Tc P tm J rs = some vs -> ∃ xs,(rs.mapM f).run P w = .ok xs w /\ RL C (nx J) w vs xs
 | [],vs,h => by simp only [Tc,ac_] at h; subst h; exact ⟨[],by simp,by unfold RL; trivial⟩
 | r :: rs,vs,h => by
  simp only [Tc] at h
  split at h
  ·rename_i v l hv hl
   cases h;obtain ⟨x,h1,h2⟩ := Aeb hs ht hv;obtain ⟨xs,h3,h4⟩ := Zo hs ht hf hl
   refine ⟨x :: xs,?_,by unfold RL; exact ⟨h2,h4⟩⟩
   have h1' : (f r).run P w = .ok x w := by rw [hf r]; exact h1
   simp [gl_,h1',h3]
  ·cases h
theorem Er {P : Program} {J : Sto} (hs : Sim P C w J) {tm : Tr AV} {fn : Func} {tmps : Array Value} (ht : TR C (nx J) w tm tmps) {vs : List AV} (h : Tc P tm J fn.results.toList = some vs) :
  ∃ x,(results fn tmps).run P w = .ok x w /\ R C (nx J) w (Td vs) x := by
 obtain ⟨f,hf,he⟩ : ∃ f : ResultVar -> Sem Value,(∀ r,f r = match r with
   | .tmp t => pure (tmps.getD t undef)
   | .cell a t => do loadVar t (← asAddr (tmps.getD a undef))) /\ results fn tmps = (do let vs ← fn.results.mapM f; pure (if h : vs.size = 1 then vs[0] else .tuple vs)) :=
  ⟨_,fun r => by cases r <;> rfl,rfl⟩
 obtain ⟨xs,h1,h2⟩ := Zo hs ht hf h
 have hr : (results fn tmps).run P w = .ok (if h : xs.toArray.size = 1 then xs.toArray[0] else .tuple xs.toArray) w := by
  rw [he];simp only [Array.mapM_eq_mapM_toList,Sem.run_bind,Sem.run_map];rw [h1]
  simp
 refine ⟨_,hr,?_⟩
 match vs,xs,h2 with
 | [],[],_ => unfold Td R; exact ⟨#[],rfl,by unfold RL; trivial⟩
 | [v],[x],h2 => unfold RL at h2; exact h2.1
 | v :: v' :: r,x :: x' :: s,h2 =>
  have : ¬ (x :: x' :: s).toArray.size = 1 := by simp
  rw [dif_neg this];simp only [Td]; unfold R; exact ⟨_,rfl,h2⟩
 | [],_ :: _,h2 => unfold RL at h2; exact h2.elim
 | [_],[],h2 => unfold RL at h2; exact h2.elim
 | [_],_ :: _ :: _,h2 => unfold RL at h2; have := h2.2; unfold RL at this; exact this.elim
 | _ :: _ :: _,[],h2 => unfold RL at h2; exact h2.elim
 | _ :: _ :: _,[_],h2 => unfold RL at h2; have := h2.2; unfold RL at this; exact this.elim
theorem Na (hmk : E.dsum F6 = none) (cw : ∀ f d,E.dsum f = some d -> Vq E f d) {tm : Tr AV} {tmps : Array Value} {fn : Func} {J' : Sto} {vs : List AV} :
  ∀ (df : List (Nat × List AV)) (C : Ctx) (w : World) (J : Sto) (ds : List Deferred) (RR : Ending -> World -> Prop),Sim E.P C w J -> Fh C (nx J) w E -> TR C (nx J) w tm tmps -> DR C (nx J) w df ds -> Vg E df J = some J' -> Tc E.P tm J' fn.results.toList = some vs ->
   (∀ x w' C',Sim E.P C' w' J' -> Ext C (nx J) w C' (nx J') w' -> R C' (nx J') w' (Td vs) x -> RR (.returned x) w') -> Leaves E.P fn tmps RR ds .returning w
 | [],C,w,J,[],RR,hs,hg,ht,_,hd,hr,hRR => by
  simp only [Vg,ac_] at hd; subst hd;obtain ⟨x,h1,h2⟩ := Er hs ht hr;exact ⟨x,h1,hRR x w C hs (bv_ _ _ _) h2⟩
 | (f,args) :: df,C,w,J,d :: ds,RR,hs,hg,ht,hdr,hd,hr,hRR => by
  unfold DR at hdr;obtain ⟨hh,h3⟩ := hdr;simp only [Vg] at hd
  rcases hh with ⟨_,cap,h1,h2⟩ | ⟨h0,_⟩
  case inr => simp only at h0; subst h0; simp [hmk] at hd
  split at hd
  ·rename_i g hg'
   split at hd
   ·rename_i J₁ hJ₁
    obtain ⟨⟨fn',g1,g2,g3⟩,bi⟩ := cw f g hg' C w J args _ J₁ hs hg h2 hJ₁
    refine ⟨by simp,_,_,_,_,h1,?_,bi.mono fun e u' w' he => ?_⟩
    ·have g2' : fn'.name ≠ "runtime.NumGoroutine" := by simpa using g2
     have g3' : fn'.body ≠ none := fun hh => by rw [hh] at g3; cases g3
     rw [h1];simp only [invoke,callFunc,Sem.run_bind,run_program,Result.andThen_ok,g1]
     simp [g2',g3']
    ·cases e with
     | returned v =>
      obtain ⟨rfl,C',k1,k2⟩ := he;exact Na hmk cw df C' w' J₁ ds RR k1 (hg.ext k2) (ht.ext k2) (h3.ext k2) hd hr fun x w'' C'' q1 q2 q3 => hRR x w'' C'' q1 (k2.trans q2) q3
     | panicked _ => exact he.elim
     | outgrown => exact he.elim
   ·cases hd
  ·cases hd
 | [],_,_,_,_ :: _,_,_,_,_,h,_,_,_ => by unfold DR at h; exact h.elim
 | _ :: _,_,_,_,[],_,_,_,_,h,_,_,_ => by unfold DR at h; exact h.elim
theorem R5 : ∀ {rs : List (AV × Sto)} {r : AV × Sto},Yt rs = some r -> ∀ y ∈ rs,∀ {P : Program} {C : Ctx} {w : World} {x : Value},Sim P C w y.2 -> R C (nx y.2) w y.1 x -> ∃ C',Sim P C' w r.2 /\ Ext C (nx y.2) w C' (nx r.2) w /\ R C' (nx r.2) w r.1 x
 | [],r,h,y,hy => by simp at hy
 | [z],r,h,y,hy => by
  simp only [Yt,ac_] at h; subst h;rw [al_] at hy; subst hy;intro hs hr;exact ⟨_,hs,bv_ _ _ _,hr⟩
 | z :: z' :: rs,r,h,y,hy => by
  have h : (match Yt (z' :: rs) with | some q => (match S8 z.2 q.2 with | some J => some (AV.join z.1 q.1,J) | none => none) | none => none) = some r := h
  split at h
  ·rename_i q hq
   split at h
   ·rename_i J hJ
    cases h;obtain ⟨l1,l2⟩ := Zg hJ;intro hs hr
    rcases aj_.1 hy with rfl | hy
    ·obtain ⟨h1,h2⟩ := hs.weaken l1;exact ⟨_,h1,h2,(Ad7 _ _).R (R.ext h2 _ _ hr)⟩
    ·obtain ⟨C₁,k1,k2,k3⟩ := R5 hq y hy hs hr;obtain ⟨h1,h2⟩ := k1.weaken l2;exact ⟨_,h1,k2.trans h2,(Ad8 _ _).R (R.ext h2 _ _ k3)⟩
   ·cases h
  ·cases h
theorem Ma {C : Ctx} {w : World} {J : Sto} {args : List AV} {vs : Array Value} {fn : Func} (hs : Sim E.P C w J) (hg : Fh C (nx J) w E) (bm : RL C (nx J) w args vs.toList) (hle : args.length <= fn.ntmps) :
  SSt E C w ⟨H4 args 0 .e,fn.ntmps,[],J⟩ { tmps := vs ++ Array.replicate (fn.ntmps - vs.size) undef,defers := [] } := by
 have bx := bm.length;simp only [bq_] at bx
 refine ⟨hs,hg,fun i y hy => ?_,by simp; omega,by unfold DR; trivial⟩
 simp only at hy;rw [Hr] at hy
 split at hy
 ·rename_i hi
  rw [el_] at hy;obtain ⟨x,k1,k2⟩ := bm.get i y hy
  have : (vs ++ Array.replicate (fn.ntmps - vs.size) undef).getD i undef = x := by
   rw [ay_,da_ Om,← bb_,k1]; rfl
  rw [this]; exact k2
 ·simp [Tr.get] at hy
theorem Ck.of_body (hR : Bc E Rr) (hD : Gm E Rr) (cv : ∀ (f : Nat) (fn : Func), E.P.funcs[f]? = some fn -> (fn.name == "runtime.NumGoroutine") = false)
  (hmk : E.dsum F6 = none) (cw : ∀ f d,E.dsum f = some d -> Vq E f d) (lf : Nat) {f : Nat} {fn : Func} (hfn : E.P.funcs[f]? = some fn) : Ck E f (Aof E lf Rr fn) := by
 intro C w J args vs v J' hs hg bm h;unfold Aof at h
 split at h
 ·rename_i c hc
  cases hb : Nat.ble args.length fn.ntmps
  ·simp [hb] at h
  ·simp only [hb,cond_true] at h;have hle := ai_ hb
   refine ⟨⟨fn,hfn,cv f fn hfn,by rw [hc]; rfl⟩,?_⟩
   split at h
   ·rename_i l hl
    split at h
    ·rename_i rs hrs
     refine calls_of_wp_defers hfn hc ((wpIn_wide (n := 0)).1 ?_)
     refine wpIn_mono (Je (Inv := fun _ _ _ => True) (ro := none) (n := 0) (fun h _ => h) hR hD lf (fun _ _ _ _ _ _ _ _ _ _ _ h => by cases h) c C w _ _ l (.inl rfl) trivial (Ma hs hg bm hle) hl) fun e a' w' hq => ?_
     obtain ⟨y,hy,C₁,hye,hst,bu⟩ := hq;obtain ⟨z,hz,fv⟩ := Lj hrs _ (cd_ hy)
     have fin : y.1 = .normal ∨ y.1 = .ret -> Leaves E.P fn a'.tmps (Akk E.P C (nx J) w v J') a'.defers .returning w' := by
      intro hx;have cg : (match Vg E y.2.df y.2.sto with
       | some J => match Tc E.P y.2.tm J fn.results.toList with
        | some vs => some (Td vs,J)
        | none => none
       | none => none) = some z := by
       obtain ⟨x,s⟩ := y;simp only at hx
       rcases hx with rfl | rfl <;> exact fv
      split at cg
      ·rename_i J₁ hJ₁
       split at cg
       ·rename_i vs₁ hvs₁
        cases cg;refine Na hmk cw y.2.df C₁ w' y.2.sto a'.defers _ hst.sim hst.glob hst.tmps hst.dfs hJ₁ hvs₁ fun x w₂ C₂ q1 q2 q3 => ?_
        obtain ⟨C₃,k1,k2,k3⟩ := R5 h _ hz q1 q3;exact ⟨C₃,k1,bu.trans (q2.trans k2),k3⟩
       ·cases cg
      ·cases cg
     obtain ⟨x,s⟩ := y;subst hye;cases x with
     | normal => exact fin (.inl rfl)
     | ret => exact fin (.inr rfl)
     | exit id => simp [finA] at fv
    ·cases h
   ·cases h
 ·cases h
end
def Nb : Obj -> Bool
 | .cells .. => false
 | _ => true
structure Ir (w w' : World) (l : Nat) : Prop where
 size : w'.heap.size = w.heap.size
 other : ∀ b,b ≠ l -> w'.heap[b]? = w.heap[b]?
 was : ∃ o,w.heap[l]? = some o /\ Nb o = true
 is : ∃ o,w'.heap[l]? = some o /\ Nb o = true
 os : w'.os = w.os /\ w'.output = w.output
theorem Ir.put {w : World} {l : Nat} {o o' : Obj} (h : w.heap[l]? = some o) (h1 : Nb o = true) (h2 : Nb o' = true) : Ir w (w.putObj l o') l :=
 ⟨World.putObj_size,fun b hb => World.putObj_heap_other hb,⟨o,h,h1⟩,⟨o',World.putObj_heap_same (ar_.1 h).1,h2⟩,rfl,rfl⟩
abbrev gk_ := @Ir.put
section
variable {C : Ctx} {N : Nat} {w w' : World} {l : Nat}
theorem Ir.cell (t : Ir w w' l) {a : Addr} {v : Value} (h : w.cell? a = some v) : w'.cell? a = some v := by
 by_cases hb : a.block = l
 ·obtain ⟨o,h1,h2⟩ := t.was;unfold World.cell? at h;rw [hb,h1] at h;cases o <;> simp [Nb] at h2 <;> simp at h
 ·unfold World.cell? at *;rw [t.other _ hb]; exact h
theorem Ir.csize (t : Ir w w' l) (c : Nat) : csize w' c = csize w c := by
 unfold AM.csize
 by_cases hb : c = l
 ·subst hb;obtain ⟨o,h1,h2⟩ := t.was;obtain ⟨o',k1,k2⟩ := t.is;rw [h1,k1];cases o <;> simp [Nb] at h2 <;> cases o' <;> simp [Nb] at k2 <;> rfl
 ·rw [t.other _ hb]
mutual
theorem R.turn (t : Ir w w' l) : ∀ (x : AV) (v : Value),R C N w x v -> R C N w' x v
 | .pr _ _,v,hr => by unfold R at *; exact hr
 | .sr a off sz len cap,v,hr => by
  unfold R at *;obtain ⟨ad,k,h1,h2,h3,h4,h5⟩ := hr
  exact ⟨ad,k,h1,h2,h3,h4,fun c o hc => by rw [t.csize]; exact h5 c o hc⟩
 | .mp _,v,hr => by unfold R at *; exact hr
 | .it _,v,hr => by unfold R at *; exact hr
 | .stp _,v,hr => by unfold R at *; exact hr
 | .yl _,v,hr => by unfold R at *; exact hr
 | .flt _ _,v,hr => by unfold R at *; exact hr
 | .pv cs,v,hr => by
  unfold R at *;obtain ⟨c,o,h1,h2,h3⟩ := hr;exact ⟨c,o,h1,h2,RC.turn t cs c o h3⟩
 | .sv cs sz len cap,v,hr => by
  unfold R at *;obtain ⟨ado,q,h1,h2,h3,h4,h0,hh⟩ := hr;refine ⟨ado,q,h1,h2,h3,h4,h0,fun ad ha => ?_⟩
  obtain ⟨h5,h6,h7⟩ := hh ad ha;exact ⟨h5,h6,RC.turn t cs ad.block ad.off h7⟩
 | .fn f p q,v,hr => by
  unfold R at *;obtain ⟨a,c,h1,h2,h3⟩ := hr;exact ⟨a,c,h1,RL.turn t p _ h2,RL.turn t q _ h3⟩
 | .ifc ty x,v,hr => by
  unfold R at *;obtain ⟨y,h1,h2⟩ := hr;exact ⟨y,h1,R.turn t x y h2⟩
 | .agg cs,v,hr => by
  unfold R at *;obtain ⟨a,h1,h2,h3⟩ := hr;exact ⟨a,h1,RL.turn t cs _ h2,h3⟩
 | .tup vs,v,hr => by
  unfold R at *;obtain ⟨a,h1,h2⟩ := hr;exact ⟨a,h1,RL.turn t vs _ h2⟩
 | .any,v,hr => by unfold R; trivial
 | .bool x,v,hr => by unfold R at *; exact hr
 | .int k' n,v,hr => by unfold R at *; exact hr
 | .str l,v,hr => by unfold R at *; exact hr
 | .nil y,v,hr => by unfold R at *; exact hr
theorem RC.turn (t : Ir w w' l) : ∀ (cs : List AV) (c o : Nat),RC C N w c cs o -> RC C N w' c cs o
 | [],c,o,_ => by unfold RC; trivial
 | x :: r,c,o,hr => by
  unfold RC at *;obtain ⟨⟨v,h1,h2,h3⟩,h4⟩ := hr;exact ⟨⟨v,t.cell h1,h2,R.turn t x v h3⟩,RC.turn t r c (o + 1) h4⟩
theorem RL.turn (t : Ir w w' l) : ∀ (l : List AV) (vs : List Value),RL C N w l vs -> RL C N w' l vs
 | [],[],_ => by unfold RL; trivial
 | x :: r,v :: s,hr => by
  unfold RL at *;exact ⟨R.turn t x v hr.1,RL.turn t r s hr.2⟩
 | [],_ :: _,hr => by unfold RL at hr; exact hr.elim
 | _ :: _,[],hr => by unfold RL at hr; exact hr.elim
end
theorem ER.turn (t : Ir w w' l) : ∀ {l : List (Key × AV)} {L : List MapEntry},ER C N w l L -> ER C N w' l L
 | [],[],_ => by unfold ER; trivial
 | x :: r,f :: s,h => by unfold ER at *; exact ⟨⟨h.1.1,R.turn t _ _ h.1.2⟩,ER.turn t h.2⟩
 | [],_ :: _,h => by unfold ER at h; exact h.elim
 | _ :: _,[],h => by unfold ER at h; exact h.elim
theorem OR.turn {P : Program} {J : Sto} {a : Nat} {O : AO} (h : OR P C w J a O) (t : Ir w w' l) (hl : ¬ C.own l) : OR P C w' J a O := by
 have hh : ∀ {a c o},C.loc a = some (c,o) -> w'.heap[c]? = w.heap[c]? := fun {a c o} hc => t.other c (fun e => hl (.inr ⟨a,o,e ▸ hc⟩))
 cases O with
 | cells vs =>
  obtain ⟨c,o,cs,T,h1,h2,h3⟩ := h;exact ⟨c,o,cs,T,h1,(hh h1).trans h2,RC.turn t _ _ _ h3⟩
 | map kt es ver =>
  obtain ⟨c,E,clock,h1,h2,h3⟩ := h;obtain ⟨L,k1,k2⟩ := h3.perm;exact ⟨c,E,clock,h1,(hh h1).trans h2,h3.typed,⟨L,k1,ER.turn t k2⟩,h3.keys,h3.born,h3.apart⟩
 | iter m ver left cur =>
  cases m with
  | none =>
   obtain ⟨c,since,seen,last,h1,h2,h3⟩ := h;exact ⟨c,since,seen,last,h1,(hh h1).trans h2,h3⟩
  | some m =>
   obtain ⟨h0,c,cm,since,seen,last,h1,h2,h3⟩ := h;refine ⟨h0,c,cm,since,seen,last,h1,(hh h1).trans h2,fun kt es' v' hg => ?_⟩
   obtain ⟨k1,k2⟩ := h3 kt es' v' hg;refine ⟨k1,fun hv => ?_⟩
   obtain ⟨E,q1,q2,q3,⟨L,q4,q5⟩,q6⟩ := k2 hv;exact ⟨E,q1,(hh q1).trans q2,q3,⟨L,q4,ER.turn t q5⟩,fun k x hk => let ⟨f,f1,f2,f3,f4⟩ := q6 k x hk; ⟨f,f1,f2,f3,R.turn t _ _ f4⟩⟩
 | stamp m ver k =>
  obtain ⟨h0,h3⟩ := h;refine ⟨h0,fun kt es' v' hg => ?_⟩
  obtain ⟨k1,k2⟩ := h3 kt es' v' hg;refine ⟨k1,fun hv => ?_⟩
  obtain ⟨cm,E,clock,q1,q2,f⟩ := k2 hv;exact ⟨cm,E,clock,q1,(hh q1).trans q2,f⟩
 | loop st =>
  obtain ⟨c,r,h1,h2,h3⟩ := h;exact ⟨c,r,h1,h2,(hh h1).trans h3⟩
theorem Sim.turn {P : Program} {J : Sto} (h : Sim P C w J) (t : Ir w w' l) (hl : ¬ C.own l) : Sim P C w' J :=
 ⟨fun a O hg => (h.obj a O hg).turn t hl,h.bound,h.dom,h.inj,fun a c o hc => by rw [t.size]; exact h.lt a c o hc,fun b hb => by rw [t.size]; exact h.rlt b hb,h.rdis⟩
theorem Cr (J : Sto) : nx J.bump = nx J + 1 := by cases J; simp only [Sto.bump,Av,nx]
theorem G4 (J : Sto) (a : Nat) : J.bump.get a = J.get a := by cases J; simp only [Sto.bump,Av,Sto.get]
theorem Sim.bump {P : Program} {J : Sto} (h : Sim P C w J) (n : Int) :
  Sim P (C.addStm (nx J) n) w J.bump /\ Ext C (nx J) w (C.addStm (nx J) n) (nx J + 1) w := by
 have hne : ∀ {a},a < nx J -> ¬ a = nx J := fun h => by omega
 have e : Ext C (nx J) w (C.addStm (nx J) n) (nx J + 1) w := ⟨by omega,nl,fun b _ ho => ⟨ho,rfl⟩,fun _ _ _ h => h,
  fun a ha => by simp [Ctx.addStm,hne ha],fun _ _ => rfl,fun _ _ _ _ _ => rfl,⟨rfl,fun _ _ => rfl⟩,rfl,rfl⟩
 refine ⟨⟨fun a X hg => ?_,fun a X hg => ?_,fun a q hq => ?_,h.inj,h.lt,h.rlt,h.rdis⟩,e⟩
 ·rw [G4] at hg
  refine (h.obj a X hg).ext (by rw [Cr]; exact e) (h.bound a X hg) rfl (fun _ _ _ => rfl) fun x hx kt es' v' hg' => ?_
  rw [G4] at hg';exact ⟨kt,es',v',hg',nl,fun _ => ⟨rfl,fun _ _ _ => rfl⟩⟩
 ·rw [Cr]; rw [G4] at hg; have := h.bound a X hg; omega
 ·rw [G4]; exact h.dom a q hq
end
end Go.AM
