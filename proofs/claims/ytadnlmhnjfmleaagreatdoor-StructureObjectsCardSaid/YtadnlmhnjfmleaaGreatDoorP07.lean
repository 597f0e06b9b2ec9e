/- A part of the proof; shortened by program. -/
import Derived.KernelRfl
import Derived.Test.YtadnlmhnjfmleaaGreatDoorChecked
import Derived.Test.YtadnlmhnjfmleaaGreatDoorP06
set_option maxRecDepth 100000
set_option maxHeartbeats 4000000
set_option linter.unusedSimpArgs false
set_option linter.unusedVariables false
namespace Go.AM
open Go
section
variable {E : Env} {tm tm' : Tr AV} {J J' : Sto}
theorem Ih : ∀ {l : List Operand},(∀ x ∈ l,opd E tm x = opd E tm' x) -> opds E tm l = opds E tm' l
 | [],_ => rfl
 | x :: r,h => by simp only [opds,h x (by simp),Ih fun y hy => h y (am_ _ hy)]
theorem Rh {P : Program} {fs : List Field} : ∀ {l : List (Nat × Operand)},(∀ x ∈ l.map (·.2),opd E tm x = opd E tm' x) -> Ir P E tm fs l = Ir P E tm' fs l
 | [],_ => rfl
 | (i,x) :: r,h => by
  simp only [Ir,h x (by simp),Rh (l := r) fun y hy => h y (am_ _ hy)]
theorem Ln {n : Nat} : ∀ {l : List (Nat × Operand)},(∀ x ∈ l.map (·.2),opd E tm x = opd E tm' x) -> Ht E tm n l = Ht E tm' n l
 | [],_ => rfl
 | (i,x) :: r,h => by
  simp only [Ht,h x (by simp),Ln (l := r) fun y hy => h y (am_ _ hy)]
theorem Wq {op : Op} (h : ∀ x ∈ op.operands,opd E tm x = opd E tm' x) : Ar E op tm J = Ar E op tm' J := by
 cases op <;> simp only [Op.operands] at h <;> simp only [Ar]
 case build t ps =>
  have h' : ∀ x ∈ ps.toList.map (·.2),opd E tm x = opd E tm' x := fun x hx => h x (by simpa using hx)
  simp only [Rh h',Ln h']
 case buildSlice t n ps =>
  have h' : ∀ x ∈ ps.toList.map (·.2),opd E tm x = opd E tm' x := fun x hx => h x (by simpa using hx)
  simp only [Ln h']
 case makeFunc f first cap =>
  rw [Ih (l := first.toList) fun x hx => h x (by simp at hx; simp [hx]),Ih (l := cap.toList) fun x hx => h x (by simp at hx; simp [hx])]
 case makeMap t r =>
  cases hti : Aw E.P t with
  | none => rfl
  | some ti =>
   obtain ⟨d,n,b,z,g⟩ := ti;cases r with
   | none => cases d <;> rfl
   | some x => cases d <;> first | rfl | simp only [h x (by simp)]
 case slice t x lo hi mx => cases lo <;> cases hi <;> cases mx <;> simp_all [opdO]
 case call c =>
  have h' : opds E tm c.args.toList = opds E tm' c.args.toList := Ih fun x hx => h x (by simp [Call.operands]; right; simpa using hx)
  cases hc : c.callee with
  | builtin b =>
   simp only;cases hx : c.args.toList with
   | nil => cases c.argTypes.toList <;> rfl
   | cons y ys =>
    rw [hx] at h';simp only [opds,de_] at h';cases c.argTypes.toList with
    | nil => rfl
    | cons t ts => simp only [h'.1,h'.2]
  | value f => rfl
  | invoke r m => rfl
 all_goals (first | rfl | (simp_all; done))
theorem Acd {Rr : Rec} {op : Op} (h : ∀ x ∈ op.operands,opd E tm x = opd E tm' x) : opA E op Rr tm J = opA E op Rr tm' J := by
 cases op
 case call c =>
  cases hc : c.callee with
  | value f =>
   simp only [opA,hc]
   rw [h f (by simp [Op.operands,Call.operands,hc]),Ih (l := c.args.toList) fun x hx => h x (by simp [Op.operands,Call.operands,hc]; right; simpa using hx)]
  | builtin b => simp only [opA,hc]; exact Wq h
  | invoke r m =>
   simp only [opA,hc]
   rw [h r (by simp [Op.operands,Call.operands,hc]),Ih (l := c.args.toList) fun x hx => h x (by simp [Op.operands,Call.operands,hc]; right; simpa using hx)]
 all_goals (simp only [opA]; exact Wq h)
theorem D4.const (r : Option AV) : D4 fun J => match r with | some v => some (v,J) | none => none := by
 intro J J' v h;cases r with
 | none => cases h
 | some u => cases h; exact ⟨rfl,fun _ => rfl⟩
theorem D4.none : D4 fun _ => Option.none := fun _ _ _ h => by cases h
abbrev au_ := @D4.none
theorem D4.some (v : AV) : D4 fun J => Option.some (v,J) := fun _ _ _ h => by cases h; exact ⟨rfl,fun _ => rfl⟩
abbrev cj_ := @D4.some
theorem Ace (x : AV) : D4 (Yi x) := cj_ x
theorem An5 (t : Nat) (x : AV) : D4 (sIfc t x) := cj_ _
theorem Al6 (f : Fn) (a b : List AV) : D4 (Aj6 f a b) := cj_ _
theorem Al7 (c a b : AV) : D4 (Ab2 c a b) := by
 unfold Ab2; split
 ·exact cj_ _
 ·exact cj_ _
 ·exact au_
theorem Abt (x : AV) : D4 (Ib x) := by
 unfold Ib; split
 ·exact cj_ _
 ·exact cj_ _
 ·exact cj_ _
 ·exact au_
theorem Age (r : Option AV) : D4 (Uz r) := by
 unfold Uz; split
 ·exact cj_ _
 ·exact au_
theorem Zd (z : List AV) (ps : List (Nat × Nat × AV)) : D4 (Lk z ps) := by
 unfold Lk; split
 ·exact cj_ _
 ·exact au_
theorem Xu (z : List AV) (size len : Nat) (ps : List (Nat × Nat × AV)) : D4 (Hj z size len false ps) := by
 unfold Hj; split
 ·exact cj_ _
 ·exact au_
theorem An6 (n : Nat) (x : AV) : D4 (Anm n x) := by
 unfold Anm; split
 ·exact cj_ _
 ·exact au_
theorem Aiy (ti : TI) (n : Nat) (x : AV) : D4 (Yj ti n x) := by
 unfold Yj; split
 ·split
  ·exact cj_ _
  ·exact au_
 ·exact au_
theorem Jv (b : Bool) {f g : Sto -> Res} (hf : D4 f) (hg : D4 g) : D4 fun J => cond b (f J) (g J) := by
 cases b
 ·exact hg
 ·exact hf
theorem Ze (n : Nat) (x i : AV) : D4 (Ha n x i) := by
 unfold Ha; split
 ·split
  ·simp only [Ag]; exact Jv _ (cj_ _) au_
  ·exact Jv _ (cj_ _) au_
  ·exact au_
 ·exact au_
theorem Tz (l n : Nat) (x i : AV) : D4 (E7 l n x i) := by
 unfold E7; split
 ·exact Jv _ (D4.const _) au_
 ·exact au_
theorem Abu (x i : AV) : D4 (Jt x i) := by
 unfold Jt; split
 ·split
  ·exact cj_ _
  ·exact au_
 ·exact au_
theorem Abv (te : TI) (l : Nat) (x i : AV) : D4 (Ju te l x i) := by
 unfold Ju; split
 ·exact Jv _ (D4.const _) au_
 ·exact au_
theorem Ri (x : AV) (lo hi : Option AV) : D4 (Ly x lo hi) := by
 unfold Ly; split
 ·split
  ·exact cj_ _
  ·exact au_
 ·exact au_
theorem Zf (n : Nat) (x : AV) (lo hi mx : Option AV) : D4 (Ml n x lo hi mx) := by
 unfold Ml; split
 ·split
  ·split
   ·simp only [Ag]; exact cj_ _
   ·exact au_
  ·exact au_
 ·split
  ·split
   ·split
    ·simp only [Ag]; exact cj_ _
    ·exact au_
   ·exact au_
  ·exact au_
 ·split
  ·exact cj_ _
  ·exact au_
 ·exact au_
theorem Aeu (i : Nat) (x : AV) : D4 (L0 i x) := by
 unfold L0; split
 ·split
  ·exact cj_ _
  ·exact au_
 ·exact au_
theorem Agf (t : Nat) (z : Option AV) (ok : Bool) (x : AV) : D4 (Mo t z ok x) := by
 unfold Mo; split
 ·split
  ·exact cj_ _
  ·split
   ·exact cj_ _
   ·exact au_
 ·split
  ·exact cj_ _
  ·exact au_
 ·exact au_
theorem An7 (x : AV) : D4 (I6 x) := by
 unfold I6; split
 ·exact cj_ _
 ·exact cj_ _
 ·exact cj_ _
 ·exact au_
theorem Agg (f : Int -> Int -> Int) (x y : AV) : D4 (Yl f x y) := by
 unfold Yl; split
 ·exact Jv _ (cj_ _) au_
 ·exact au_
theorem Al8 (x y z : AV) : D4 (Aj8 x y z) := by
 unfold Aj8; split
 ·exact Jv _ (cj_ _) au_
 ·exact au_
theorem Al9 {op : Op} (hc : A5 E op = .pure) : D4 (Ar E op tm) := by
 show D4 fun J => Ar E op tm J
 cases op <;> simp only [A5] at hc <;> try (cases hc; done)
 case move x => exact Ace _
 case assign x => exact Ace _
 case pick c a b => exact Al7 _ _ _
 case nilCheck x => exact Abt _
 case build t ps =>
  simp only [Ar]; split
  ·split
   ·split
    ·exact Zd _ _
    ·exact au_
   ·split
    ·exact Zd _ _
    ·exact au_
   ·exact au_
  ·exact au_
 case buildSlice t n ps =>
  simp only [Ar]
  split at hc
  ·rename_i ti hti
   split at hc
   ·rename_i e hd
    split at hc
    ·cases hc
    ·rename_i hb
     split
     ·split
      ·split
       ·rw [hb]; exact Xu _ _ _ _
       ·exact au_
      ·exact au_
     ·exact au_
   ·cases hc
  ·cases hc
 case binOp op t x y _ => exact Age _
 case unOp op t x => exact Age _
 case makeInterface t x =>
  simp only [Ar]; split
  ·split
   ·exact au_
   ·exact An5 _ _
  ·exact au_
 case makeFunc f a b => exact Al6 _ _ _
 case slice t x lo hi mx =>
  simp only [Ar]
  split at hc
  ·rename_i ti hti
   split at hc
   ·cases hc
   ·rename_i hd
    split
    ·split
     ·exact Ri _ _ _
     ·exact au_
    ·split
     ·exact Zf _ _ _ _ _
     ·exact au_
    ·rename_i n e hd'; exact absurd hd' (hd n e)
    ·exact au_
  ·cases hc
 case fieldAddr t x i =>
  simp only [Ar]; split
  ·split
   ·split
    ·split
     ·split
      ·exact au_
      ·exact An6 _ _
     ·exact au_
    ·exact au_
   ·exact au_
  ·exact au_
 case field t x i =>
  simp only [Ar]; split
  ·split
   ·split
    ·split
     ·exact Aiy _ _ _
     ·exact au_
    ·exact au_
   ·exact au_
  ·exact au_
 case indexAddr t x i =>
  simp only [Ar]; split
  ·split
   ·split
    ·exact Ze _ _ _
    ·exact au_
   ·split
    ·exact Tz _ _ _ _
    ·exact au_
   ·exact au_
  ·exact au_
 case index t x i =>
  simp only [Ar]; split
  ·split
   ·exact Abu _ _
   ·split
    ·exact Abv _ _ _ _
    ·exact au_
   ·exact au_
  ·exact au_
 case extract x i => exact Aeu _ _
 case typeAssert x xt t ok =>
  simp only [Ar]; split
  ·split
   ·exact au_
   ·exact Agf _ _ _ _
  ·exact au_
 case call c =>
  simp only [Ar]
  split at hc <;> try (cases hc; done)
  all_goals first | (rename_i hb; simp only [hb]; exact au_) | skip
  all_goals rename_i hb
  all_goals simp only [hb]
  all_goals split <;> try exact au_
  all_goals split <;> try exact au_
  all_goals simp only [Dp]
  ·split
   ·exact An7 _
   ·exact au_
  ·split
   ·exact Agg _ _ _
   ·exact au_
  ·split
   ·exact Agg _ _ _
   ·exact Al8 _ _ _
   ·exact au_
theorem Zg {op : Op} (hc : A5 E op = .read) {v : AV} (h : Ar E op tm J = some (v,J')) : J' = J := by
 cases op <;> simp only [A5] at hc <;> try (cases hc; done)
 case load t x =>
  simp only [Ar] at h
  split at h
  ·unfold Lx at h
   (repeat' (split at h)) <;> first | (cases h; done) | (cases h; rfl)
  ·cases h
 case lookup t m k ok =>
  simp only [Ar] at h
  (repeat' (split at h)) <;> try (cases h; done)
  unfold Jn at h
  (repeat' (split at h)) <;> first | (cases h; done) | (cases h; rfl)
 case entry x =>
  simp only [Ar] at h;unfold Yk at h
  split at h
  ·split at h
   ·split at h
    ·unfold cond at h
     split at h
     ·cases h; rfl
     ·cases h
    ·cases h
   ·cases h
  ·cases h
 case convert s d x =>
  simp only [Ar] at h
  (repeat' (split at h)) <;> try (cases h; done)
  ·unfold S6 at h
   (repeat' (split at h)) <;> first | (cases h; done) | (cases h; rfl)
  ·unfold S7 at h;simp only [Ag] at h
   (repeat' (split at h)) <;> first | (cases h; done) | (cases h; rfl)
  ·unfold S8 at h
   (repeat' (split at h)) <;> first | (cases h; done) | (cases h; rfl)
  ·unfold Jm at h
   (repeat' (split at h)) <;> first | (cases h; done) | (cases h; rfl)
  ·unfold Jl at h
   (repeat' (split at h)) <;> first | (cases h; done) | (cases h; rfl)
 case slice t x lo hi mx =>
  simp only [Ar] at h
  (repeat' (split at h)) <;> try (cases h; done)
  ·exact (Ri _ _ _ _ _ _ h).1
  ·exact (Zf _ _ _ _ _ _ _ _ h).1
  ·unfold Lz at h;simp only [Ag] at h
   (repeat' (split at h)) <;> first | (cases h; done) | (cases h; rfl)
 case call c =>
  simp only [Ar] at h
  split at hc <;> try (cases hc; done)
  all_goals first | (rename_i hb; simp only [hb] at h; done) | (rename_i hb; simp only [hb] at h; cases h; done) | skip
  rename_i hb
  simp only [hb] at h
  (repeat' (split at h)) <;> try (cases h; done)
  simp only [Dp] at h
  (repeat' (split at h)) <;> try (cases h; done)
  ·unfold sLen at h
   (repeat' (split at h)) <;> first | (cases h; done) | (cases h; rfl)
  ·unfold Xy at h;simp only [Ag] at h
   (repeat' (split at h)) <;> first | (cases h; done) | (cases h; rfl)
  ·unfold Tb at h;simp only [Ag] at h
   (repeat' (split at h)) <;> first | (cases h; done) | (cases h; rfl)
  ·cases h; rfl
 all_goals (split at hc <;> first | (cases hc; done) | (split at hc <;> first | (cases hc; done) | (split at hc <;> cases hc)))
end
abbrev Ad := List (Nat × AV)
def Ad.at : Ad -> Nat -> Option AV
 | [],_ => none
 | (j,v) :: r,i => cond (Nat.beq j i) (some v) (Ad.at r i)
def Has (tm : Tr AV) (ρ : Ad) : Prop := ∀ i v,Ad.at ρ i = some v -> tm.get i = some v
def hdV : AV -> Option AV
 | .any => none
 | .bool b => some (.bool b)
 | .int k n => some (.int k n)
 | .str l => some (.str l)
 | .nil v => some (.nil v)
 | .agg l => some (.agg l)
 | .fn f a b => some (.fn f a b)
 | .tup l => some (.tup l)
 | _ => none
theorem As1 {v u : AV} (h : hdV v = some u) : v = u := by cases v <;> simp_all [hdV]
section
variable {E : Env} {ρ : Ad} {tm : Tr AV} {J J' J'' : Sto} {Rr : Rec} {lf nt : Nat} {df : List (Nat × List AV)}
def Ai (E : Env) (ρ : Ad) : Operand -> Option AV
 | .tmp t => Ad.at ρ t
 | .const v => hdV (ofV v)
 | .global g => match E.gl g with | some cs => some (.pv cs) | none => none
 | .func f => some (.fn (.func f) [] [])
def La (E : Env) (ρ : Ad) : List Operand -> Option (List AV)
 | [] => some []
 | x :: r => match Ai E ρ x,La E ρ r with
  | some v,some l => some (v :: l)
  | _,_ => none
def Iy (E : Env) (ρ : Ad) : Option Operand -> Option (Option AV)
 | none => some none
 | some x => match Ai E ρ x with | some v => some (some v) | none => none
theorem Has.opd (h : Has tm ρ) {x : Operand} {v : AV} (hx : Ai E ρ x = some v) : opd E tm x = v := by
 cases x with
 | tmp t => simp only [Ai] at hx; simp only [Go.AM.opd,h t v hx]
 | const c => exact As1 hx
 | global g =>
  simp only [Ai] at hx;simp only [Go.AM.opd]
  split at hx
  ·rename_i cs hg; cases hx; simp only [hg]
  ·cases hx
 | func f => simp only [Ai,ac_] at hx; exact hx
theorem Has.opds (h : Has tm ρ) : ∀ {l : List Operand} {vs : List AV},La E ρ l = some vs -> opds E tm l = vs
 | [],vs,hl => by simp only [La,ac_] at hl; subst hl; rfl
 | x :: r,vs,hl => by
  simp only [La] at hl
  split at hl
  ·rename_i v l hv hr
   cases hl;simp only [Go.AM.opds,h.opd hv,Has.opds h hr]
  ·cases hl
theorem Has.opdO (h : Has tm ρ) {x : Option Operand} {v : Option AV} (hx : Iy E ρ x = some v) : opdO E tm x = v := by
 cases x with
 | none => simp only [Iy,ac_] at hx; subst hx; rfl
 | some x =>
  simp only [Iy] at hx
  split at hx
  ·rename_i u hu; cases hx; simp only [Go.AM.opdO,h.opd hu]
  ·cases hx
theorem Has.put (h : Has tm ρ) (d : Nat) (v : AV) : Has (tm.put (d + 1) d (some v)) ((d,v) :: ρ) := by
 intro i u hu;rw [dl_];simp only [Ad.at] at hu;cases hb : Nat.beq d i with
 | true => rw [hb] at hu; have := aa_ hb; subst this; rw [if_pos rfl]; exact hu
 | false =>
  rw [hb] at hu
  rw [if_neg (fun he => by subst he; rw [bm_] at hb; cases hb)]
  exact h i u hu
def A0 (E : Env) (Rr : Rec) (op : Op) (ρ : Ad) (J : Sto) (v : AV) (J' : Sto) : Prop := ∀ tm,Has tm ρ -> opA E op Rr tm J = some (v,J')
variable {x y c a b : Operand} {v u u' z : AV} {l l' : List AV} {t : Nat} {n : Nat}
theorem Cm (hx : Ai E ρ x = some v) : A0 E Rr (.move x) ρ J v J := fun tm h => by simp only [opA,Ar,Yi,h.opd hx]
theorem L6 (hx : Ai E ρ x = some v) : A0 E Rr (.assign x) ρ J v J := fun tm h => by simp only [opA,Ar,Yi,h.opd hx]
theorem E5 {bb : Bool} (hc : Ai E ρ c = some (.bool bb)) (hb : bb = true) (hx : Ai E ρ a = some v) : A0 E Rr (.pick c a b) ρ J v J := fun tm h => by
 subst hb; simp only [opA,Ar,Ab2,h.opd hc,h.opd hx]
theorem Am {bb : Bool} (hc : Ai E ρ c = some (.bool bb)) (hb : bb = false) (hx : Ai E ρ b = some v) : A0 E Rr (.pick c a b) ρ J v J := fun tm h => by
 subst hb; simp only [opA,Ar,Ab2,h.opd hc,h.opd hx]
theorem Ama {ad off : Nat} (hx : Ai E ρ x = some (.pr ad off)) : A0 E Rr (.nilCheck x) ρ J (.pr ad off) J := fun tm h => by simp only [opA,Ar,Ib,h.opd hx]
theorem Amb (hx : Ai E ρ x = some (.pv l)) : A0 E Rr (.nilCheck x) ρ J (.pv l) J := fun tm h => by simp only [opA,Ar,Ib,h.opd hx]
def zI (P : Program) (t : Nat) : Option (List AV) := match Aw P t with | some ti => ti.zero | none => none
def ldI (P : Program) (t : Nat) : Option (Nat × Bool) := match Aw P t with | some ti => some (ti.size,ti.isAgg) | none => none
def okI (P : Program) (t : Nat) : Bool := match Aw P t with | some _ => true | none => false
def fdI (P : Program) (t i : Nat) : Option (Nat × Nat × Bool) := match Aw P t with
 | some ti => match ti.desc with
  | .struct fs => match fs.toList[i]? with
   | some f => match Aw P f.type with
    | some tf => some (f.offset,tf.size,tf.isAgg)
    | none => none
   | none => none
  | _ => none
 | none => none
def elI (P : Program) (t : Nat) : Option (Nat × Nat × Option (List AV)) := match Aw P t with
 | some ti => match ti.desc with
  | .slice e => match Aw P e with
   | some te => some (te.size,te.bytes,te.zero)
   | none => none
  | _ => none
 | none => none
def arI (P : Program) (t : Nat) : Option (Nat × Nat × Bool) := match Aw P t with
 | some ti => match ti.desc with
  | .array n e => match Aw P e with
   | some te => some (n,te.size,te.isAgg)
   | none => none
  | _ => none
 | none => none
def bdF (P : Program) : List Field -> Option (List (Nat × Nat))
 | [] => some []
 | f :: r => match Aw P f.type,bdF P r with
  | some ti,some l => some ((f.offset,ti.size) :: l)
  | _,_ => none
def bdI (P : Program) (t : Nat) : Option (List AV × List (Nat × Nat)) := match Aw P t with
 | some ti => match ti.zero,ti.desc with
  | some z,.struct fs => match P9 P fs.toList,bdF P fs.toList with
   | true,some l => some (z,l)
   | _,_ => none
  | _,_ => none
 | none => none
def mpI (P : Program) (t : Nat) : Option (Nat × AV × Nat × Bool) := match Aw P t with
 | some ti => match ti.desc with
  | .map kt et => match Aw P et with
   | some te => match Hr te with
    | some z => some (kt,z,te.size,te.isAgg)
    | none => none
   | none => none
  | _ => none
 | none => none
def Fb (P : Program) (t : Nat) : Bool := match Aw P t with | some ti => (match ti.desc with | .string => true | _ => false) | none => false
def X3 (P : Program) (t : Nat) : Bool := match Aw P t with | some ti => (match ti.desc with | .bool => true | _ => false) | none => false
def Kj (P : Program) (t : Nat) : Bool := match Aw P t with | some ti => (match ti.desc with | .slice _ => true | _ => false) | none => false
def Be (sz : Nat) (agg : Bool) (l : List AV) : Option AV :=
 match agg with
 | true => match Di sz l with | some cs => some (.agg cs) | none => none
 | false => match l with | v :: _ => some v | [] => none
def Cn (J : Sto) : AV -> Option (List AV)
 | .pr a off => match J.cells a with | some vs => some (vs.drop off) | none => none
 | .pv cs => some cs
 | _ => none
theorem Qj {P : Program} {sz : Nat} {agg : Bool} (h : ldI P t = some (sz,agg)) : ∃ ti,Aw P t = some ti /\ ti.size = sz /\ ti.isAgg = agg := by
 unfold ldI at h
 split at h
 ·rename_i ti hti; cases h; exact ⟨ti,hti,rfl,rfl⟩
 ·cases h
theorem Iz (ti : TI) (l : List AV) : Eh ti l = Be ti.size ti.isAgg l := by
 unfold Eh Be;cases ti.isAgg <;> rfl
theorem Ah {sz : Nat} {agg : Bool} {cs : List AV} (hi : ldI E.P t = some (sz,agg)) (hx : Ai E ρ x = some u) (hc : Cn J u = some cs) (hv : Be sz agg cs = some v) :
  A0 E Rr (.load t x) ρ J v J := fun tm h => by
 obtain ⟨ti,h1,h2,h3⟩ := Qj hi;subst h2 h3;simp only [opA,Ar,h1,h.opd hx];cases u <;> simp only [Cn] at hc <;> try (cases hc)
 ·rename_i a off
  split at hc
  ·rename_i vs hvs
   cases hc;simp only [Lx,hvs,Iz,hv]
  ·cases hc
 ·simp only [Lx,Iz,hv]
theorem A6 {sz : Nat} {agg : Bool} {ad off : Nat} {vs vs' cs : List AV} (hi : ldI E.P t = some (sz,agg)) (hx : Ai E ρ x = some (.pr ad off)) (hy : Ai E ρ y = some v)
  (hc : v.cellsN sz = some cs) (hv : J.cells ad = some vs) (hs : setAt vs off cs = some vs') : A0 E Rr (.store t x y) ρ J An (J.set ad (.cells vs')) := fun tm h => by
 obtain ⟨ti,h1,h2,h3⟩ := Qj hi;subst h2 h3;simp only [opA,Ar,h1,h.opd hx,h.opd hy,Uy,hc,hv,hs]
theorem B6 {z : List AV} (hi : zI E.P t = some z) : A0 E Rr (.alloc t) ρ J (.pr (nx J) 0) (J.new (.cells z)) := fun tm h => by
 unfold zI at hi
 split at hi
 ·rename_i ti hti
  simp only [opA,Ar,hti,hi,Yh]
 ·cases hi
theorem Aiz {sz : Nat} {agg : Bool} {cs : List AV} (hi : ldI E.P t = some (sz,agg)) (hx : Ai E ρ x = some v) (hc : v.cellsN sz = some cs) :
  A0 E Rr (.box t x) ρ J (.pr (nx J) 0) (J.new (.cells cs)) := fun tm h => by
 obtain ⟨ti,h1,h2,h3⟩ := Qj hi;subst h2 h3;simp only [opA,Ar,h1,h.opd hx,sBox,hc]
def addP : AV -> Nat -> Option AV
 | .pr a off,n => some (.pr a (off + n))
 | .pv cs,n => some (.pv (cs.drop n))
 | _,_ => none
theorem Akl (x : AV) (n : Nat) : Ro x n = addP x n := by cases x <;> simp only [Ro,addP,Ag]
theorem B3 {i off sz : Nat} {agg : Bool} (hi : fdI E.P t i = some (off,sz + 1,agg)) (hx : Ai E ρ x = some u) (hp : addP u off = some v) :
  A0 E Rr (.fieldAddr t x i) ρ J v J := fun tm h => by
 unfold fdI at hi
 split at hi
 ·rename_i ti hti
  split at hi
  ·rename_i fs hfs
   split at hi
   ·rename_i f hf
    split at hi
    ·rename_i tf htf
     simp only [ac_,ax_] at hi;obtain ⟨k1,k2,k3⟩ := hi;subst k1;simp only [opA,Ar,hti,hfs,hf,htf,k2,h.opd hx,Anm,Akl,hp]
    ·cases hi
   ·cases hi
  ·cases hi
 ·cases hi
theorem Zh {i off sz : Nat} {agg : Bool} {cs : List AV} (hi : fdI E.P t i = some (off,sz,agg)) (hx : Ai E ρ x = some (.agg cs)) (hv : Be sz agg (cs.drop off) = some v) :
  A0 E Rr (.field t x i) ρ J v J := fun tm h => by
 unfold fdI at hi
 split at hi
 ·rename_i ti hti
  split at hi
  ·rename_i fs hfs
   split at hi
   ·rename_i f hf
    split at hi
    ·rename_i tf htf
     simp only [ac_,ax_] at hi;obtain ⟨k1,k2,k3⟩ := hi;subst k1 k2 k3;simp only [opA,Ar,hti,hfs,hf,htf,h.opd hx,Yj,Iz,hv]
    ·cases hi
   ·cases hi
  ·cases hi
 ·cases hi
theorem T0 {sz by' : Nat} {zz : Option (List AV)} (h : elI E.P t = some (sz,by',zz)) : ∃ ti e te,Aw E.P t = some ti /\ ti.desc = .slice e /\ Aw E.P e = some te /\ te.size = sz /\ te.bytes = by' /\ te.zero = zz := by
 unfold elI at h
 split at h
 ·rename_i ti hti
  split at h
  ·rename_i e he
   split at h
   ·rename_i te hte
    simp only [ac_,ax_] at h;exact ⟨ti,e,te,hti,he,hte,h.1,h.2.1,h.2.2⟩
   ·cases h
  ·cases h
 ·cases h
theorem Zj {u : AV} {n : Nat} (h : lenA u = some n) (hs : Wh u = true) : (∃ a off sz cap,u = .sr a off sz n cap) ∨ (∃ cs sz cap,u = .sv cs sz n cap) ∨ (u = .nil (.slice none 0 0) /\ n = 0) := by
 unfold lenA at h
 split at h
 ·cases h; exact .inl ⟨_,_,_,_,rfl⟩
 ·cases h; exact .inr (.inl ⟨_,_,_,rfl⟩)
 ·cases h; exact .inr (.inr ⟨rfl,rfl⟩)
 ·simp [Wh] at hs
 ·cases h
def Agh : AV -> Nat -> AV
 | .sr a off sz _ _,n => .pr a (off + n)
 | .sv cs _ _ _,n => .pv (cs.drop n)
 | _,_ => .any
theorem Agi {sz by' m : Nat} {zz : Option (List AV)} {k : IntKind} (hi : elI E.P t = some (sz,by',zz)) (hx : Ai E ρ x = some u) (hy : Ai E ρ y = some (.int k (.ofNat n)))
  (hl : lenA u = some m) (hs : Wh u = true) (hn : n < m) : A0 E Rr (.indexAddr t x y) ρ J (Agh u (n * sz)) J := fun tm h => by
 obtain ⟨ti,e,te,h1,h2,h3,h4,h5,h6⟩ := T0 hi;subst h4;simp only [opA,Ar,h1,h2,h3,h.opd hx,h.opd hy]
 have hb : ∀ m,n < m -> Nat.blt n m = true := fun m hm => by simpa using hm
 rcases Zj hl hs with ⟨a,off,sz',cap,rfl⟩ | ⟨cs,sz',cap,rfl⟩ | ⟨rfl,rfl⟩
 ·simp only [Ha,hb _ hn,cond_true,Ag,Agh]
 ·simp only [Ha,hb _ hn,cond_true,Agh]
 ·omega
theorem I0 {sz m : Nat} {agg : Bool} {k : IntKind} (hi : arI E.P t = some (m,sz,agg)) (hx : Ai E ρ x = some u) (hy : Ai E ρ y = some (.int k (.ofNat n)))
  (hn : n < m) (hp : addP u (n * sz) = some v) : A0 E Rr (.indexAddr t x y) ρ J v J := fun tm h => by
 unfold arI at hi
 split at hi
 ·rename_i ti hti
  split at hi
  ·rename_i nn e he
   split at hi
   ·rename_i te hte
    simp only [ac_,ax_] at hi;obtain ⟨k1,k2,k3⟩ := hi;subst k1 k2
    have hb : Nat.blt n nn = true := by simpa using hn
    simp only [opA,Ar,hti,he,hte,h.opd hx,h.opd hy,E7,hb,cond_true,Akl,hp]
   ·cases hi
  ·cases hi
 ·cases hi
theorem Agj {s : List Nat} {k : IntKind} {w : Nat} (hi : Fb E.P t = true) (hx : Ai E ρ x = some (.str s)) (hy : Ai E ρ y = some (.int k (.ofNat n))) (hn : s[n]? = some w) :
  A0 E Rr (.index t x y) ρ J (.int .u8 (.ofNat w)) J := fun tm h => by
 unfold Fb at hi
 split at hi
 ·rename_i ti hti
  split at hi
  ·rename_i hd
   simp only [opA,Ar,hti,hd,h.opd hx,h.opd hy,Jt,hn]
  ·cases hi
 ·cases hi
theorem T1 {P : Program} (h : okI P t = true) : ∃ ti,Aw P t = some ti := by
 unfold okI at h
 split at h
 ·rename_i ti hti; exact ⟨ti,hti⟩
 ·cases h
theorem Ws (k : IntKind) : Es k k = true := by cases k <;> rfl
theorem Lo {k : IntKind} {op : BinOp} {p q : Int} {ty : Nat} (hi : okI E.P t = true) (hx : Ai E ρ x = some (.int k p)) (hy : Ai E ρ y = some (.int k q)) (hv : Gq op k p q = some v) :
  A0 E Rr (.binOp op t x y ty) ρ J v J := fun tm h => by
 obtain ⟨ti,hti⟩ := T1 hi;simp only [opA,Ar,h.opd hx,h.opd hy,Yg,hti,Ws,cond_true,hv,Uz]
theorem Ai0 {op : BinOp} {p q : List Nat} {ty : Nat} (hi : okI E.P t = true) (hx : Ai E ρ x = some (.str p)) (hy : Ai E ρ y = some (.str q)) (hv : Wg op p q = some v) :
  A0 E Rr (.binOp op t x y ty) ρ J v J := fun tm h => by
 obtain ⟨ti,hti⟩ := T1 hi;simp only [opA,Ar,h.opd hx,h.opd hy,Yg,hti,hv,Uz]
theorem Aqv {k : IntKind} {p q : Int} : Gq .lss k p q = some (.bool (decide (p < q))) := by
 simp only [Gq,D1]; congr 2; by_cases h : q <= p <;> simp [h] <;> omega
theorem Aqw {k : IntKind} {p q : Int} : Gq .leq k p q = some (.bool (decide (p <= q))) := by simp only [Gq,D1]
theorem Aqx {k : IntKind} {p q : Int} : Gq .gtr k p q = some (.bool (decide (q < p))) := by
 simp only [Gq,D1]; congr 2; by_cases h : p <= q <;> simp [h] <;> omega
theorem Aqy {k : IntKind} {p q : Int} : Gq .geq k p q = some (.bool (decide (q <= p))) := by simp only [Gq,D1]
theorem Aqz {k : IntKind} {p q : Int} : Gq .eql k p q = some (.bool (decide (p = q))) := by simp only [Gq,Ie]; congr 2
theorem Aq0 {k : IntKind} {p q : Int} : Gq .neq k p q = some (.bool (!decide (p = q))) := by simp only [Gq,Ie]; congr 2
theorem Aq1 {p q : Nat} (h : p + q < 9223372036854775808) : Gq .add .i64 (.ofNat p) (.ofNat q) = some (.int .i64 (.ofNat (p + q))) := by
 have : Nat.ble (p + q) 9223372036854775807 = true := bd_ Om;simp only [Gq,Aii,N3,Ag,Mj,this,cond_true]
theorem Akm {p q : List Nat} : Wg .eql p q = some (.bool (decide (p = q))) := by
 simp only [Wg]; congr 2; by_cases h : p = q
 ·rw [(Fp p q).2 h]; simp [h]
 ·cases hb : Fl p q
  ·simp [h]
  ·exact absurd ((Fp p q).1 hb) h
theorem Aq2 {p q : List Nat} : Wg .neq p q = some (.bool (!decide (p = q))) := by
 have := @Akm p q;simp only [Wg,ac_,AV.bool.injEq] at this ⊢;rw [this]
theorem An8 {k : IntKind} {p q : Int} {ty : Nat} (hi : okI E.P t = true) (hx : Ai E ρ x = some (.int k p)) (hy : Ai E ρ y = some (.int k q)) : A0 E Rr (.binOp .lss t x y ty) ρ J (.bool (decide (p < q))) J := Lo hi hx hy Aqv
theorem Rx {k : IntKind} {p q : Int} {ty : Nat} (hi : okI E.P t = true) (hx : Ai E ρ x = some (.int k p)) (hy : Ai E ρ y = some (.int k q)) : A0 E Rr (.binOp .leq t x y ty) ρ J (.bool (decide (p <= q))) J := Lo hi hx hy Aqw
theorem Aev {k : IntKind} {p q : Int} {ty : Nat} (hi : okI E.P t = true) (hx : Ai E ρ x = some (.int k p)) (hy : Ai E ρ y = some (.int k q)) : A0 E Rr (.binOp .gtr t x y ty) ρ J (.bool (decide (q < p))) J := Lo hi hx hy Aqx
theorem Ai1 {k : IntKind} {p q : Int} {ty : Nat} (hi : okI E.P t = true) (hx : Ai E ρ x = some (.int k p)) (hy : Ai E ρ y = some (.int k q)) : A0 E Rr (.binOp .geq t x y ty) ρ J (.bool (decide (q <= p))) J := Lo hi hx hy Aqy
theorem Lp {k : IntKind} {p q : Int} {ty : Nat} (hi : okI E.P t = true) (hx : Ai E ρ x = some (.int k p)) (hy : Ai E ρ y = some (.int k q)) : A0 E Rr (.binOp .eql t x y ty) ρ J (.bool (decide (p = q))) J := Lo hi hx hy Aqz
theorem Pe {k : IntKind} {p q : Int} {ty : Nat} (hi : okI E.P t = true) (hx : Ai E ρ x = some (.int k p)) (hy : Ai E ρ y = some (.int k q)) : A0 E Rr (.binOp .neq t x y ty) ρ J (.bool (!decide (p = q))) J := Lo hi hx hy Aq0
theorem Ek {p q : Nat} {ty : Nat} (hi : okI E.P t = true) (hx : Ai E ρ x = some (.int .i64 (.ofNat p))) (hy : Ai E ρ y = some (.int .i64 (.ofNat q))) (hb : p + q < 9223372036854775808) :
  A0 E Rr (.binOp .add t x y ty) ρ J (.int .i64 (.ofNat (p + q))) J := Lo hi hx hy (Aq1 hb)
theorem As2 {p q : List Nat} {ty : Nat} (hi : okI E.P t = true) (hx : Ai E ρ x = some (.str p)) (hy : Ai E ρ y = some (.str q)) : A0 E Rr (.binOp .eql t x y ty) ρ J (.bool (decide (p = q))) J := Ai0 hi hx hy Akm
theorem As3 {p q : List Nat} {ty : Nat} (hi : okI E.P t = true) (hx : Ai E ρ x = some (.str p)) (hy : Ai E ρ y = some (.str q)) : A0 E Rr (.binOp .neq t x y ty) ρ J (.bool (!decide (p = q))) J := Ai0 hi hx hy Aq2
theorem M2 {bb : Bool} (hx : Ai E ρ x = some (.bool bb)) : A0 E Rr (.unOp .not t x) ρ J (.bool (!bb)) J := fun tm h => by
 simp only [opA,Ar,h.opd hx,unA,Uz]
theorem Ai2 {vs : List AV} {i : Nat} (hx : Ai E ρ x = some (.tup vs)) (hv : vs[i]? = some v) : A0 E Rr (.extract x i) ρ J v J := fun tm h => by
 simp only [opA,Ar,h.opd hx,L0,hv]
theorem Akn {f : Fn} {p q : Array Operand} (hp : La E ρ p.toList = some l) (hq : La E ρ q.toList = some l') : A0 E Rr (.makeFunc f p q) ρ J (.fn f l l') J := fun tm h => by
 simp only [opA,Ar,h.opds hp,h.opds hq,Aj6]
theorem Aq3 {f : Operand} {args : Array Operand} {tys : Array Nat} {k : Nat} {vs first cap full : List AV} (hf : Ai E ρ f = some (.fn (.func k) first cap)) (ha : La E ρ args.toList = some vs)
  (hl : first ++ vs ++ cap = full) (hr : Rr (.fn k) full J = some (v,J')) : A0 E Rr (.call ⟨.value f,args,tys⟩) ρ J v J' := fun tm h => by
 subst hl;simp only [opA,h.opd hf,h.opds ha,Qc,hr]
theorem Zk {kt sz : Nat} {agg : Bool} (h : mpI E.P t = some (kt,z,sz,agg)) : ∃ ti et te,Aw E.P t = some ti /\ ti.desc = .map kt et /\ Aw E.P et = some te /\ Hr te = some z /\ te.size = sz /\ te.isAgg = agg := by
 unfold mpI at h
 split at h
 ·rename_i ti hti
  split at h
  ·rename_i kt' et he
   split at h
   ·rename_i te hte
    split at h
    ·rename_i z' hz
     simp only [ac_,ax_] at h;obtain ⟨k1,k2,k3,k4⟩ := h;subst k1 k2;exact ⟨ti,et,te,hti,he,hte,hz,k3,k4⟩
    ·cases h
   ·cases h
  ·cases h
 ·cases h
def Acf (J : Sto) (kt : Nat) (es : List (Key × AV)) : AV -> Prop
 | .mp r => ∃ ver,J.get r = some (.map kt es ver)
 | .nil (.map none) => es = []
 | _ => False
theorem Wt {kt : Nat} {es : List (Key × AV)} {u : AV} (h : Acf J kt es u) : (∃ r ver,u = .mp r /\ J.get r = some (.map kt es ver)) ∨ (u = .nil (.map none) /\ es = []) := by
 unfold Acf at h
 split at h
 ·obtain ⟨ver,h⟩ := h; exact .inl ⟨_,ver,rfl,h⟩
 ·exact .inr ⟨rfl,h⟩
 ·exact h.elim
theorem Amc {kt sz : Nat} {agg : Bool} {key : Key} {es : List (Key × AV)} (hi : mpI E.P t = some (kt,z,sz,agg)) (hx : Ai E ρ x = some u) (hm : Acf J kt es u)
  (hy : Ai E ρ y = some u') (hk : Hi E.P kt u' = some key) : A0 E Rr (.lookup t x y false) ρ J ((Dl key es).getD z) J := fun tm h => by
 obtain ⟨ti,et,te,h1,h2,h3,h4,h5,h6⟩ := Zk hi;simp only [opA,Ar,h1,h2,h3,h4,h.opd hx,h.opd hy,hk,Jn]
 rcases Wt hm with ⟨r,ver,rfl,hm'⟩ | ⟨rfl,rfl⟩
 ·simp only [hm',bm_];cases Dl key es <;> rfl
 ·simp [Dl,Ta]
theorem Ai3 {kt sz : Nat} {agg : Bool} {key : Key} {es : List (Key × AV)} (hi : mpI E.P t = some (kt,z,sz,agg)) (hx : Ai E ρ x = some u) (hm : Acf J kt es u)
  (hy : Ai E ρ y = some u') (hk : Hi E.P kt u' = some key) : A0 E Rr (.lookup t x y true) ρ J (.tup [(Dl key es).getD z,.bool (Dl key es).isSome]) J := fun tm h => by
 obtain ⟨ti,et,te,h1,h2,h3,h4,h5,h6⟩ := Zk hi;simp only [opA,Ar,h1,h2,h3,h4,h.opd hx,h.opd hy,hk,Jn]
 rcases Wt hm with ⟨r,ver,rfl,hm'⟩ | ⟨rfl,rfl⟩
 ·simp only [hm',bm_];cases Dl key es <;> rfl
 ·simp [Dl,Ta]
def mput (k : Key) (v : AV) (es : List (Key × AV)) : List (Key × AV) := match Dl k es with | some _ => Q7 k v es | none => Ov k v es
theorem Amd {kt sz ver r : Nat} {agg : Bool} {key : Key} {es : List (Key × AV)} {w : Operand} (hi : mpI E.P t = some (kt,z,sz,agg)) (hx : Ai E ρ x = some (.mp r)) (hm : J.get r = some (.map kt es ver))
  (hy : Ai E ρ y = some u') (hk : Hi E.P kt u' = some key) (hw : Ai E ρ w = some v) (hf : ∀ te : TI,te.size = sz -> te.isAgg = agg -> Q6 te v = true) :
  A0 E Rr (.mapUpdate t x y w) ρ J An (J.set r (.map kt (mput key v es) (ver + 1))) := fun tm h => by
 obtain ⟨ti,et,te,h1,h2,h3,h4,h5,h6⟩ := Zk hi;simp only [opA,Ar,h1,h2,h3,h.opd hx,h.opd hy,h.opd hw,hk,Mm,hm,bm_,hf te h5 h6,cy_,Ag,mput];cases Dl key es <;> rfl
theorem Kl {kt sz : Nat} {agg : Bool} (hi : mpI E.P t = some (kt,z,sz,agg)) : A0 E Rr (.makeMap t none) ρ J (.mp (nx J)) (J.new (.map kt [] 0)) := fun tm h => by
 obtain ⟨ti,et,te,h1,h2,h3,h4,h5,h6⟩ := Zk hi;simp only [opA,Ar,h1,h2,S9]
theorem Em {t₀ : Nat} (hi : Kj E.P t₀ = true) (hx : Ai E ρ x = some u) (hl : lenA u = some n) (hs : Wh u = true) : A0 E Rr (.call ⟨.builtin .len,#[x],#[t₀]⟩) ρ J (.int .i64 (.ofNat n)) J := fun tm h => by
 unfold Kj at hi
 split at hi
 ·rename_i ti hti
  split at hi
  ·rename_i e hd
   simp only [opA,Ar,hti,Dp,hd,h.opd hx,opds,sLen]
   rcases Zj hl hs with ⟨a,off,sz',cap,rfl⟩ | ⟨cs,sz',cap,rfl⟩ | ⟨rfl,rfl⟩ <;> rfl
  ·cases hi
 ·cases hi
theorem Ame {t₀ : Nat} {s : List Nat} (hi : Fb E.P t₀ = true) (hx : Ai E ρ x = some (.str s)) : A0 E Rr (.call ⟨.builtin .len,#[x],#[t₀]⟩) ρ J (.int .i64 (.ofNat s.length)) J := fun tm h => by
 unfold Fb at hi
 split at hi
 ·rename_i ti hti
  split at hi
  ·rename_i hd
   simp only [opA,Ar,hti,Dp,hd,h.opd hx,opds,Xy,Ag]
  ·cases hi
 ·cases hi
end
section
open Go Go.Proofs
def Ai4 : List AV := [.str [],.bool false,.int .i64 0,.int .i64 0,.str [36,99],.bool false,.int .i64 1,.int .i64 200,.str [36,118],.bool false,.int .i64 1,.int .i64 200,.str [36,102],.bool true,.int .i64 2,.int .i64 2,
 .str [36,101],.bool true,.int .i64 1,.int .i64 200,.str [36,100],.bool false,.int .i64 1,.int .i64 200,.str [36,97],.bool true,.int .i64 1,.int .i64 200,.str [36,112],.bool true,.int .i64 1,.int .i64 200,
 .str [36,123],.bool false,.int .i64 0,.int .i64 0,.str [36,125],.bool false,.int .i64 0,.int .i64 0]
def glW (g : Nat) : Option (List AV) := match Nat.beq g 0 with | true => some Ai4 | false => none
noncomputable def Ew : Env := { P := Tryz.prog,gl := glW,sum := fun _ => none,dsum := fun _ => none,byref := fun _ => false }
theorem Cu : Tryz.prog.follows .mixedOrders = true := by kernel_rfl
def Zl (fn : Func) : Bool := !(fn.name == "runtime.NumGoroutine")
theorem Aew : Tryz.prog.funcs.toList.all Zl = true := by kernel_rfl
theorem L7 (f : Nat) (fn : Func) (h : Tryz.prog.funcs[f]? = some fn) : (fn.name == "runtime.NumGoroutine") = false := by
 have h1 : fn ∈ Tryz.prog.funcs.toList := by
  obtain ⟨h2,h3⟩ := at_.1 h;rw [← h3]; exact Array.getElem_mem_toList h2
 have := br_.1 Aew fn h1
 simpa [Zl] using this
end
def Aex (E : Env) (f : Nat) (g : List AV -> Sto -> Option Sto) : Prop :=
 ∀ (C : Ctx) (w : World) (J : Sto) (args : List AV) (vs : Array Value) (J' : Sto),Sim E.P C w J -> Fo C (nx J) w E -> RL C (nx J) w args vs.toList -> g args J = some J' ->
  Vl E.P f /\ CallsD E.P f vs .returning w fun
   | .returned _,u',w' => u' = .returning /\ ∃ C',Sim E.P C' w' J' /\ Ext C (nx J) w C' (nx J') w'
   | _,_,_ => False
section
variable {E : Env} {C C' : Ctx} {N N' : Nat} {w w' : World} {Rr : Rec}
theorem Hk : ∀ (l : List AV) (i : Nat) (t : Tr AV) (j : Nat),(Hw l i t).get j = if i <= j /\ j < i + l.length then l[j - i]? else t.get j
 | [],i,t,j => by simp only [Hw]; rw [if_neg (by simp)]
 | x :: r,i,t,j => by
  simp only [Hw];rw [Hk r (i + 1),dl_];simp only [ap_]
  by_cases h1 : i + 1 <= j /\ j < i + 1 + r.length
  ·rw [if_pos h1,if_pos Om,show j - i = (j - (i + 1)) + 1 by omega]; rfl
  ·rw [if_neg h1]
   by_cases h2 : j = i
   ·subst h2; rw [if_pos rfl,if_pos Om]; simp
   ·rw [if_neg h2,if_neg Om]
theorem Aey {P : Program} {J : Sto} (hs : Sim P C w J) {tm : Tr AV} {tmps : Array Value} (ht : TR C (nx J) w tm tmps) {r : ResultVar} {v : AV} (h : Yo P tm J r = some v) :
  ∃ x,((match r with
   | .tmp t => pure (tmps.getD t undef)
   | .cell a t => do loadVar t (← asAddr (tmps.getD a undef)) : Sem Value)).run P w = .ok x w /\ R C (nx J) w v x := by
 cases r with
 | tmp t => exact ⟨_,rfl,ht t v h⟩
 | cell a t =>
  simp only [Yo] at h
  split at h
  ·rename_i ti hti
   split at h
   ·rename_i b off cw
    split at h
    ·rename_i vs hvs
     have hX := ht a _ cw
     have hl : Lx ti (.pr b off) J = some (v,J) := by simp [Lx,hvs,h]
     obtain ⟨_,x,q1,q2⟩ := O5 hs hti hX hl;unfold R at hX;obtain ⟨ad,hX,_⟩ := hX;refine ⟨x,?_,q2⟩
     show ((do loadVar t (← asAddr (tmps.getD a undef)) : Sem Value)).run P w = _
     rw [hX] at q1 ⊢
     simpa [Instr.loadAt,Instr.sureAddr,asAddr] using q1
    ·cases h
   ·cases h
  ·cases h
theorem Zm {P : Program} {J : Sto} (hs : Sim P C w J) {tm : Tr AV} {tmps : Array Value} (ht : TR C (nx J) w tm tmps) {f : ResultVar -> Sem Value}
  (hf : ∀ r,f r = match r with
   | .tmp t => pure (tmps.getD t undef)
   | .cell a t => do loadVar t (← asAddr (tmps.getD a undef))) : ∀ {rs : List ResultVar} {vs : List AV},Th P tm J rs = some vs -> ∃ xs,(rs.mapM f).run P w = .ok xs w /\ RL C (nx J) w vs xs
 | [],vs,h => by simp only [Th,ac_] at h; subst h; exact ⟨[],by simp,by unfold RL; trivial⟩
 | r :: rs,vs,h => by
  simp only [Th] at h
  split at h
  ·rename_i v l hv hl
   cases h;obtain ⟨x,h1,h2⟩ := Aey hs ht hv;obtain ⟨xs,h3,h4⟩ := Zm hs ht hf hl
   refine ⟨x :: xs,?_,by unfold RL; exact ⟨h2,h4⟩⟩
   have h1' : (f r).run P w = .ok x w := by rw [hf r]; exact h1
   simp [gr_,h1',h3]
  ·cases h
theorem Eb {P : Program} {J : Sto} (hs : Sim P C w J) {tm : Tr AV} {fn : Func} {tmps : Array Value} (ht : TR C (nx J) w tm tmps) {vs : List AV} (h : Th P tm J fn.results.toList = some vs) :
  ∃ x,(results fn tmps).run P w = .ok x w /\ R C (nx J) w (Tk vs) x := by
 obtain ⟨f,hf,he⟩ : ∃ f : ResultVar -> Sem Value,(∀ r,f r = match r with
   | .tmp t => pure (tmps.getD t undef)
   | .cell a t => do loadVar t (← asAddr (tmps.getD a undef))) /\ results fn tmps = (do let vs ← fn.results.mapM f; pure (if h : vs.size = 1 then vs[0] else .tuple vs)) :=
  ⟨_,fun r => by cases r <;> rfl,rfl⟩
 obtain ⟨xs,h1,h2⟩ := Zm hs ht hf h
 have hr : (results fn tmps).run P w = .ok (if h : xs.toArray.size = 1 then xs.toArray[0] else .tuple xs.toArray) w := by
  rw [he];simp only [Array.mapM_eq_mapM_toList,Sem.run_bind,Sem.run_map];rw [h1]
  simp
 refine ⟨_,hr,?_⟩
 match vs,xs,h2 with
 | [],[],_ => unfold Tk R; exact ⟨#[],rfl,by unfold RL; trivial⟩
 | [v],[x],h2 => unfold RL at h2; exact h2.1
 | v :: v' :: r,x :: x' :: s,h2 =>
  have : ¬ (x :: x' :: s).toArray.size = 1 := by simp
  rw [dif_neg this];simp only [Tk]; unfold R; exact ⟨_,rfl,h2⟩
 | [],_ :: _,h2 => unfold RL at h2; exact h2.elim
 | [_],[],h2 => unfold RL at h2; exact h2.elim
 | [_],_ :: _ :: _,h2 => unfold RL at h2; have := h2.2; unfold RL at this; exact this.elim
 | _ :: _ :: _,[],h2 => unfold RL at h2; exact h2.elim
 | _ :: _ :: _,[_],h2 => unfold RL at h2; have := h2.2; unfold RL at this; exact this.elim
theorem T2 (hmk : E.dsum Gh = none) (cu : ∀ f d,E.dsum f = some d -> Aex E f d) {tm : Tr AV} {tmps : Array Value} {fn : Func} {J' : Sto} {vs : List AV} :
  ∀ (df : List (Nat × List AV)) (C : Ctx) (w : World) (J : Sto) (ds : List Deferred) (RR : Ending -> World -> Prop),Sim E.P C w J -> Fo C (nx J) w E -> TR C (nx J) w tm tmps -> DR C (nx J) w df ds -> Vd E df J = some J' -> Th E.P tm J' fn.results.toList = some vs ->
   (∀ x w' C',Sim E.P C' w' J' -> Ext C (nx J) w C' (nx J') w' -> R C' (nx J') w' (Tk vs) x -> RR (.returned x) w') -> Leaves E.P fn tmps RR ds .returning w
 | [],C,w,J,[],RR,hs,hg,ht,_,hd,hr,hRR => by
  simp only [Vd,ac_] at hd; subst hd;obtain ⟨x,h1,h2⟩ := Eb hs ht hr;exact ⟨x,h1,hRR x w C hs (bz_ _ _ _) h2⟩
 | (f,args) :: df,C,w,J,d :: ds,RR,hs,hg,ht,hdr,hd,hr,hRR => by
  unfold DR at hdr;obtain ⟨hh,h3⟩ := hdr;simp only [Vd] at hd
  rcases hh with ⟨_,cap,h1,h2⟩ | ⟨h0,_⟩
  case inr => simp only at h0; subst h0; simp [hmk] at hd
  split at hd
  ·rename_i g hg'
   split at hd
   ·rename_i J₁ hJ₁
    obtain ⟨⟨fn',g1,g2,g3⟩,b8⟩ := cu f g hg' C w J args _ J₁ hs hg h2 hJ₁
    refine ⟨by simp,_,_,_,_,h1,?_,b8.mono fun e u' w' he => ?_⟩
    ·have g2' : fn'.name ≠ "runtime.NumGoroutine" := by simpa using g2
     have g3' : fn'.body ≠ none := fun hh => by rw [hh] at g3; cases g3
     rw [h1];simp only [invoke,callFunc,Sem.run_bind,run_program,Result.andThen_ok,g1]
     simp [g2',g3']
    ·cases e with
     | returned v =>
      obtain ⟨rfl,C',k1,k2⟩ := he;exact T2 hmk cu df C' w' J₁ ds RR k1 (hg.ext k2) (ht.ext k2) (h3.ext k2) hd hr fun x w'' C'' q1 q2 q3 => hRR x w'' C'' q1 (k2.trans q2) q3
     | panicked _ => exact he.elim
     | outgrown => exact he.elim
   ·cases hd
  ·cases hd
 | [],_,_,_,_ :: _,_,_,_,_,h,_,_,_ => by unfold DR at h; exact h.elim
 | _ :: _,_,_,_,[],_,_,_,_,h,_,_,_ => by unfold DR at h; exact h.elim
theorem Ry : ∀ {rs : List (AV × Sto)} {r : AV × Sto},Yp rs = some r -> ∀ y ∈ rs,∀ {P : Program} {C : Ctx} {w : World} {x : Value},Sim P C w y.2 -> R C (nx y.2) w y.1 x -> ∃ C',Sim P C' w r.2 /\ Ext C (nx y.2) w C' (nx r.2) w /\ R C' (nx r.2) w r.1 x
 | [],r,h,y,hy => by simp at hy
 | [z],r,h,y,hy => by
  simp only [Yp,ac_] at h; subst h;rw [an_] at hy; subst hy;intro hs hr;exact ⟨_,hs,bz_ _ _ _,hr⟩
 | z :: z' :: rs,r,h,y,hy => by
  have h : (match Yp (z' :: rs) with | some q => (match Te z.2 q.2 with | some J => some (AV.join z.1 q.1,J) | none => none) | none => none) = some r := h
  split at h
  ·rename_i q hq
   split at h
   ·rename_i J hJ
    cases h;obtain ⟨l1,l2⟩ := Zc hJ;intro hs hr
    rcases ai_.1 hy with rfl | hy
    ·obtain ⟨h1,h2⟩ := hs.weaken l1;exact ⟨_,h1,h2,(Aes _ _).R (R.ext h2 _ _ hr)⟩
    ·obtain ⟨C₁,k1,k2,k3⟩ := Ry hq y hy hs hr;obtain ⟨h1,h2⟩ := k1.weaken l2;exact ⟨_,h1,k2.trans h2,(Aet _ _).R (R.ext h2 _ _ k3)⟩
   ·cases h
  ·cases h
theorem L8 {C : Ctx} {w : World} {J : Sto} {args : List AV} {vs : Array Value} {fn : Func} (hs : Sim E.P C w J) (hg : Fo C (nx J) w E) (bg : RL C (nx J) w args vs.toList) (hle : args.length <= fn.ntmps) :
  SSt E C w ⟨Hw args 0 .e,fn.ntmps,[],J⟩ { tmps := vs ++ Array.replicate (fn.ntmps - vs.size) undef,defers := [] } := by
 have bn := bg.length;simp only [bv_] at bn
 refine ⟨hs,hg,fun i y hy => ?_,by simp; omega,by unfold DR; trivial⟩
 simp only at hy;rw [Hk] at hy
 split at hy
 ·rename_i hi
  rw [fa_] at hy;obtain ⟨x,k1,k2⟩ := bg.get i y hy
  have : (vs ++ Array.replicate (fn.ntmps - vs.size) undef).getD i undef = x := by
   rw [ba_,di_ Om,← bg_,k1]; rfl
  rw [this]; exact k2
 ·simp [Tr.get] at hy
theorem A7.of_body (hR : Ao E Rr) (hD : F7 E Rr) (cq : ∀ (f : Nat) (fn : Func), E.P.funcs[f]? = some fn -> (fn.name == "runtime.NumGoroutine") = false)
  (hmk : E.dsum Gh = none) (cu : ∀ f d,E.dsum f = some d -> Aex E f d) (lf : Nat) {f : Nat} {fn : Func} (hfn : E.P.funcs[f]? = some fn) : A7 E f (Anw E lf Rr fn) := by
 intro C w J args vs v J' hs hg bg h;unfold Anw at h
 split at h
 ·rename_i c hc
  cases hb : Nat.ble args.length fn.ntmps
  ·simp [hb] at h
  ·simp only [hb,cond_true] at h;have hle := ak_ hb
   refine ⟨⟨fn,hfn,cq f fn hfn,by rw [hc]; rfl⟩,?_⟩
   split at h
   ·rename_i l hl
    split at h
    ·rename_i rs hrs
     refine calls_of_wp_defers hfn hc ((wpIn_wide (n := 0)).1 ?_)
     refine wpIn_mono (K9 (Inv := fun _ _ _ => True) (ro := none) (n := 0) (fun h _ => h) hR hD lf (fun _ _ _ _ _ _ _ _ _ _ _ h => by cases h) c C w _ _ l (.inl rfl) trivial (L8 hs hg bg hle) hl) fun e a' w' hq => ?_
     obtain ⟨y,hy,C₁,hye,hst,b7⟩ := hq;obtain ⟨z,hz,en⟩ := K8 hrs _ (ck_ hy)
     have fin : y.1 = .normal ∨ y.1 = .ret -> Leaves E.P fn a'.tmps (Akh E.P C (nx J) w v J') a'.defers .returning w' := by
      intro hx;have cz : (match Vd E y.2.df y.2.sto with
       | some J => match Th E.P y.2.tm J fn.results.toList with
        | some vs => some (Tk vs,J)
        | none => none
       | none => none) = some z := by
       obtain ⟨x,s⟩ := y;simp only at hx
       rcases hx with rfl | rfl <;> exact en
      split at cz
      ·rename_i J₁ hJ₁
       split at cz
       ·rename_i vs₁ hvs₁
        cases cz;refine T2 hmk cu y.2.df C₁ w' y.2.sto a'.defers _ hst.sim hst.glob hst.tmps hst.dfs hJ₁ hvs₁ fun x w₂ C₂ q1 q2 q3 => ?_
        obtain ⟨C₃,k1,k2,k3⟩ := Ry h _ hz q1 q3;exact ⟨C₃,k1,b7.trans (q2.trans k2),k3⟩
       ·cases cz
      ·cases cz
     obtain ⟨x,s⟩ := y;subst hye;cases x with
     | normal => exact fin (.inl rfl)
     | ret => exact fin (.inr rfl)
     | exit id => simp [finA] at en
    ·cases h
   ·cases h
 ·cases h
end
def M3 : Obj -> Bool
 | .cells .. => false
 | _ => true
structure H8 (w w' : World) (l : Nat) : Prop where
 size : w'.heap.size = w.heap.size
 other : ∀ b,b ≠ l -> w'.heap[b]? = w.heap[b]?
 was : ∃ o,w.heap[l]? = some o /\ M3 o = true
 is : ∃ o,w'.heap[l]? = some o /\ M3 o = true
 os : w'.os = w.os /\ w'.output = w.output
theorem H8.put {w : World} {l : Nat} {o o' : Obj} (h : w.heap[l]? = some o) (h1 : M3 o = true) (h2 : M3 o' = true) : H8 w (w.putObj l o') l :=
 ⟨World.putObj_size,fun b hb => World.putObj_heap_other hb,⟨o,h,h1⟩,⟨o',World.putObj_heap_same (at_.1 h).1,h2⟩,rfl,rfl⟩
abbrev gp_ := @H8.put
section
variable {C : Ctx} {N : Nat} {w w' : World} {l : Nat}
theorem H8.cell (t : H8 w w' l) {a : Addr} {v : Value} (h : w.cell? a = some v) : w'.cell? a = some v := by
 by_cases hb : a.block = l
 ·obtain ⟨o,h1,h2⟩ := t.was;unfold World.cell? at h;rw [hb,h1] at h;cases o <;> simp [M3] at h2 <;> simp at h
 ·unfold World.cell? at *;rw [t.other _ hb]; exact h
theorem H8.csize (t : H8 w w' l) (c : Nat) : csize w' c = csize w c := by
 unfold AM.csize
 by_cases hb : c = l
 ·subst hb;obtain ⟨o,h1,h2⟩ := t.was;obtain ⟨o',k1,k2⟩ := t.is;rw [h1,k1];cases o <;> simp [M3] at h2 <;> cases o' <;> simp [M3] at k2 <;> rfl
 ·rw [t.other _ hb]
mutual
theorem R.turn (t : H8 w w' l) : ∀ (x : AV) (v : Value),R C N w x v -> R C N w' x v
 | .pr _ _,v,hr => by unfold R at *; exact hr
 | .sr a off sz len cap,v,hr => by
  unfold R at *;obtain ⟨ad,k,h1,h2,h3,h4,h5⟩ := hr
  exact ⟨ad,k,h1,h2,h3,h4,fun c o hc => by rw [t.csize]; exact h5 c o hc⟩
 | .mp _,v,hr => by unfold R at *; exact hr
 | .it _,v,hr => by unfold R at *; exact hr
 | .stp _,v,hr => by unfold R at *; exact hr
 | .yl _,v,hr => by unfold R at *; exact hr
 | .flt _ _,v,hr => by unfold R at *; exact hr
 | .pv cs,v,hr => by
  unfold R at *;obtain ⟨c,o,h1,h2,h3⟩ := hr;exact ⟨c,o,h1,h2,RC.turn t cs c o h3⟩
 | .sv cs sz len cap,v,hr => by
  unfold R at *;obtain ⟨ado,q,h1,h2,h3,h4,h0,hh⟩ := hr;refine ⟨ado,q,h1,h2,h3,h4,h0,fun ad ha => ?_⟩
  obtain ⟨h5,h6,h7⟩ := hh ad ha;exact ⟨h5,h6,RC.turn t cs ad.block ad.off h7⟩
 | .fn f p q,v,hr => by
  unfold R at *;obtain ⟨a,c,h1,h2,h3⟩ := hr;exact ⟨a,c,h1,RL.turn t p _ h2,RL.turn t q _ h3⟩
 | .ifc ty x,v,hr => by
  unfold R at *;obtain ⟨y,h1,h2⟩ := hr;exact ⟨y,h1,R.turn t x y h2⟩
 | .agg cs,v,hr => by
  unfold R at *;obtain ⟨a,h1,h2,h3⟩ := hr;exact ⟨a,h1,RL.turn t cs _ h2,h3⟩
 | .tup vs,v,hr => by
  unfold R at *;obtain ⟨a,h1,h2⟩ := hr;exact ⟨a,h1,RL.turn t vs _ h2⟩
 | .any,v,hr => by unfold R; trivial
 | .bool x,v,hr => by unfold R at *; exact hr
 | .int k' n,v,hr => by unfold R at *; exact hr
 | .str l,v,hr => by unfold R at *; exact hr
 | .nil y,v,hr => by unfold R at *; exact hr
theorem RC.turn (t : H8 w w' l) : ∀ (cs : List AV) (c o : Nat),RC C N w c cs o -> RC C N w' c cs o
 | [],c,o,_ => by unfold RC; trivial
 | x :: r,c,o,hr => by
  unfold RC at *;obtain ⟨⟨v,h1,h2,h3⟩,h4⟩ := hr;exact ⟨⟨v,t.cell h1,h2,R.turn t x v h3⟩,RC.turn t r c (o + 1) h4⟩
theorem RL.turn (t : H8 w w' l) : ∀ (l : List AV) (vs : List Value),RL C N w l vs -> RL C N w' l vs
 | [],[],_ => by unfold RL; trivial
 | x :: r,v :: s,hr => by
  unfold RL at *;exact ⟨R.turn t x v hr.1,RL.turn t r s hr.2⟩
 | [],_ :: _,hr => by unfold RL at hr; exact hr.elim
 | _ :: _,[],hr => by unfold RL at hr; exact hr.elim
end
theorem ER.turn (t : H8 w w' l) : ∀ {l : List (Key × AV)} {L : List MapEntry},ER C N w l L -> ER C N w' l L
 | [],[],_ => by unfold ER; trivial
 | x :: r,f :: s,h => by unfold ER at *; exact ⟨⟨h.1.1,R.turn t _ _ h.1.2⟩,ER.turn t h.2⟩
 | [],_ :: _,h => by unfold ER at h; exact h.elim
 | _ :: _,[],h => by unfold ER at h; exact h.elim
theorem OR.turn {P : Program} {J : Sto} {a : Nat} {O : AO} (h : OR P C w J a O) (t : H8 w w' l) (hl : ¬ C.own l) : OR P C w' J a O := by
 have hh : ∀ {a c o},C.loc a = some (c,o) -> w'.heap[c]? = w.heap[c]? := fun {a c o} hc => t.other c (fun e => hl (.inr ⟨a,o,e ▸ hc⟩))
 cases O with
 | cells vs =>
  obtain ⟨c,o,cs,T,h1,h2,h3⟩ := h;exact ⟨c,o,cs,T,h1,(hh h1).trans h2,RC.turn t _ _ _ h3⟩
 | map kt es ver =>
  obtain ⟨c,E,clock,h1,h2,h3⟩ := h;obtain ⟨L,k1,k2⟩ := h3.perm;exact ⟨c,E,clock,h1,(hh h1).trans h2,h3.typed,⟨L,k1,ER.turn t k2⟩,h3.keys,h3.born,h3.apart⟩
 | iter m ver left cur =>
  cases m with
  | none =>
   obtain ⟨c,since,seen,last,h1,h2,h3⟩ := h;exact ⟨c,since,seen,last,h1,(hh h1).trans h2,h3⟩
  | some m =>
   obtain ⟨h0,c,cm,since,seen,last,h1,h2,h3⟩ := h;refine ⟨h0,c,cm,since,seen,last,h1,(hh h1).trans h2,fun kt es' v' hg => ?_⟩
   obtain ⟨k1,k2⟩ := h3 kt es' v' hg;refine ⟨k1,fun hv => ?_⟩
   obtain ⟨E,q1,q2,q3,⟨L,q4,q5⟩,q6⟩ := k2 hv;exact ⟨E,q1,(hh q1).trans q2,q3,⟨L,q4,ER.turn t q5⟩,fun k x hk => let ⟨f,f1,f2,f3,f4⟩ := q6 k x hk; ⟨f,f1,f2,f3,R.turn t _ _ f4⟩⟩
 | stamp m ver k =>
  obtain ⟨h0,h3⟩ := h;refine ⟨h0,fun kt es' v' hg => ?_⟩
  obtain ⟨k1,k2⟩ := h3 kt es' v' hg;refine ⟨k1,fun hv => ?_⟩
  obtain ⟨cm,E,clock,q1,q2,f⟩ := k2 hv;exact ⟨cm,E,clock,q1,(hh q1).trans q2,f⟩
 | loop st =>
  obtain ⟨c,r,h1,h2,h3⟩ := h;exact ⟨c,r,h1,h2,(hh h1).trans h3⟩
theorem Sim.turn {P : Program} {J : Sto} (h : Sim P C w J) (t : H8 w w' l) (hl : ¬ C.own l) : Sim P C w' J :=
 ⟨fun a O hg => (h.obj a O hg).turn t hl,h.bound,h.dom,h.inj,fun a c o hc => by rw [t.size]; exact h.lt a c o hc,fun b hb => by rw [t.size]; exact h.rlt b hb,h.rdis⟩
theorem Bi (J : Sto) : nx J.bump = nx J + 1 := by cases J; simp only [Sto.bump,Ag,nx]
theorem D6 (J : Sto) (a : Nat) : J.bump.get a = J.get a := by cases J; simp only [Sto.bump,Ag,Sto.get]
theorem Sim.bump {P : Program} {J : Sto} (h : Sim P C w J) (n : Int) :
  Sim P (C.addStm (nx J) n) w J.bump /\ Ext C (nx J) w (C.addStm (nx J) n) (nx J + 1) w := by
 have hne : ∀ {a},a < nx J -> ¬ a = nx J := fun h => by omega
 have e : Ext C (nx J) w (C.addStm (nx J) n) (nx J + 1) w := ⟨by omega,nl,fun b _ ho => ⟨ho,rfl⟩,fun _ _ _ h => h,
  fun a ha => by simp [Ctx.addStm,hne ha],fun _ _ => rfl,fun _ _ _ _ _ => rfl,⟨rfl,fun _ _ => rfl⟩,rfl,rfl⟩
 refine ⟨⟨fun a X hg => ?_,fun a X hg => ?_,fun a q hq => ?_,h.inj,h.lt,h.rlt,h.rdis⟩,e⟩
 ·rw [D6] at hg
  refine (h.obj a X hg).ext (by rw [Bi]; exact e) (h.bound a X hg) rfl (fun _ _ _ => rfl) fun x hx kt es' v' hg' => ?_
  rw [D6] at hg';exact ⟨kt,es',v',hg',nl,fun _ => ⟨rfl,fun _ _ _ => rfl⟩⟩
 ·rw [Bi]; rw [D6] at hg; have := h.bound a X hg; omega
 ·rw [D6]; exact h.dom a q hq
end
end Go.AM
