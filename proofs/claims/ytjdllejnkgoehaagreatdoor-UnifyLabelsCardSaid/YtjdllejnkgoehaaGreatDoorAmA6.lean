/- Regions that draw their order: what an operation depends on. -/
import Derived.Test.YtjdllejnkgoehaaGreatDoorAmA5
namespace Go.AM
open Go

section
variable {E : Env} {tm tm' : Tr AV} {σ σ' : Sto}

theorem opds_congr : ∀ {l : List Operand}, (∀ x ∈ l, opd E tm x = opd E tm' x) → opds E tm l = opds E tm' l
  | [], _ => rfl
  | x :: r, h => by simp only [opds, h x (by simp), opds_congr fun y hy => h y (List.mem_cons_of_mem _ hy)]

theorem placesF_congr {P : Program} {fs : List Field} : ∀ {l : List (Nat × Operand)}, (∀ x ∈ l.map (·.2), opd E tm x = opd E tm' x) → placesF P E tm fs l = placesF P E tm' fs l
  | [], _ => rfl
  | (i, x) :: r, h => by
    simp only [placesF, h x (by simp), placesF_congr (l := r) fun y hy => h y (List.mem_cons_of_mem _ hy)]

theorem placesE_congr {n : Nat} : ∀ {l : List (Nat × Operand)}, (∀ x ∈ l.map (·.2), opd E tm x = opd E tm' x) → placesE E tm n l = placesE E tm' n l
  | [], _ => rfl
  | (i, x) :: r, h => by
    simp only [placesE, h x (by simp), placesE_congr (l := r) fun y hy => h y (List.mem_cons_of_mem _ hy)]

theorem stepA_congr {op : Op} (h : ∀ x ∈ op.operands, opd E tm x = opd E tm' x) : stepA E op tm σ = stepA E op tm' σ := by
  cases op <;> simp only [Op.operands] at h <;> simp only [stepA]
  case build t ps =>
    have h' : ∀ x ∈ ps.toList.map (·.2), opd E tm x = opd E tm' x := fun x hx => h x (by simpa using hx)
    simp only [placesF_congr h', placesE_congr h']
  case buildSlice t n ps =>
    have h' : ∀ x ∈ ps.toList.map (·.2), opd E tm x = opd E tm' x := fun x hx => h x (by simpa using hx)
    simp only [placesE_congr h']
  case makeFunc f first cap =>
    rw [opds_congr (l := first.toList) fun x hx => h x (by simp at hx; simp [hx]), opds_congr (l := cap.toList) fun x hx => h x (by simp at hx; simp [hx])]
  case makeMap t r =>
    cases hti : tiOf E.P t with
    | none => rfl
    | some ti =>
      obtain ⟨d, n, b, z, g⟩ := ti
      cases r with
      | none => cases d <;> rfl
      | some x => cases d <;> first | rfl | simp only [h x (by simp)]
  case slice t x lo hi mx => cases lo <;> cases hi <;> cases mx <;> simp_all [opdO]
  case call c =>
    have h' : opds E tm c.args.toList = opds E tm' c.args.toList := opds_congr fun x hx => h x (by simp [Call.operands]; right; simpa using hx)
    cases hc : c.callee with
    | builtin b =>
      simp only
      cases hx : c.args.toList with
      | nil => cases c.argTypes.toList <;> rfl
      | cons y ys =>
        rw [hx] at h'
        simp only [opds, List.cons.injEq] at h'
        cases c.argTypes.toList with
        | nil => rfl
        | cons t ts => simp only [h'.1, h'.2]
    | value f => rfl
    | invoke r m => rfl
  all_goals (first | rfl | (simp_all; done))

theorem opA_congr {Rr : Rec} {op : Op} (h : ∀ x ∈ op.operands, opd E tm x = opd E tm' x) : opA E op Rr tm σ = opA E op Rr tm' σ := by
  cases op
  case call c =>
    cases hc : c.callee with
    | value f =>
      simp only [opA, hc]
      rw [h f (by simp [Op.operands, Call.operands, hc]), opds_congr (l := c.args.toList) fun x hx => h x (by simp [Op.operands, Call.operands, hc]; right; simpa using hx)]
    | builtin b => simp only [opA, hc]; exact stepA_congr h
    | invoke r m => simp only [opA, hc]; exact stepA_congr h
  all_goals (simp only [opA]; exact stepA_congr h)

/- a pure operation: the same in every store -/
def Same (f : Sto → Res) : Prop := ∀ σ σ' v, f σ = some (v, σ') → σ' = σ ∧ ∀ τ, f τ = some (v, τ)

theorem Same.const (r : Option AV) : Same fun σ => match r with | some v => some (v, σ) | none => none := by
  intro σ σ' v h
  cases r with
  | none => cases h
  | some u => cases h; exact ⟨rfl, fun _ => rfl⟩

theorem Same.none : Same fun _ => Option.none := fun _ _ _ h => by cases h
theorem Same.some (v : AV) : Same fun σ => Option.some (v, σ) := fun _ _ _ h => by cases h; exact ⟨rfl, fun _ => rfl⟩

theorem same_move (x : AV) : Same (sMove x) := Same.some x
theorem same_ifc (t : Nat) (x : AV) : Same (sIfc t x) := Same.some _
theorem same_func (f : Fn) (a b : List AV) : Same (sFunc f a b) := Same.some _
theorem same_pick (c a b : AV) : Same (sPick c a b) := by
  unfold sPick; split
  · exact Same.some _
  · exact Same.some _
  · exact Same.none
theorem same_nilCheck (x : AV) : Same (sNilCheck x) := by
  unfold sNilCheck; split
  · exact Same.some _
  · exact Same.some _
  · exact Same.some _
  · exact Same.none
theorem same_bin (r : Option AV) : Same (sBin r) := by
  unfold sBin; split
  · exact Same.some _
  · exact Same.none
theorem same_build (z : List AV) (ps : List (Nat × Nat × AV)) : Same (sBuild z ps) := by
  unfold sBuild; split
  · exact Same.some _
  · exact Same.none
theorem same_buildSlice (z : List AV) (size len : Nat) (ps : List (Nat × Nat × AV)) : Same (sBuildSlice z size len false ps) := by
  unfold sBuildSlice; split
  · exact Same.some _
  · exact Same.none
theorem same_ptr (n : Nat) (x : AV) : Same (sPtr n x) := by
  unfold sPtr; split
  · exact Same.some _
  · exact Same.none
theorem same_field (ti : TI) (n : Nat) (x : AV) : Same (sField ti n x) := by
  unfold sField; split
  · split
    · exact Same.some _
    · exact Same.none
  · exact Same.none
theorem same_cond (b : Bool) {f g : Sto → Res} (hf : Same f) (hg : Same g) : Same fun σ => cond b (f σ) (g σ) := by
  cases b
  · exact hg
  · exact hf
theorem same_indexAddr (n : Nat) (x i : AV) : Same (sIndexAddr n x i) := by
  unfold sIndexAddr; split
  · split
    · simp only [forceN_eq]; exact same_cond _ (Same.some _) Same.none
    · exact same_cond _ (Same.some _) Same.none
    · exact Same.none
  · exact Same.none
theorem same_indexAddrArr (l n : Nat) (x i : AV) : Same (sIndexAddrArr l n x i) := by
  unfold sIndexAddrArr; split
  · exact same_cond _ (Same.const _) Same.none
  · exact Same.none
theorem same_indexStr (x i : AV) : Same (sIndexStr x i) := by
  unfold sIndexStr; split
  · split
    · exact Same.some _
    · exact Same.none
  · exact Same.none
theorem same_indexArr (te : TI) (l : Nat) (x i : AV) : Same (sIndexArr te l x i) := by
  unfold sIndexArr; split
  · exact same_cond _ (Same.const _) Same.none
  · exact Same.none
theorem same_sliceStr (x : AV) (lo hi : Option AV) : Same (sSliceStr x lo hi) := by
  unfold sSliceStr; split
  · split
    · exact Same.some _
    · exact Same.none
  · exact Same.none
theorem same_slice (n : Nat) (x : AV) (lo hi mx : Option AV) : Same (sSlice n x lo hi mx) := by
  unfold sSlice; split
  · split
    · split
      · simp only [forceN_eq]; exact Same.some _
      · exact Same.none
    · exact Same.none
  · split
    · split
      · split
        · simp only [forceN_eq]; exact Same.some _
        · exact Same.none
      · exact Same.none
    · exact Same.none
  · split
    · exact Same.some _
    · exact Same.none
  · exact Same.none
theorem same_extract (i : Nat) (x : AV) : Same (sExtract i x) := by
  unfold sExtract; split
  · split
    · exact Same.some _
    · exact Same.none
  · exact Same.none
theorem same_assert (t : Nat) (z : Option AV) (ok : Bool) (x : AV) : Same (sAssert t z ok x) := by
  unfold sAssert; split
  · split
    · exact Same.some _
    · split
      · exact Same.some _
      · exact Same.none
  · split
    · exact Same.some _
    · exact Same.none
  · exact Same.none
theorem same_cap (x : AV) : Same (sCap x) := by
  unfold sCap; split
  · exact Same.some _
  · exact Same.some _
  · exact Same.some _
  · exact Same.none
theorem same_min (f : Int → Int → Int) (x y : AV) : Same (sMin2 f x y) := by
  unfold sMin2; split
  · exact same_cond _ (Same.some _) Same.none
  · exact Same.none

theorem pure_same {op : Op} (hc : clsOf E op = .pure) : Same (stepA E op tm) := by
  show Same fun σ => stepA E op tm σ
  cases op <;> simp only [clsOf] at hc <;> try (cases hc; done)
  case move x => exact same_move _
  case assign x => exact same_move _
  case pick c a b => exact same_pick _ _ _
  case nilCheck x => exact same_nilCheck _
  case build t ps =>
    simp only [stepA]; split
    · split
      · split
        · exact same_build _ _
        · exact Same.none
      · split
        · exact same_build _ _
        · exact Same.none
      · exact Same.none
    · exact Same.none
  case buildSlice t n ps =>
    simp only [stepA]
    split at hc
    · rename_i ti hti
      split at hc
      · rename_i e hd
        split at hc
        · cases hc
        · rename_i hb
          split
          · split
            · split
              · rw [hb]; exact same_buildSlice _ _ _ _
              · exact Same.none
            · exact Same.none
          · exact Same.none
      · cases hc
    · cases hc
  case binOp op t x y _ => exact same_bin _
  case unOp op t x => exact same_bin _
  case makeInterface t x =>
    simp only [stepA]; split
    · split
      · exact Same.none
      · exact same_ifc _ _
    · exact Same.none
  case makeFunc f a b => exact same_func _ _ _
  case slice t x lo hi mx =>
    simp only [stepA]
    split at hc
    · rename_i ti hti
      split at hc
      · cases hc
      · rename_i hd
        split
        · split
          · exact same_sliceStr _ _ _
          · exact Same.none
        · split
          · exact same_slice _ _ _ _ _
          · exact Same.none
        · rename_i n e hd'; exact absurd hd' (hd n e)
        · exact Same.none
    · cases hc
  case fieldAddr t x i =>
    simp only [stepA]; split
    · split
      · split
        · split
          · split
            · exact Same.none
            · exact same_ptr _ _
          · exact Same.none
        · exact Same.none
      · exact Same.none
    · exact Same.none
  case field t x i =>
    simp only [stepA]; split
    · split
      · split
        · split
          · exact same_field _ _ _
          · exact Same.none
        · exact Same.none
      · exact Same.none
    · exact Same.none
  case indexAddr t x i =>
    simp only [stepA]; split
    · split
      · split
        · exact same_indexAddr _ _ _
        · exact Same.none
      · split
        · exact same_indexAddrArr _ _ _ _
        · exact Same.none
      · exact Same.none
    · exact Same.none
  case index t x i =>
    simp only [stepA]; split
    · split
      · exact same_indexStr _ _
      · split
        · exact same_indexArr _ _ _ _
        · exact Same.none
      · exact Same.none
    · exact Same.none
  case extract x i => exact same_extract _ _
  case typeAssert x xt t ok =>
    simp only [stepA]; split
    · split
      · exact Same.none
      · exact same_assert _ _ _ _
    · exact Same.none
  case call c =>
    simp only [stepA]
    split at hc <;> try (cases hc; done)
    all_goals rename_i hb
    all_goals simp only [hb]
    all_goals split <;> try exact Same.none
    all_goals split <;> try exact Same.none
    all_goals simp only [builtinA]
    · split
      · exact same_cap _
      · exact Same.none
    · split
      · exact same_min _ _ _
      · exact Same.none
    · split
      · exact same_min _ _ _
      · exact Same.none

/- an operation that reads leaves the store -/
theorem read_keeps {op : Op} (hc : clsOf E op = .read) {v : AV} (h : stepA E op tm σ = some (v, σ')) : σ' = σ := by
  cases op <;> simp only [clsOf] at hc <;> try (cases hc; done)
  case load t x =>
    simp only [stepA] at h
    split at h
    · unfold sLoad at h
      (repeat' (split at h)) <;> first | (cases h; done) | (cases h; rfl)
    · cases h
  case lookup t m k ok =>
    simp only [stepA] at h
    (repeat' (split at h)) <;> try (cases h; done)
    unfold sLookup at h
    (repeat' (split at h)) <;> first | (cases h; done) | (cases h; rfl)
  case entry x =>
    simp only [stepA] at h
    unfold sEntry at h
    split at h
    · split at h
      · split at h
        · unfold cond at h
          split at h
          · cases h; rfl
          · cases h
        · cases h
      · cases h
    · cases h
  case convert s d x =>
    simp only [stepA] at h
    (repeat' (split at h)) <;> try (cases h; done)
    · unfold sConvInt at h
      (repeat' (split at h)) <;> first | (cases h; done) | (cases h; rfl)
    · unfold sConvStr at h
      (repeat' (split at h)) <;> first | (cases h; done) | (cases h; rfl)
    · unfold sConvOfBytes at h
      (repeat' (split at h)) <;> first | (cases h; done) | (cases h; rfl)
    · unfold sConvToBytes at h
      (repeat' (split at h)) <;> first | (cases h; done) | (cases h; rfl)
  case slice t x lo hi mx =>
    simp only [stepA] at h
    (repeat' (split at h)) <;> try (cases h; done)
    · exact (same_sliceStr _ _ _ _ _ _ h).1
    · exact (same_slice _ _ _ _ _ _ _ _ h).1
    · unfold sSliceArr at h
      simp only [forceN_eq] at h
      (repeat' (split at h)) <;> first | (cases h; done) | (cases h; rfl)
  case call c =>
    simp only [stepA] at h
    split at hc <;> try (cases hc; done)
    rename_i hb
    simp only [hb] at h
    (repeat' (split at h)) <;> try (cases h; done)
    simp only [builtinA] at h
    (repeat' (split at h)) <;> try (cases h; done)
    · unfold sLen at h
      (repeat' (split at h)) <;> first | (cases h; done) | (cases h; rfl)
    · unfold sLenStr at h
      simp only [forceN_eq] at h
      (repeat' (split at h)) <;> first | (cases h; done) | (cases h; rfl)
    · unfold sLenMap at h
      simp only [forceN_eq] at h
      (repeat' (split at h)) <;> first | (cases h; done) | (cases h; rfl)
    · cases h; rfl
  all_goals (split at hc <;> first | (cases hc; done) | (split at hc <;> first | (cases hc; done) | (split at hc <;> cases hc)))

end
end Go.AM

/- Regions that draw their order: what comes before what. -/
namespace Go.AM
open Go

theorem bits_fold (A : Nat → Nat) (i : Nat) : ∀ (l : List Edge) (s : Nat), (l.foldl (fun s e => if Region.binds .any e then s ||| 2 ^ e.on ||| A e.on else s) s).testBit i = true →
    s.testBit i = true ∨ ∃ e ∈ l, Region.binds .any e = true ∧ (i = e.on ∨ (A e.on).testBit i = true)
  | [], s, h => .inl h
  | e :: l, s, h => by
    simp only [List.foldl_cons] at h
    rcases bits_fold A i l _ h with h1 | ⟨f, h1, h2⟩
    · by_cases hb : Region.binds .any e = true
      · rw [if_pos hb] at h1
        simp only [Nat.testBit_or, Bool.or_eq_true, Nat.testBit_two_pow, decide_eq_true_eq] at h1
        rcases h1 with (h1 | h1) | h1
        · exact .inl h1
        · exact .inr ⟨e, by simp, hb, .inl h1.symm⟩
        · exact .inr ⟨e, by simp, hb, .inr h1⟩
      · rw [if_neg hb] at h1; exact .inl h1
    · exact .inr ⟨f, List.mem_cons_of_mem _ h1, h2⟩

theorem push_fold (val : Array Nat → Oper → Nat) : ∀ (l : List Oper) (acc : Array Nat),
    (l.foldl (fun acc o => acc.push (val acc o)) acc).size = acc.size + l.length ∧ (∀ k, k < acc.size → (l.foldl (fun acc o => acc.push (val acc o)) acc)[k]? = acc[k]?) ∧
    ∀ (k : Nat) (o : Oper), l[k]? = some o → ∃ A : Array Nat, A.size = acc.size + k ∧ (∀ m, m < A.size → (l.foldl (fun acc o => acc.push (val acc o)) acc)[m]? = A[m]?) ∧ (l.foldl (fun acc o => acc.push (val acc o)) acc)[acc.size + k]? = some (val A o)
  | [], acc => ⟨by simp, fun k _ => rfl, fun k o h => by simp at h⟩
  | x :: l, acc => by
    obtain ⟨h1, h2, h3⟩ := push_fold val l (acc.push (val acc x))
    simp only [List.foldl_cons]
    simp only [Array.size_push] at h1 h2 h3
    refine ⟨by rw [h1]; simp; omega, fun k hk => ?_, fun k o hk => ?_⟩
    · rw [h2 k (by omega), Array.getElem?_push_lt hk]; exact (Array.getElem?_eq_getElem hk).symm
    · cases k with
      | zero =>
        simp at hk; subst hk
        refine ⟨acc, rfl, fun m hm => ?_, ?_⟩
        · rw [h2 m (by omega), Array.getElem?_push_lt hm]; exact (Array.getElem?_eq_getElem hm).symm
        · rw [Nat.add_zero, h2 acc.size (by omega)]; simp
      | succ k =>
        obtain ⟨A, a1, a2, a3⟩ := h3 k o (by simpa using hk)
        exact ⟨A, by omega, a2, by rw [← a3]; congr 1; omega⟩

theorem before_spec {ops : Array Oper} {j : Nat} {o : Oper} (ho : ops[j]? = some o) {i : Nat} (h : ((Region.before ops).getD j 0).testBit i = true) :
    ∃ e ∈ o.after, Region.binds .any e = true ∧ (i = e.on ∨ ((Region.before ops).getD e.on 0).testBit i = true) := by
  obtain ⟨f, hf⟩ : ∃ f : Array Nat → Oper → Nat, (∀ A o, f A o = o.after.toList.foldl (fun s e => if Region.binds .any e then s ||| 2 ^ e.on ||| A.getD e.on 0 else s) 0) ∧
      Region.before ops = ops.toList.foldl (fun acc o => acc.push (f acc o)) #[] := by
    refine ⟨fun A o => o.after.foldl (fun s e => if Region.binds .any e then s ||| 2 ^ e.on ||| A.getD e.on 0 else s) 0, fun A o => by simp only []; rw [← Array.foldl_toList], ?_⟩
    unfold Region.before
    rw [← Array.foldl_toList]
  obtain ⟨hf1, hf2⟩ := hf
  obtain ⟨_, _, h3⟩ := push_fold f ops.toList #[]
  obtain ⟨A, a1, a2, a3⟩ := h3 j o (by simpa using ho)
  rw [← hf2] at a2 a3
  have hv : (Region.before ops).getD j 0 = f A o := by
    rw [Array.getD_eq_getD_getElem?]
    have : (#[] : Array Nat).size + j = j := by simp
    rw [this] at a3; rw [a3]; rfl
  rw [hv, hf1] at h
  rcases bits_fold (fun k => A.getD k 0) i _ 0 h with h0 | ⟨e, h4, h5, h6⟩
  · simp at h0
  · refine ⟨e, by simpa using h4, h5, h6.imp id fun h7 => ?_⟩
    by_cases hk : e.on < A.size
    · rw [Array.getD_eq_getD_getElem?, a2 _ hk, ← Array.getD_eq_getD_getElem?]; exact h7
    · have : A.getD e.on 0 = 0 := by rw [Array.getD_eq_getD_getElem?, Array.getElem?_eq_none (by omega)]; rfl
      simp only [this, Nat.zero_testBit] at h7; cases h7

end Go.AM

/- Regions that draw their order: the run in the order of the text. -/
namespace Go.AM
open Go

section
variable {E : Env} {ops : List Oper} {Rr : Rec} {nt : Nat}

/- one operation of that run -/
def OneD (E : Env) (ops : List Oper) (Rr : Rec) (o : Oper) (tm : Tr AV) (σ : Sto) (v : AV) (σ' : Sto) : Prop :=
  (guardA ops o tm = some true ∧ opA E o.op Rr tm σ = some (v, σ')) ∨ (guardA ops o tm = some false ∧ v = undefA ∧ σ' = σ)

/- how many effects -/
def cnt (E : Env) : List Oper → Nat → Nat
  | [], _ => 0
  | _ :: _, 0 => 0
  | o :: r, k + 1 => (if isEff (clsOf E o.op) = true then 1 else 0) + cnt E r k

inductive Lex (E : Env) (ops : List Oper) (Rr : Rec) (nt : Nat) : List Oper → Tr AV → Sto → List (Tr AV × AV) → List Sto → Tr AV → Sto → Prop
  | nil {tm σ} : Lex E ops Rr nt [] tm σ [] [] tm σ
  | eff {o r tm σ v σ₁ tm₁ log eps tm' σ'} : isEff (clsOf E o.op) = true → OneD E ops Rr o tm σ v σ₁ → putA o.dst tm nt v = some tm₁ → Lex E ops Rr nt r tm₁ σ₁ log eps tm' σ' →
      Lex E ops Rr nt (o :: r) tm σ ((tm, v) :: log) (σ₁ :: eps) tm' σ'
  | calm {o r tm σ v σ₁ tm₁ log eps tm' σ'} : isEff (clsOf E o.op) = false → OneD E ops Rr o tm σ v σ₁ → putA o.dst tm nt v = some tm₁ → Lex E ops Rr nt r tm₁ σ log eps tm' σ' →
      Lex E ops Rr nt (o :: r) tm σ ((tm, v) :: log) eps tm' σ'

theorem draw_lex : ∀ {r : List Oper} {d d' : DS}, drawA E ops Rr r d = some d' → ∃ log eps, Lex E ops Rr d.s.nt r d.s.tm d.s.sto log eps d'.s.tm d'.s.sto ∧ d'.log.reverse = d.log.reverse ++ log ∧ d'.eps.reverse = d.eps.reverse ++ eps ∧ d'.s.nt = d.s.nt ∧ d'.s.df = d.s.df
  | [], d, d', h => by
    simp only [drawA, Option.some.injEq] at h; subst h
    exact ⟨[], [], .nil, by simp, by simp, rfl, rfl⟩
  | o :: r, d, d', h => by
    simp only [drawA] at h
    split at h
    · rename_i d₁ h₁
      obtain ⟨log, eps, k1, k2, k3, k4, k5⟩ := draw_lex h
      unfold oneDraw at h₁
      split at h₁
      · rename_i hg
        split at h₁
        · rename_i v σ hv
          split at h₁
          · rename_i tm htm
            split at h₁
            · rename_i he
              cases h₁
              exact ⟨_, _, .eff he (.inl ⟨hg, hv⟩) htm k1, by rw [k2]; simp, by rw [k3]; simp, k4, k5⟩
            · rename_i he
              cases h₁
              exact ⟨_, _, .calm he (.inl ⟨hg, hv⟩) htm k1, by rw [k2]; simp, k3, k4, k5⟩
          · cases h₁
        · cases h₁
      · rename_i hg
        split at h₁
        · rename_i tm htm
          split at h₁
          · rename_i he
            cases h₁
            exact ⟨_, _, .eff he (.inr ⟨hg, rfl, rfl⟩) htm k1, by rw [k2]; simp, by rw [k3]; simp, k4, k5⟩
          · rename_i he
            cases h₁
            exact ⟨_, _, .calm he (.inr ⟨hg, rfl, rfl⟩) htm k1, by rw [k2]; simp, k3, k4, k5⟩
        · cases h₁
      · cases h₁
    · cases h

theorem lex_at {r : List Oper} {tm tm' : Tr AV} {σ σ' : Sto} {log : List (Tr AV × AV)} {eps : List Sto} (h : Lex E ops Rr nt r tm σ log eps tm' σ') :
    log.length = r.length ∧ eps.length = cnt E r r.length ∧ (log.map (·.1) ++ [tm'])[0]? = some tm ∧ (σ :: eps)[eps.length]? = some σ' ∧
    ∀ (k : Nat) (o : Oper), r[k]? = some o → ∃ t v t₁ σk σ₁, log[k]? = some (t, v) ∧ (log.map (·.1) ++ [tm'])[k + 1]? = some t₁ ∧ (σ :: eps)[cnt E r k]? = some σk ∧ putA o.dst t nt v = some t₁ ∧ OneD E ops Rr o t σk v σ₁ ∧
      (isEff (clsOf E o.op) = true → (σ :: eps)[cnt E r k + 1]? = some σ₁) := by
  induction h with
  | nil => exact ⟨rfl, rfl, rfl, rfl, fun k o h => by simp at h⟩
  | @eff o r tm σ v σ₁ tm₁ log eps tm' σ' he hone hput hlex ih =>
    obtain ⟨h1, h2, h3, h4, h5⟩ := ih
    refine ⟨by simp [h1], by simp [cnt, he, h2]; omega, rfl, by simpa using h4, fun k o' hk => ?_⟩
    cases k with
    | zero =>
      simp at hk; subst hk
      exact ⟨tm, v, tm₁, σ, σ₁, rfl, by simpa using h3, rfl, hput, hone, fun _ => by simp [cnt]⟩
    | succ k =>
      obtain ⟨t, u, t₁, σk, σ₂, a1, a2, a3, a4, a5, a6⟩ := h5 k o' (by simpa using hk)
      refine ⟨t, u, t₁, σk, σ₂, by simpa using a1, by simpa using a2, ?_, a4, a5, fun hh => ?_⟩
      · simp only [cnt, he, if_true]; rw [Nat.add_comm, List.getElem?_cons_succ]; exact a3
      · simp only [cnt, he, if_true]; rw [show 1 + cnt E r k + 1 = (cnt E r k + 1) + 1 by omega, List.getElem?_cons_succ]; exact a6 hh
  | @calm o r tm σ v σ₁ tm₁ log eps tm' σ' he hone hput hlex ih =>
    obtain ⟨h1, h2, h3, h4, h5⟩ := ih
    refine ⟨by simp [h1], by simp [cnt, he, h2], rfl, h4, fun k o' hk => ?_⟩
    cases k with
    | zero =>
      simp at hk; subst hk
      exact ⟨tm, v, tm₁, σ, σ₁, rfl, by simpa using h3, rfl, hput, hone, fun hh => by rw [he] at hh; cases hh⟩
    | succ k =>
      obtain ⟨t, u, t₁, σk, σ₂, a1, a2, a3, a4, a5, a6⟩ := h5 k o' (by simpa using hk)
      refine ⟨t, u, t₁, σk, σ₂, by simpa using a1, by simpa using a2, ?_, a4, a5, fun hh => ?_⟩
      · simp only [cnt, he, Bool.false_eq_true, if_false, Nat.zero_add]; exact a3
      · simp only [cnt, he, Bool.false_eq_true, if_false, Nat.zero_add]; exact a6 hh

end
end Go.AM

/- Regions that draw their order: what the slots hold. -/
namespace Go.AM
open Go

section
variable (ops : Array Oper) (V : Nat → AV) (tm₀ : Tr AV)

/- what slot t holds when those of the first k operations that L names are done: the last of them counts -/
def curUpto (L : Nat → Bool) : Nat → Nat → Option AV
  | 0, t => tm₀.get t
  | i + 1, t => if L i = true ∧ (ops[i]?).bind (·.dst) = some t then some (V i) else curUpto L i t

variable {ops V tm₀}

theorem curUpto_congr {L L' : Nat → Bool} {t : Nat} : ∀ {k : Nat}, (∀ i, i < k → (ops[i]?).bind (·.dst) = some t → L i = L' i) → curUpto ops V tm₀ L k t = curUpto ops V tm₀ L' k t
  | 0, _ => rfl
  | i + 1, h => by
    simp only [curUpto]
    rw [curUpto_congr fun j hj => h j (by omega)]
    by_cases hd : (ops[i]?).bind (·.dst) = some t
    · rw [h i (by omega) hd]
    · rw [if_neg (fun hh => hd hh.2), if_neg (fun hh => hd hh.2)]

theorem curUpto_skip {L : Nat → Bool} {t k : Nat} : ∀ {m : Nat}, k ≤ m → (∀ i, k ≤ i → i < m → (ops[i]?).bind (·.dst) = some t → L i = false) → curUpto ops V tm₀ L m t = curUpto ops V tm₀ L k t
  | 0, hk, _ => by rw [show k = 0 by omega]
  | m + 1, hk, h => by
    by_cases he : k = m + 1
    · rw [he]
    · simp only [curUpto]
      rw [if_neg, curUpto_skip (by omega) fun i h1 h2 => h i h1 (by omega)]
      rintro ⟨h1, h2⟩
      rw [h m (by omega) (by omega) h2] at h1; cases h1

/- the slots of the run in the text's order -/
theorem lex_slots {T : Nat → Tr AV} {nt n : Nat} (h0 : T 0 = tm₀) (hT : ∀ k, k < n → ∃ o, ops[k]? = some o ∧ putA o.dst (T k) nt (V k) = some (T (k + 1))) : ∀ k, k ≤ n → ∀ t, (T k).get t = curUpto ops V tm₀ (fun _ => true) k t
  | 0, _, t => by rw [h0]; rfl
  | k + 1, hk, t => by
    obtain ⟨o, ho, hput⟩ := hT k (by omega)
    have ih := lex_slots h0 hT k (by omega) t
    simp only [curUpto, ho, Option.bind_some, true_and]
    cases hd : o.dst with
    | none =>
      rw [hd] at hput
      simp only [putA, Option.some.injEq] at hput
      rw [if_neg (by simp), ← hput]; exact ih
    | some d =>
      rw [hd] at hput
      simp only [putA, forceTr_eq] at hput
      cases hb : Nat.blt d nt
      · simp [hb] at hput
      · simp only [hb, cond_true, Option.some.injEq] at hput
        rw [← hput, Tr.get_put]
        by_cases ht : t = d
        · subst ht; rw [if_pos rfl, if_pos rfl]
        · rw [if_neg ht, if_neg (by simpa using fun hh => ht hh.symm)]; exact ih

/- a slot that operation j looks at or writes: its writers are ordered with j -/
def Ordered (ops : Array Oper) (j t : Nat) : Prop := ∀ i, i ≠ j → (ops[i]?).bind (·.dst) = some t →
  (i < j → ((Region.before ops).getD j 0).testBit i = true) ∧ (j < i → ((Region.before ops).getD i 0).testBit j = true)

/- the operations done: closed under 'before' -/
def Closed (ops : Array Oper) (L : Nat → Bool) : Prop := ∀ j, L j = true → ∀ i, ((Region.before ops).getD j 0).testBit i = true → L i = true

theorem slots_at {L : Nat → Bool} {j t n : Nat} (hj : j ≤ n) (hc : Closed ops L) (hL : L j = false) (hr : ∀ i, ((Region.before ops).getD j 0).testBit i = true → L i = true) (ho : Ordered ops j t) :
    curUpto ops V tm₀ L n t = curUpto ops V tm₀ (fun _ => true) j t := by
  rw [curUpto_skip (k := j) hj fun i h1 h2 hd => ?_]
  · refine curUpto_congr fun i hi hd => ?_
    exact hr i ((ho i (by omega) hd).1 hi)
  · by_cases hij : i = j
    · rw [hij]; exact hL
    · rw [Bool.eq_false_iff]
      intro hi
      have := hc i hi j ((ho i hij hd).2 (by omega))
      rw [hL] at this; cases this

/- j is done: its slot -/
theorem slots_put {L : Nat → Bool} {j t n : Nat} (hj : j < n) (hc : Closed ops L) (hL : L j = false) (ho : Ordered ops j t) (hd : (ops[j]?).bind (·.dst) = some t) :
    curUpto ops V tm₀ (fun i => L i || i == j) n t = some (V j) := by
  rw [curUpto_skip (k := j + 1) (by omega) fun i h1 h2 hdi => ?_]
  · simp only [curUpto, beq_self_eq_true, Bool.or_true, true_and]; rw [if_pos hd]
  · rw [Bool.eq_false_iff]
    intro hi
    rw [Bool.or_eq_true] at hi
    rcases hi with hi | hi
    · have := hc i hi j ((ho i (by omega) hdi).2 (by omega))
      rw [hL] at this; cases this
    · have : i = j := by simpa using hi
      omega

theorem slots_keep {L : Nat → Bool} {j t n : Nat} (hd : (ops[j]?).bind (·.dst) ≠ some t) :
    curUpto ops V tm₀ (fun i => L i || i == j) n t = curUpto ops V tm₀ L n t := by
  refine curUpto_congr fun i _ hdi => ?_
  have : (i == j) = false := by
    rw [beq_eq_false_iff_ne]; intro hh; subst hh; exact hd hdi
  rw [this, Bool.or_false]

end
end Go.AM

/- Regions that draw their order: effects in a chain, reads that stay the same. -/
namespace Go.AM
open Go

theorem getD_list (A : Array Nat) (i : Nat) : A.toList.getD i 0 = A.getD i 0 := by
  rw [List.getD_eq_getElem?_getD, Array.getD_eq_getD_getElem?, Array.getElem?_toList]

theorem ordered_of {ops : Array Oper} (h : slotsOk ops (Region.before ops).toList = true) {j : Nat} {o : Oper} (ho : ops[j]? = some o) {t : Nat} (ht : t ∈ o.looksAt ops ∨ o.dst = some t) : Ordered ops j t := by
  have key : ∀ i j x y, i < j → ops[i]? = some x → ops[j]? = some y → ((Region.before ops).getD j 0).testBit i = true ∨ Oper.apart ops x y = true := by
    intro i j x y hij hx hy
    unfold slotsOk at h
    rw [List.all_eq_true] at h
    have hlt := (Array.getElem?_eq_some_iff.1 hy).1
    have h1 := h j (List.mem_range.2 hlt)
    rw [List.all_eq_true] at h1
    have h2 := h1 i (List.mem_range.2 hij)
    rw [Bool.or_eq_true, getD_list] at h2
    rcases h2 with h2 | h2
    · exact .inl h2
    · simp only [hx, hy] at h2; exact .inr h2
  intro i hne hd
  cases hx : ops[i]? with
  | none => rw [hx] at hd; cases hd
  | some x =>
    rw [hx] at hd
    simp only [Option.bind_some] at hd
    refine ⟨fun hij => ?_, fun hji => ?_⟩
    · rcases key i j x o hij hx ho with h1 | h1
      · exact h1
      · obtain ⟨a1, a2, _⟩ := Oper.apart_spec h1
        rcases ht with ht | ht
        · exact absurd ht (a1 t hd)
        · exact absurd ht (a2 t hd)
    · rcases key j i o x hji ho hx with h1 | h1
      · exact h1
      · obtain ⟨_, a2, a3⟩ := Oper.apart_spec h1
        rcases ht with ht | ht
        · exact absurd ht (a3 t hd)
        · exact absurd hd (a2 t ht)

section
variable {E : Env}

theorem effIdx_spec : ∀ (l : List Oper) (i₀ : Nat), (∀ (k : Nat) (o : Oper), l[k]? = some o → isEff (clsOf E o.op) = true → (effIdx E l i₀)[cnt E l k]? = some (i₀ + k)) ∧
    (∀ (m e : Nat), (effIdx E l i₀)[m]? = some e → ∃ (k : Nat) (o : Oper), e = i₀ + k ∧ l[k]? = some o ∧ isEff (clsOf E o.op) = true ∧ cnt E l k = m)
  | [], i₀ => ⟨fun k o h => by simp at h, fun m e h => by simp [effIdx] at h⟩
  | o :: r, i₀ => by
    obtain ⟨h1, h2⟩ := effIdx_spec r (i₀ + 1)
    cases hb : isEff (clsOf E o.op)
    · simp only [effIdx, hb]
      refine ⟨fun k o' hk he => ?_, fun m e hm => ?_⟩
      · cases k with
        | zero => simp at hk; subst hk; rw [hb] at he; cases he
        | succ k =>
          simp only [cnt, hb, Bool.false_eq_true, if_false, Nat.zero_add]
          rw [h1 k o' (by simpa using hk) he]; congr 1; omega
      · obtain ⟨k, o', e1, e2, e3, e4⟩ := h2 m e hm
        exact ⟨k + 1, o', by omega, by simpa using e2, e3, by simp only [cnt, hb, Bool.false_eq_true, if_false, Nat.zero_add]; exact e4⟩
    · simp only [effIdx, hb]
      refine ⟨fun k o' hk he => ?_, fun m e hm => ?_⟩
      · cases k with
        | zero => simp [cnt]
        | succ k =>
          simp only [cnt, hb, if_true]
          rw [Nat.add_comm 1, List.getElem?_cons_succ, h1 k o' (by simpa using hk) he]; congr 1; omega
      · cases m with
        | zero => simp at hm; exact ⟨0, o, by omega, rfl, hb, rfl⟩
        | succ m =>
          obtain ⟨k, o', e1, e2, e3, e4⟩ := h2 m e (by simpa using hm)
          exact ⟨k + 1, o', by omega, by simpa using e2, e3, by simp only [cnt, hb, if_true]; omega⟩

theorem chained_spec {b : List Nat} : ∀ {l : List Nat}, chained b l = true → ∀ (k i j : Nat), l[k]? = some i → l[k + 1]? = some j → (b.getD j 0).testBit i = true
  | [], _, k, i, j, h, _ => by simp at h
  | [x], _, k, i, j, _, h => by simp at h
  | x :: y :: l, hc, k, i, j, hi, hj => by
    simp only [chained, Bool.and_eq_true] at hc
    cases k with
    | zero => simp at hi hj; subst hi hj; exact hc.1
    | succ k => exact chained_spec (l := y :: l) hc.2 k i j (by simpa using hi) (by simpa using hj)

theorem countPre_lt {p : Nat → Bool} : ∀ {l : List Nat} {k e : Nat}, k < countPre p l → l[k]? = some e → p e = true
  | [], k, e, h, _ => by simp [countPre] at h
  | x :: l, k, e, h, he => by
    simp only [countPre] at h
    split at h
    · rename_i hp
      cases k with
      | zero => simp at he; subst he; exact hp
      | succ k => exact countPre_lt (l := l) (k := k) (by omega) (by simpa using he)
    · omega

theorem countPre_le {p : Nat → Bool} : ∀ {l : List Nat} {m : Nat}, m ≤ l.length → (∀ k e, k < m → l[k]? = some e → p e = true) → m ≤ countPre p l
  | l, 0, _, _ => Nat.zero_le _
  | [], m + 1, h, _ => by simp at h
  | x :: l, m + 1, h, hp => by
    simp only [countPre]
    rw [hp 0 x (by omega) rfl]
    have := countPre_le (l := l) (m := m) (by simpa using h) fun k e hk he => hp (k + 1) e (by omega) (by simpa using he)
    simp only; omega

theorem countPre_max {p : Nat → Bool} : ∀ (l : List Nat), countPre p l ≤ l.length
  | [] => by simp [countPre]
  | x :: l => by
    simp only [countPre]
    split
    · have := countPre_max (p := p) l; simp; omega
    · omega

theorem annsFrom_get {b effs : List Nat} : ∀ (l : List Oper) (i k : Nat) (o : Oper), l[k]? = some o → (annsFrom E b effs l i)[k]? = some ⟨clsOf E o.op, countPre (fun e => (b.getD (i + k) 0).testBit e) effs, countPre (fun e => !(b.getD e 0).testBit (i + k)) effs⟩
  | [], i, k, o, h => by simp at h
  | x :: l, i, k, o, h => by
    cases k with
    | zero =>
      simp at h; subst h
      simp only [annsFrom, forceN_eq]
      cases hc : clsOf E x.op <;> rfl
    | succ k =>
      have ih := annsFrom_get (b := b) (effs := effs) l (i + 1) k o (by simpa using h)
      simp only [annsFrom, forceN_eq]
      cases hc : clsOf E x.op <;> (simp only [List.getElem?_cons_succ]; rw [ih]; simp only [show i + 1 + k = i + (k + 1) by omega])

theorem steadyAll_get {ops : List Oper} {eps : List Sto} : ∀ {as : List Ann} {os : List Oper} {log : List (Tr AV × AV)}, steadyAll E ops eps as os log = true → ∀ (k : Nat) (a : Ann) (o : Oper) (t : Tr AV) (v : AV), as[k]? = some a → os[k]? = some o → log[k]? = some (t, v) → a.cls = .read →
    steady E ops o t v ((eps.drop a.lo).take (a.hi + 1 - a.lo)) = true
  | [], [], [], _, k, a, o, t, v, h, _, _, _ => by simp at h
  | x :: as, y :: os, (t', v') :: log, hs, k, a, o, t, v, ha, ho, hl, hc => by
    simp only [steadyAll, Bool.and_eq_true] at hs
    cases k with
    | zero =>
      simp at ha ho hl
      obtain ⟨rfl, rfl⟩ := hl
      subst ha ho
      have := hs.1
      rw [hc] at this; exact this
    | succ k => exact steadyAll_get hs.2 k a o t v (by simpa using ha) (by simpa using ho) (by simpa using hl) hc
  | [], _ :: _, _, hs, _, _, _, _, _, _, _, _, _ => by simp [steadyAll] at hs
  | [], [], _ :: _, hs, _, _, _, _, _, _, _, _, _ => by simp [steadyAll] at hs
  | _ :: _, [], _, hs, _, _, _, _, _, _, _, _, _ => by simp [steadyAll] at hs
  | _ :: _, _ :: _, [], hs, _, _, _, _, _, _, _, _, _ => by simp [steadyAll] at hs

end
end Go.AM
