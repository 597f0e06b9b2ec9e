/- Regions that draw their order: sound. -/
import Derived.Test.YtjdllejnkgoehaaGreatDoorAmA6
namespace Go.AM
open Go

/- nothing is ready: all is done -/
theorem ready_nil {ops : Array Oper} (he : edgesOk ops = true) {listed : Array Bool} (hs : listed.size = ops.size) (h : Region.ready .any ops listed = []) : ∀ i, i < ops.size → listed.getD i false = true := by
  intro i
  induction i using Nat.strongRecOn with
  | _ i ih =>
    intro hi
    cases hl : listed.getD i false with
    | true => rfl
    | false =>
      exfalso
      have hm : i ∈ Region.ready .any ops listed := by
        rw [mem_ready]
        have ho : ops[i]? = some ops[i] := by simp [hi]
        refine ⟨?_, ops[i], ho, fun e hem hb => ?_⟩
        · have : i < listed.size := by omega
          rw [Array.getD_eq_getD_getElem?, Array.getElem?_eq_getElem this] at hl ⊢
          exact hl
        · unfold edgesOk at he
          rw [List.all_eq_true] at he
          have h1 := he i (List.mem_range.2 hi)
          simp only [ho] at h1
          rw [Array.all_eq_true_iff_forall_mem] at h1
          have h2 := h1 e hem
          rw [Bool.or_eq_true] at h2
          rcases h2 with h2 | h2
          · rw [hb] at h2; cases h2
          · exact ih e.on (by simpa using h2) (by have : e.on < i := by simpa using h2
                                                  omega)
      rw [h] at hm; cases hm

theorem set_getD {listed : Array Bool} {j n : Nat} (hs : listed.size = n) (hj : j < n) (i : Nat) : (listed.setIfInBounds j true).getD i false = (listed.getD i false || i == j) := by
  by_cases hij : i = j
  · subst hij; simp [hs, hj]
  · rw [getD_set_ne false (Ne.symm hij)]
    have : (i == j) = false := by simpa using hij
    rw [this, Bool.or_false]

section
variable {E : Env} {tm tm' : Tr AV} {ops : Array Oper}

/- a guard, and an operation, look at their slots alone -/
theorem guardA_congr {o : Oper} (h : ∀ t ∈ o.looksAt ops, tm.get t = tm'.get t) : guardA ops.toList o tm = guardA ops.toList o tm' := by
  unfold guardA
  cases hg : o.guard with
  | none => rfl
  | some gw =>
    obtain ⟨j, want⟩ := gw
    simp only
    cases hj : ops.toList[j]? with
    | none => rfl
    | some oj =>
      simp only
      cases hd : oj.dst with
      | none => rfl
      | some d =>
        simp only
        have hj' : ops[j]? = some oj := by simpa using hj
        rw [h d (by simp [Oper.looksAt, hg, hj', hd])]

theorem opd_congr {o : Oper} (h : ∀ t ∈ o.looksAt ops, tm.get t = tm'.get t) : ∀ x ∈ o.op.operands, opd E tm x = opd E tm' x := by
  intro x hx
  cases x with
  | tmp t =>
    have : t ∈ o.looksAt ops := List.mem_append_left _ (List.mem_filterMap.2 ⟨.tmp t, by simpa using hx, rfl⟩)
    simp only [opd, h t this]
  | _ => rfl

/- the slots of a list alone -/
def only (tm : Tr AV) : List Nat → Tr AV
  | [] => .e
  | t :: l => match tm.get t with
    | some v => (only tm l).put (t + 1) t (some v)
    | none => only tm l

theorem only_get {tm : Tr AV} : ∀ {l : List Nat} {t : Nat} {v : AV}, (only tm l).get t = some v → t ∈ l ∧ tm.get t = some v
  | [], t, v, h => by simp [only, Tr.get] at h
  | u :: l, t, v, h => by
    simp only [only] at h
    split at h
    · rename_i x hx
      rw [Tr.get_put] at h
      by_cases ht : t = u
      · subst ht; rw [if_pos rfl] at h; cases h; exact ⟨by simp, hx⟩
      · rw [if_neg ht] at h; obtain ⟨h1, h2⟩ := only_get h; exact ⟨by simp [h1], h2⟩
    · obtain ⟨h1, h2⟩ := only_get h; exact ⟨by simp [h1], h2⟩

theorem only_eq {tm : Tr AV} : ∀ {l : List Nat} {t : Nat}, t ∈ l → (only tm l).get t = tm.get t
  | [], t, h => by simp at h
  | u :: l, t, h => by
    simp only [only]
    by_cases ht : t = u
    · subst ht
      split
      · rename_i x hx; rw [Tr.get_put, if_pos rfl, hx]
      · rename_i hx
        cases hg : (only tm l).get t with
        | none => exact hx.symm
        | some v => have := (only_get hg).2; rw [hx] at this; cases this
    · have hl : t ∈ l := by simpa [ht] using h
      split
      · rw [Tr.get_put, if_neg ht]; exact only_eq hl
      · exact only_eq hl

end
end Go.AM

/- Regions that draw their order: sound, one step. -/
namespace Go.AM
open Go

/- what is given of the run in the text's order -/
structure Lexed (E : Env) (ops : Array Oper) (Rr : Rec) (nt : Nat) (tm₀ : Tr AV) (es : List Nat) (T : Nat → Tr AV) (V : Nat → AV) (S : List Sto) : Prop where
  slots : slotsOk ops (Region.before ops).toList = true
  hes : es = effIdx E ops.toList 0
  len : S.length = es.length + 1
  chain : chained (Region.before ops).toList es = true
  here : ∀ (j : Nat) (o : Oper), ops[j]? = some o → ∃ σk σ₁, S[cnt E ops.toList j]? = some σk ∧ putA o.dst (T j) nt (V j) = some (T (j + 1)) ∧ OneD E ops.toList Rr o (T j) σk (V j) σ₁ ∧ (isEff (clsOf E o.op) = true → S[cnt E ops.toList j + 1]? = some σ₁)
  get : ∀ j, j ≤ ops.size → ∀ t, (T j).get t = curUpto ops V tm₀ (fun _ => true) j t
  steady : ∀ (j : Nat) (o : Oper), ops[j]? = some o → clsOf E o.op = .read → AM.steady E ops.toList o (T j) (V j)
    ((S.drop (countPre (fun e => ((Region.before ops).getD j 0).testBit e) es)).take (countPre (fun e => !((Region.before ops).getD e 0).testBit j) es + 1 - countPre (fun e => ((Region.before ops).getD j 0).testBit e) es)) = true

structure Inv (E : Env) (ops : Array Oper) (nt : Nat) (df : List (Nat × List AV)) (tm₀ : Tr AV) (es : List Nat) (V : Nat → AV) (S : List Sto) (C₀ : Ctx) (N₀ : Nat) (w₀ : World)
    (L : Nat → Bool) (m : Nat) (σ : Sto) (C : Ctx) (w : World) (a : Act) : Prop where
  closed : Closed ops L
  effs : ∀ k e, es[k]? = some e → (L e = true ↔ k < m)
  sto : S[m]? = some σ
  sim : Sim E.P C w σ
  glob : Glob C (nx σ) w E
  slots : ∀ t x, curUpto ops V tm₀ L ops.size t = some x → R C (nx σ) w x (a.tmps.getD t undef)
  size : a.tmps.size = nt
  dfs : DR C (nx σ) w df a.defers
  ext : Ext C₀ N₀ w₀ C (nx σ) w

section
variable {E : Env} {ops : Array Oper} {Rr : Rec} {nt : Nat} {df : List (Nat × List AV)} {tm₀ : Tr AV} {es : List Nat} {T : Nat → Tr AV} {V : Nat → AV} {S : List Sto} {C₀ C : Ctx} {N₀ : Nat} {w₀ w : World} {L : Nat → Bool} {m : Nat} {σ : Sto} {a : Act}

/- an operation is done -/
theorem Inv.next (lx : Lexed E ops Rr nt tm₀ es T V S) (iv : Inv E ops nt df tm₀ es V S C₀ N₀ w₀ L m σ C w a) {j : Nat} {o : Oper} (ho : ops[j]? = some o) (hL : L j = false) (hr : ∀ i, ((Region.before ops).getD j 0).testBit i = true → L i = true)
    {m' : Nat} {σ' : Sto} {C' : Ctx} {w' : World} {x : Value} (hsto : S[m']? = some σ') (heffs : ∀ k e, es[k]? = some e → ((L e || e == j) = true ↔ k < m')) (hs : Sim E.P C' w' σ') (he : Ext C (nx σ) w C' (nx σ') w') (hx : R C' (nx σ') w' (V j) x) :
    Inv E ops nt df tm₀ es V S C₀ N₀ w₀ (fun i => L i || i == j) m' σ' C' w' (a.put o.dst x) := by
  have hj := (Array.getElem?_eq_some_iff.1 ho).1
  obtain ⟨_, _, _, hput, _, _⟩ := lx.here j o ho
  have hdn : ∀ d, o.dst = some d → d < nt := fun d hd => by
    rw [hd] at hput
    simp only [putA] at hput
    cases hb : Nat.blt d nt
    · simp [hb] at hput
    · exact Nat.le_of_ble_eq_true hb
  refine ⟨fun i hi k hk => ?_, heffs, hsto, hs, iv.glob.ext he, fun t y hy => ?_, ?_, ?_, iv.ext.trans he⟩
  · rw [Bool.or_eq_true] at hi ⊢
    rcases hi with hi | hi
    · exact .inl (iv.closed i hi k hk)
    · have : i = j := by simpa using hi
      subst this; exact .inl (hr k hk)
  · by_cases hd : (ops[j]?).bind (·.dst) = some t
    · have hd' : o.dst = some t := by rw [ho] at hd; exact hd
      rw [slots_put hj iv.closed hL (ordered_of lx.slots ho (.inr hd')) hd] at hy
      cases hy
      have := hdn t hd'
      rw [hd']
      have : t < a.tmps.size := by rw [iv.size]; exact this
      simp [Act.put, this]; exact hx
    · rw [slots_keep hd] at hy
      have h1 := R.ext he _ _ (iv.slots t y hy)
      cases hod : o.dst with
      | none => exact h1
      | some d =>
        have hne : d ≠ t := fun hh => hd (by rw [ho]; simp [hod, hh])
        simpa [Act.put, Array.getElem?_setIfInBounds_ne hne] using h1
  · cases hod : o.dst <;> simp [Act.put, iv.size]
  · have : (a.put o.dst x).defers = a.defers := by cases o.dst <;> rfl
    rw [this]; exact iv.dfs.ext he

end
end Go.AM

/- Regions that draw their order: sound, one step of the run. -/
namespace Go.AM
open Go

section
variable {E : Env} {ops : Array Oper} {Rr : Rec} {nt : Nat} {df : List (Nat × List AV)} {tm₀ : Tr AV} {es : List Nat} {T : Nat → Tr AV} {V : Nat → AV} {S : List Sto} {C₀ C : Ctx} {N₀ : Nat} {w₀ w : World} {L : Nat → Bool} {m : Nat} {σ : Sto} {a : Act}

theorem opA_step {op : Op} (h : isEff (clsOf E op) = false) : ∀ tm σ, opA E op Rr tm σ = stepA E op tm σ := by
  intro tm σ
  cases op
  case call c =>
    cases hc : c.callee with
    | value f => simp [clsOf, hc, isEff] at h
    | builtin b => simp only [opA, hc]
    | invoke r n => simp only [opA, hc]
  all_goals rfl

theorem Inv.step (hR : RecSound E Rr) (lx : Lexed E ops Rr nt tm₀ es T V S) (iv : Inv E ops nt df tm₀ es V S C₀ N₀ w₀ L m σ C w a) {j : Nat} {o : Oper} (ho : ops[j]? = some o) (hL : L j = false) (hr : ∀ i, ((Region.before ops).getD j 0).testBit i = true → L i = true)
    {K : Act → World → Prop} {Q : Exit → Act → World → Prop} (hK : ∀ m' σ' C' w' a', Inv E ops nt df tm₀ es V S C₀ N₀ w₀ (fun i => L i || i == j) m' σ' C' w' a' → K a' w') : wpOp E.P ops Q j K a w := by
  have hj := (Array.getElem?_eq_some_iff.1 ho).1
  have hol : ops.toList[j]? = some o := by simpa using ho
  obtain ⟨σk, σ₁, h1, hput, hone, h3⟩ := lx.here j o ho
  have hslots : ∀ t ∈ o.looksAt ops, curUpto ops V tm₀ L ops.size t = (T j).get t := fun t ht => by
    rw [lx.get j (by omega)]
    exact slots_at (by omega) iv.closed hL hr (ordered_of lx.slots ho (.inl ht))
  have st : SSt E C w ⟨only (T j) (o.looksAt ops), nt, df, σ⟩ a := ⟨iv.sim, iv.glob, fun t y hy => by
    obtain ⟨k1, k2⟩ := only_get hy
    exact iv.slots t y (by rw [hslots t k1]; exact k2), iv.size, iv.dfs⟩
  have hgc : guardA ops.toList o (only (T j) (o.looksAt ops)) = guardA ops.toList o (T j) := guardA_congr fun t ht => only_eq ht
  have hoc : ∀ τ, opA E o.op Rr (only (T j) (o.looksAt ops)) τ = opA E o.op Rr (T j) τ := fun τ => opA_congr (opd_congr fun t ht => only_eq ht)
  obtain ⟨e1, e2⟩ := effIdx_spec (E := E) ops.toList 0
  rw [← lx.hes] at e1 e2
  -- where the store stands
  have heff : isEff (clsOf E o.op) = true → σ = σk ∧ ∀ k e, es[k]? = some e → ((L e || e == j) = true ↔ k < cnt E ops.toList j + 1) := by
    intro he
    have hc := e1 j o hol he
    rw [Nat.zero_add] at hc
    have hle : m ≤ cnt E ops.toList j := by
      have := iv.effs _ _ hc
      rw [hL] at this
      have h0 : ¬ (cnt E ops.toList j < m) := fun hh => by have := this.2 hh; cases this
      omega
    have hge : cnt E ops.toList j ≤ m := by
      rcases Nat.eq_zero_or_pos (cnt E ops.toList j) with h0 | h0
      · omega
      · have hlt := (List.getElem?_eq_some_iff.1 hc).1
        have hp : es[cnt E ops.toList j - 1]? = some es[cnt E ops.toList j - 1] := List.getElem?_eq_getElem (by omega)
        have hb := chained_spec lx.chain _ _ _ hp (by rw [show cnt E ops.toList j - 1 + 1 = cnt E ops.toList j by omega]; exact hc)
        rw [getD_list] at hb
        have := (iv.effs _ _ hp).1 (hr _ hb)
        omega
    have hm : m = cnt E ops.toList j := by omega
    refine ⟨by have := iv.sto; rw [hm, h1] at this; cases this; rfl, fun k e hk => ?_⟩
    obtain ⟨k', o', q1, q2, q3, q4⟩ := e2 k e hk
    rw [Bool.or_eq_true, iv.effs k e hk, beq_iff_eq]
    constructor
    · rintro (h | h)
      · omega
      · have : k' = j := by omega
        subst this; omega
    · intro h
      by_cases hkc : k = cnt E ops.toList j
      · subst hkc; rw [hc] at hk; cases hk; exact .inr rfl
      · exact .inl (by omega)
  have hcalm : isEff (clsOf E o.op) = false → ∀ k e, es[k]? = some e → ((L e || e == j) = true ↔ k < m) := by
    intro he k e hk
    obtain ⟨k', o', q1, q2, q3, q4⟩ := e2 k e hk
    have hne : (e == j) = false := by
      rw [beq_eq_false_iff_ne]; intro hh
      have : k' = j := by omega
      subst this; rw [hol] at q2; cases q2; rw [q3] at he; cases he
    rw [hne, Bool.or_false]; exact iv.effs k e hk
  unfold wpOp
  simp only [ho]
  rcases hone with ⟨hg, hv⟩ | ⟨hg, hv, hσ⟩
  · rw [← hgc] at hg
    have hw := guardA_sound (b := true) st.tmps hg
    rw [if_pos hw]
    refine .inl ?_
    cases he : isEff (clsOf E o.op) with
    | true =>
      obtain ⟨rfl, q2⟩ := heff he
      exact opA_sound hR st (by rw [hoc]; exact hv) fun C' w' x k1 k2 k3 => hK _ _ _ _ _ (iv.next lx ho hL hr (h3 he) q2 k1 k2 k3)
    | false =>
      have hstep : stepA E o.op (T j) σ = some (V j, σ) := by
        rw [opA_step he] at hv
        cases hc : clsOf E o.op with
        | eff => rw [hc] at he; cases he
        | pure => exact (pure_same hc _ _ _ hv).2 σ
        | read =>
          have hst := lx.steady j o ho hc
          unfold AM.steady at hst
          rw [hgc] at hg
          rw [hg] at hst
          simp only at hst
          rw [List.all_eq_true] at hst
          have hmlen : m ≤ es.length := by have := (List.getElem?_eq_some_iff.1 iv.sto).1; rw [lx.len] at this; omega
          have hlo : countPre (fun e => ((Region.before ops).getD j 0).testBit e) es ≤ m := by
            rcases Nat.lt_or_ge m (countPre (fun e => ((Region.before ops).getD j 0).testBit e) es) with h | h
            · exfalso
              have hlt : m < es.length := Nat.lt_of_lt_of_le h (countPre_max es)
              have hp : es[m]? = some es[m] := List.getElem?_eq_getElem hlt
              have := (iv.effs _ _ hp).1 (hr _ (countPre_lt h hp))
              omega
            · exact h
          have hhi : m ≤ countPre (fun e => !((Region.before ops).getD e 0).testBit j) es := by
            refine countPre_le hmlen fun k e hk hek => ?_
            have hle := (iv.effs k e hek).2 hk
            cases hb : ((Region.before ops).getD e 0).testBit j with
            | false => rfl
            | true => have := iv.closed e hle j hb; rw [hL] at this; cases this
          have hmem : σ ∈ (S.drop (countPre (fun e => ((Region.before ops).getD j 0).testBit e) es)).take (countPre (fun e => !((Region.before ops).getD e 0).testBit j) es + 1 - countPre (fun e => ((Region.before ops).getD j 0).testBit e) es) := by
            refine List.mem_of_getElem? (i := m - countPre (fun e => ((Region.before ops).getD j 0).testBit e) es) ?_
            rw [List.getElem?_take, if_pos (by omega), List.getElem?_drop, show countPre (fun e => ((Region.before ops).getD j 0).testBit e) es + (m - countPre (fun e => ((Region.before ops).getD j 0).testBit e) es) = m by omega]
            exact iv.sto
          have hh := hst σ hmem
          split at hh
          · rename_i u σ₂ hs2
            have := AV.beq_eq _ _ hh
            subst this
            have := read_keeps hc hs2
            subst this; exact hs2
          · cases hh
      exact opA_sound (s := ⟨only (T j) (o.looksAt ops), nt, df, σ⟩) hR st (by rw [hoc, opA_step he]; exact hstep) fun C' w' x k1 k2 k3 => hK _ _ _ _ _ (iv.next lx ho hL hr iv.sto (hcalm he) k1 k2 k3)
  · rw [← hgc] at hg
    have hw := guardA_sound (b := false) st.tmps hg
    rw [if_neg (by rw [hw]; simp)]
    have hx : R C (nx σ) w (V j) undef := by rw [hv]; exact undefA_R
    cases he : isEff (clsOf E o.op) with
    | true =>
      obtain ⟨rfl, q2⟩ := heff he
      exact hK _ _ _ _ _ (iv.next lx ho hL hr (by rw [h3 he, hσ]) q2 iv.sim (Ext.refl _ _ _) hx)
    | false => exact hK _ _ _ _ _ (iv.next lx ho hL hr iv.sto (hcalm he) iv.sim (Ext.refl _ _ _) hx)

end
end Go.AM

/- Regions that draw their order: sound. -/
namespace Go.AM
open Go

/- how many are not done -/
def todo (L : Nat → Bool) : Nat → Nat
  | 0 => 0
  | i + 1 => (if L i = true then 0 else 1) + todo L i

theorem todo_same {L L' : Nat → Bool} : ∀ {n : Nat}, (∀ i, i < n → L i = L' i) → todo L n = todo L' n
  | 0, _ => rfl
  | n + 1, h => by
    simp only [todo]
    rw [h n (by omega), todo_same (L := L) (L' := L') (n := n) fun i hi => h i (by omega)]

theorem todo_set {L : Nat → Bool} {j : Nat} (hL : L j = false) : ∀ {n : Nat}, j < n → todo (fun i => L i || i == j) n + 1 = todo L n
  | 0, h => by omega
  | n + 1, h => by
    by_cases hj : j = n
    · subst hj
      have : todo (fun i => L i || i == j) j = todo L j := todo_same fun i hi => by
        have : (i == j) = false := by rw [beq_eq_false_iff_ne]; omega
        rw [this, Bool.or_false]
      simp [todo, hL, this]; omega
    · have ih := todo_set (n := n) hL (by omega)
      have : (n == j) = false := by rw [beq_eq_false_iff_ne]; omega
      simp only [todo, this, Bool.or_false]; omega

theorem todo_zero {L : Nat → Bool} : ∀ {n : Nat}, todo L n = 0 → ∀ i, i < n → L i = true
  | 0, _, i, hi => by omega
  | n + 1, h, i, hi => by
    simp only [todo] at h
    by_cases hn : L n = true
    · rw [if_pos hn] at h
      by_cases he : i = n
      · subst he; exact hn
      · exact todo_zero (n := n) (by omega) i (by omega)
    · rw [if_neg hn] at h; omega

section
variable {E : Env} {ops : Array Oper} {Rr : Rec} {nt : Nat} {df : List (Nat × List AV)} {tm₀ : Tr AV} {es : List Nat} {T : Nat → Tr AV} {V : Nat → AV} {S : List Sto} {C₀ : Ctx} {N₀ : Nat} {w₀ : World}

theorem Inv.last (lx : Lexed E ops Rr nt tm₀ es T V S) {L : Nat → Bool} {m : Nat} {σ : Sto} {C : Ctx} {w : World} {a : Act} (iv : Inv E ops nt df tm₀ es V S C₀ N₀ w₀ L m σ C w a) (hall : ∀ i, i < ops.size → L i = true) :
    S[es.length]? = some σ ∧ SSt E C w ⟨T ops.size, nt, df, σ⟩ a := by
  have hm : m = es.length := by
    have h1 := (List.getElem?_eq_some_iff.1 iv.sto).1
    rw [lx.len] at h1
    rcases Nat.lt_or_ge m es.length with h | h
    · exfalso
      have hp : es[m]? = some es[m] := List.getElem?_eq_getElem h
      obtain ⟨_, e2⟩ := effIdx_spec (E := E) ops.toList 0
      rw [← lx.hes] at e2
      obtain ⟨k, o, q1, q2, _⟩ := e2 m _ hp
      have hk := (List.getElem?_eq_some_iff.1 q2).1
      have := (iv.effs m _ hp).1 (hall _ (by rw [q1, Nat.zero_add]; simpa using hk))
      omega
    · omega
  refine ⟨hm ▸ iv.sto, iv.sim, iv.glob, fun t y hy => iv.slots t y ?_, iv.size, iv.dfs⟩
  rw [← hy, lx.get ops.size (Nat.le_refl _)]
  exact curUpto_congr fun i hi _ => hall i hi

theorem any_sound (hR : RecSound E Rr) (lx : Lexed E ops Rr nt tm₀ es T V S) (hed : edgesOk ops = true) {Q : Exit → Act → World → Prop}
    (hQ : ∀ (L : Nat → Bool) m σ C w a, Inv E ops nt df tm₀ es V S C₀ N₀ w₀ L m σ C w a → (∀ i, i < ops.size → L i = true) → Q .normal a w) :
    ∀ (fuel : Nat) (listed : Array Bool) (m : Nat) (σ : Sto) (C : Ctx) (w : World) (a : Act), listed.size = ops.size → todo (fun i => listed.getD i false) ops.size = fuel →
      Inv E ops nt df tm₀ es V S C₀ N₀ w₀ (fun i => listed.getD i false) m σ C w a → wpAny E.P .any ops Q fuel listed a w
  | 0, listed, m, σ, C, w, a, hs, ht, iv => by
    have hall := todo_zero ht
    refine ⟨?_, hQ _ m σ C w a iv hall⟩
    rw [List.eq_nil_iff_forall_not_mem]
    intro j hj
    obtain ⟨h1, o, ho, _⟩ := mem_ready.1 hj
    have hlt := (Array.getElem?_eq_some_iff.1 ho).1
    have h2 := hall j hlt
    simp only [Array.getD_eq_getD_getElem?] at h1 h2
    rw [Array.getElem?_eq_getElem (by omega : j < listed.size)] at h1 h2
    simp only [Option.getD_some] at h1 h2
    rw [h1] at h2; cases h2
  | fuel + 1, listed, m, σ, C, w, a, hs, ht, iv => by
    refine ⟨fun h0 => hQ _ m σ C w a iv (ready_nil hed hs h0), fun j hj => ?_⟩
    obtain ⟨h1, o, ho, hall⟩ := mem_ready.1 hj
    have hlt := (Array.getElem?_eq_some_iff.1 ho).1
    have hL : listed.getD j false = false := by
      simp only [Array.getD_eq_getD_getElem?] at h1 ⊢
      rw [Array.getElem?_eq_getElem (by omega : j < listed.size)] at h1 ⊢
      exact h1
    have hr : ∀ i, ((Region.before ops).getD j 0).testBit i = true → listed.getD i false = true := fun i hi => by
      obtain ⟨e, he, hb, h⟩ := before_spec ho hi
      have hon := hall e he hb
      rcases h with rfl | h
      · exact hon
      · exact iv.closed _ hon i h
    refine iv.step hR lx ho hL hr fun m' σ' C' w' a' iv' => ?_
    have hfun : (fun i => (listed.setIfInBounds j true).getD i false) = fun i => listed.getD i false || i == j := funext fun i => set_getD hs hlt i
    refine any_sound hR lx hed hQ fuel _ m' σ' C' w' a' (by simp [hs]) ?_ (by rw [hfun]; exact iv')
    rw [hfun]
    have := todo_set (L := fun i => listed.getD i false) hL hlt
    omega

end
end Go.AM

/- DrawSound. -/
namespace Go.AM
open Go

theorem todo_none {L : Nat → Bool} : ∀ {n : Nat}, (∀ i, L i = false) → todo L n = n
  | 0, _ => rfl
  | n + 1, h => by simp only [todo]; rw [if_neg (by rw [h n]; simp), todo_none (n := n) h]; omega

theorem cnt_effs {E : Env} : ∀ (l : List Oper) (i : Nat), cnt E l l.length = (effIdx E l i).length
  | [], i => rfl
  | o :: r, i => by
    simp only [List.length_cons, cnt, effIdx]
    cases hb : isEff (clsOf E o.op)
    · simp [cnt_effs r (i + 1)]
    · simp [cnt_effs r (i + 1)]; omega

theorem drawSound {E : Env} (hm : E.P.follows .mixedOrders = true) (Rr : Rec) (hR : RecSound E Rr) : DrawSound E Rr := by
  intro ops s s' C w a id st h
  unfold regionDrawA at h
  split at h
  · cases h
  · rename_i anns hanns
    split at h
    · rename_i d hd
      cases hb : steadyAll E ops.toList d.eps.reverse anns ops.toList d.log.reverse
      · simp [hb] at h
      · simp only [hb, cond_true, Option.some.injEq] at h
        subst h
        obtain ⟨log, eps, lex, k2, k3, k4, k5⟩ := draw_lex hd
        simp only [List.reverse_nil, List.nil_append, List.reverse_cons] at k2 k3
        unfold annsOf at hanns
        simp only at hanns
        split at hanns
        · rename_i hchk
          cases hanns
          simp only [Bool.and_eq_true] at hchk
          obtain ⟨⟨⟨c1, c2⟩, c3⟩, _⟩ := hchk
          obtain ⟨x1, x2, x3, x4, x5⟩ := lex_at lex
          have hlen : ops.toList.length = ops.size := by simp
          have hT : ∀ k, k < ops.size → ∃ o, ops[k]? = some o ∧ putA o.dst (((log.map (·.1) ++ [d.s.tm])[k]?).getD .e) s.nt (((log[k]?).map (·.2)).getD .any) = some (((log.map (·.1) ++ [d.s.tm])[k + 1]?).getD .e) := by
            intro k hk
            have ho : ops.toList[k]? = some ops[k] := by simp [hk]
            obtain ⟨t, v, t₁, σk, σ₁, y1, y2, y3, y4, y5, y6⟩ := x5 k _ ho
            have hlt := (List.getElem?_eq_some_iff.1 y1).1
            refine ⟨ops[k], by simp [hk], ?_⟩
            rw [List.getElem?_append_left (by simpa using hlt), List.getElem?_map, y1, y2]
            exact y4
          have lx : Lexed E ops Rr s.nt s.tm (effIdx E ops.toList 0) (fun k => ((log.map (·.1) ++ [d.s.tm])[k]?).getD .e) (fun k => ((log[k]?).map (·.2)).getD .any) (s.sto :: eps) := by
            refine ⟨c1, rfl, by simp only [List.length_cons, x2, cnt_effs ops.toList 0], c3, fun j o ho => ?_, fun j hj t => ?_, fun j o ho hc => ?_⟩
            · obtain ⟨t, v, t₁, σk, σ₁, y1, y2, y3, y4, y5, y6⟩ := x5 j o (by simpa using ho)
              have hlt := (List.getElem?_eq_some_iff.1 y1).1
              refine ⟨σk, σ₁, y3, ?_, ?_, y6⟩
              · rw [List.getElem?_append_left (by simpa using hlt), List.getElem?_map, y1, y2]; exact y4
              · rw [List.getElem?_append_left (by simpa using hlt), List.getElem?_map, y1]; exact y5
            · exact lex_slots (n := ops.size) (by rw [x3]; rfl) hT j hj t
            · obtain ⟨t, v, t₁, σk, σ₁, y1, y2, y3, y4, y5, y6⟩ := x5 j o (by simpa using ho)
              have hlt := (List.getElem?_eq_some_iff.1 y1).1
              rw [k2, k3] at hb
              have := steadyAll_get hb j _ o t v (annsFrom_get ops.toList 0 j o (by simpa using ho)) (by simpa using ho) y1 hc
              simp only [Nat.zero_add, getD_list] at this
              rw [List.getElem?_append_left (by simpa using hlt), List.getElem?_map, y1]
              exact this
          refine wp_region_any hm ?_
          obtain ⟨t1, t2⟩ := st.sim.same (w' := { w with drawn := w.drawn + 1 }) (Nat.le_refl _) (fun _ _ => rfl) ⟨rfl, rfl⟩
          have hrep : ∀ i, (Array.replicate ops.size false).getD i false = false := fun i => by
            rw [Array.getD_eq_getD_getElem?, Array.getElem?_replicate]; split <;> rfl
          refine any_sound (C₀ := C) (N₀ := nx s.sto) (w₀ := w) (df := s.df) hR lx c2 (fun L m σ C' w' a' iv hall => ?_) ops.size _ 0 s.sto C _ a (by simp) (todo_none hrep) ?_
          · obtain ⟨z1, z2⟩ := iv.last lx hall
            have hσ : σ = d.s.sto := by
              rw [← cnt_effs, ← x2, x4] at z1; cases z1; rfl
            subst hσ
            refine ⟨(.normal, d.s), List.mem_singleton_self _, C', rfl, ?_, iv.ext⟩
            have hTn : ((log.map (·.1) ++ [d.s.tm])[ops.size]?).getD .e = d.s.tm := by
              rw [← hlen, ← x1, List.getElem?_append_right (by simp)]; simp
            simp only [hTn] at z2
            exact ⟨z2.sim, z2.glob, z2.tmps, by rw [k4]; exact z2.size, by rw [k5]; exact z2.dfs⟩
          · refine ⟨fun j hj => ?_, fun k e _ => ?_, rfl, t1, st.glob.ext t2, fun t x hx => ?_, st.size, st.dfs.ext t2, t2⟩
            · rw [hrep] at hj; cases hj
            · rw [hrep]; constructor
              · intro hh; cases hh
              · intro hh; omega
            · refine R.ext t2 _ _ (st.tmps t x ?_)
              rw [← hx, curUpto_skip (k := 0) (Nat.zero_le _) fun i _ _ _ => hrep i]; rfl
        · cases hanns
    · cases h

end Go.AM
