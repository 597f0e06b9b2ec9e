/- A part of the proof; shortened by program. -/
import Derived.RangeFuncRecord
import Derived.Test.YtolkkkghemedjaaGreatDoorP02
set_option maxRecDepth 100000
set_option linter.unusedSimpArgs false
set_option linter.unusedVariables false
namespace Go.AM
open Go
structure Aef (E : Env) (ops : Array Oper) (Rr : Rec) (nt : Nat) (tm₀ : Tr AV) (es : List Nat) (T : Nat -> Tr AV) (V : Nat -> AV) (S : List Sto) : Prop where
 slots : O4 ops (Region.before ops).toList = true
 hes : es = Ej E ops.toList 0
 len : S.length = es.length + 1
 chain : Mf (Region.before ops).toList es = true
 here : ∀ (j : Nat) (o : Oper), ops[j]? = some o -> ∃ σk σ₁, S[cnt E ops.toList j]? = some σk /\ Jl o.dst (T j) nt (V j) = some (T (j + 1)) /\ OneD E ops.toList Rr o (T j) σk (V j) σ₁ /\ (Cw (B9 E o.op) = true -> S[cnt E ops.toList j + 1]? = some σ₁)
 get : ∀ j, j <= ops.size -> ∀ t, (T j).get t = D9 ops V tm₀ (fun _ => true) j t
 steady : ∀ (j : Nat) (o : Oper), ops[j]? = some o -> B9 E o.op = .read -> Ack E ops.toList o (T j) (V j)
  ((S.drop (B8 (fun e => ((Region.before ops).getD j 0).testBit e) es)).take (B8 (fun e => !((Region.before ops).getD e 0).testBit j) es + 1 - B8 (fun e => ((Region.before ops).getD j 0).testBit e) es))
structure Inv (E : Env) (ops : Array Oper) (nt : Nat) (df : List (Nat × List AV)) (tm₀ : Tr AV) (es : List Nat) (V : Nat -> AV) (S : List Sto) (C₀ : Ctx) (N₀ : Nat) (w₀ : World)
  (L : Nat -> Bool) (m : Nat) (σ : Sto) (C : Ctx) (w : World) (a : Act) : Prop where
 closed : Agk ops L
 effs : ∀ k e, es[k]? = some e -> (L e = true ↔ k < m)
 sto : S[m]? = some σ
 sim : Sim E.P C w σ
 glob : Fv C (nx σ) w E
 slots : ∀ t x, D9 ops V tm₀ L ops.size t = some x -> R C (nx σ) w x (a.tmps.getD t undef)
 size : a.tmps.size = nt
 dfs : DR C (nx σ) w df a.defers
 ext : Ext C₀ N₀ w₀ C (nx σ) w
section
variable {E : Env} {ops : Array Oper} {Rr : Rec} {nt : Nat} {df : List (Nat × List AV)} {tm₀ : Tr AV} {es : List Nat} {T : Nat -> Tr AV} {V : Nat -> AV} {S : List Sto} {C₀ C : Ctx} {N₀ : Nat} {w₀ w : World} {L : Nat -> Bool} {m : Nat} {σ : Sto} {a : Act}
theorem Inv.next (lx : Aef E ops Rr nt tm₀ es T V S) (iv : Inv E ops nt df tm₀ es V S C₀ N₀ w₀ L m σ C w a) {j : Nat} {o : Oper} (ho : ops[j]? = some o) (hL : L j = false) (hr : ∀ i, ((Region.before ops).getD j 0).testBit i = true -> L i = true)
  {m' : Nat} {σ' : Sto} {C' : Ctx} {w' : World} {x : Value} (hsto : S[m']? = some σ') (heffs : ∀ k e, es[k]? = some e -> ((L e || e == j) = true ↔ k < m')) (hs : Sim E.P C' w' σ') (he : Ext C (nx σ) w C' (nx σ') w') (hx : R C' (nx σ') w' (V j) x) :
  Inv E ops nt df tm₀ es V S C₀ N₀ w₀ (fun i => L i || i == j) m' σ' C' w' (a.put o.dst x) := by
 have hj := (Array.getElem?_eq_some_iff.1 ho).1;obtain ⟨_, _, _, hput, _, _⟩ := lx.here j o ho
 have hdn : ∀ d, o.dst = some d -> d < nt := fun d hd => by
  rw [hd] at hput;simp only [Jl] at hput;cases hb : Nat.blt d nt
  ·simp [hb] at hput
  ·exact Nat.le_of_ble_eq_true hb
 refine ⟨fun i hi k hk => ?_, heffs, hsto, hs, iv.glob.ext he, fun t y hy => ?_, ?_, ?_, iv.ext.trans he⟩
 ·rw [Bool.or_eq_true] at hi ⊢
  rcases hi with hi | hi
  ·exact .inl (iv.closed i hi k hk)
  ·have : i = j := by simpa using hi
   subst this; exact .inl (hr k hk)
 ·by_cases hd : (ops[j]?).bind (·.dst) = some t
  ·have hd' : o.dst = some t := by rw [ho] at hd; exact hd
   rw [Aj8 hj iv.closed hL (Xx lx.slots ho (.inr hd')) hd] at hy;cases hy;have := hdn t hd';rw [hd']
   have : t < a.tmps.size := by rw [iv.size]; exact this
   simp [Act.put, this]; exact hx
  ·rw [Agl hd] at hy;have h1 := R.ext he _ _ (iv.slots t y hy);cases hod : o.dst with
   | none => exact h1
   | some d =>
    have hne : d ≠ t := fun hh => hd (by rw [ho]; simp [hod, hh])
    simpa [Act.put, Array.getElem?_setIfInBounds_ne hne] using h1
 ·cases hod : o.dst <;> simp [Act.put, iv.size]
 ·have : (a.put o.dst x).defers = a.defers := by cases o.dst <;> rfl
  rw [this]; exact iv.dfs.ext he
end
section
variable {E : Env} {ops : Array Oper} {Rr : Rec} {nt : Nat} {df : List (Nat × List AV)} {tm₀ : Tr AV} {es : List Nat} {T : Nat -> Tr AV} {V : Nat -> AV} {S : List Sto} {C₀ C : Ctx} {N₀ : Nat} {w₀ w : World} {L : Nat -> Bool} {m : Nat} {σ : Sto} {a : Act}
theorem J9 {op : Op} (h : Cw (B9 E op) = false) : ∀ tm σ, opA E op Rr tm σ = Bm E op tm σ := by
 intro tm σ;cases op
 case call c =>
  cases hc : c.callee with
  | value f => simp [B9, hc, Cw] at h
  | builtin b => simp only [opA, hc]
  | invoke r n => simp [B9, hc, Cw] at h
 all_goals rfl
theorem Inv.step (hR : Bc E Rr) (lx : Aef E ops Rr nt tm₀ es T V S) (iv : Inv E ops nt df tm₀ es V S C₀ N₀ w₀ L m σ C w a) {j : Nat} {o : Oper} (ho : ops[j]? = some o) (hL : L j = false) (hr : ∀ i, ((Region.before ops).getD j 0).testBit i = true -> L i = true)
  {K : Act -> World -> Prop} {Q : Exit -> Act -> World -> Prop} (hK : ∀ m' σ' C' w' a', Inv E ops nt df tm₀ es V S C₀ N₀ w₀ (fun i => L i || i == j) m' σ' C' w' a' -> K a' w') : wpOp E.P ops Q j K a w := by
 have hj := (Array.getElem?_eq_some_iff.1 ho).1
 have hol : ops.toList[j]? = some o := by simpa using ho
 obtain ⟨σk, σ₁, h1, hput, hone, h3⟩ := lx.here j o ho
 have hslots : ∀ t ∈ o.looksAt ops, D9 ops V tm₀ L ops.size t = (T j).get t := fun t ht => by
  rw [lx.get j (by omega)]
  exact Alv (by omega) iv.closed hL hr (Xx lx.slots ho (.inl ht))
 have st : SSt E C w ⟨only (T j) (o.looksAt ops), nt, df, σ⟩ a := ⟨iv.sim, iv.glob, fun t y hy => by
  obtain ⟨k1, k2⟩ := Tb hy
  exact iv.slots t y (by rw [hslots t k1]; exact k2), iv.size, iv.dfs⟩
 have hgc : C8 ops.toList o (only (T j) (o.looksAt ops)) = C8 ops.toList o (T j) := Acl fun t ht => Wb ht
 have hoc : ∀ τ, opA E o.op Rr (only (T j) (o.looksAt ops)) τ = opA E o.op Rr (T j) τ := fun τ => Aj1 (Aka fun t ht => Wb ht)
 obtain ⟨e1, e2⟩ := N4 (E := E) ops.toList 0;rw [← lx.hes] at e1 e2
 -- where the store stands
 have heff : Cw (B9 E o.op) = true -> σ = σk /\ ∀ k e, es[k]? = some e -> ((L e || e == j) = true ↔ k < cnt E ops.toList j + 1) := by
  intro he;have hc := e1 j o hol he;rw [Nat.zero_add] at hc
  have hle : m <= cnt E ops.toList j := by
   have := iv.effs _ _ hc;rw [hL] at this
   have h0 : ¬ (cnt E ops.toList j < m) := fun hh => by have := this.2 hh; cases this
   omega
  have hge : cnt E ops.toList j <= m := by
   rcases Nat.eq_zero_or_pos (cnt E ops.toList j) with h0 | h0
   ·omega
   ·have hlt := (List.getElem?_eq_some_iff.1 hc).1
    have hp : es[cnt E ops.toList j - 1]? = some es[cnt E ops.toList j - 1] := List.getElem?_eq_getElem (by omega)
    have hb := S9 lx.chain _ _ _ hp (by rw [show cnt E ops.toList j - 1 + 1 = cnt E ops.toList j by omega]; exact hc)
    rw [Jv] at hb;have := (iv.effs _ _ hp).1 (hr _ hb);omega
  have hm : m = cnt E ops.toList j := by omega
  refine ⟨by have := iv.sto; rw [hm, h1] at this; cases this; rfl, fun k e hk => ?_⟩
  obtain ⟨k', o', q1, q2, q3, q4⟩ := e2 k e hk;rw [Bool.or_eq_true, iv.effs k e hk, beq_iff_eq]
  constructor
  ·rintro (h | h)
   ·omega
   ·have : k' = j := by omega
    subst this; omega
  ·intro h
   by_cases hkc : k = cnt E ops.toList j
   ·subst hkc; rw [hc] at hk; cases hk; exact .inr rfl
   ·exact .inl (by omega)
 have hcalm : Cw (B9 E o.op) = false -> ∀ k e, es[k]? = some e -> ((L e || e == j) = true ↔ k < m) := by
  intro he k e hk;obtain ⟨k', o', q1, q2, q3, q4⟩ := e2 k e hk
  have hne : (e == j) = false := by
   rw [beq_eq_false_iff_ne]; intro hh
   have : k' = j := by omega
   subst this; rw [hol] at q2; cases q2; rw [q3] at he; cases he
  rw [hne, Bool.or_false]; exact iv.effs k e hk
 unfold wpOp;simp only [ho]
 rcases hone with ⟨hg, hv⟩ | ⟨hg, hv, hσ⟩
 ·rw [← hgc] at hg;have hw := E7 (b := true) st.tmps hg;rw [if_pos hw];refine .inl ?_;cases he : Cw (B9 E o.op) with
  | true =>
   obtain ⟨rfl, q2⟩ := heff he
   exact Uc hR st (by rw [hoc]; exact hv) fun C' w' x k1 k2 k3 => hK _ _ _ _ _ (iv.next lx ho hL hr (h3 he) q2 k1 k2 k3)
  | false =>
   have hstep : Bm E o.op (T j) σ = some (V j, σ) := by
    rw [J9 he] at hv;cases hc : B9 E o.op with
    | eff => rw [hc] at he; cases he
    | pure => exact (Aj4 hc _ _ _ hv).2 σ
    | read =>
     rw [hgc] at hg;have hst := lx.steady j o ho hc hg
     have hmlen : m <= es.length := by have := (List.getElem?_eq_some_iff.1 iv.sto).1; rw [lx.len] at this; omega
     have hlo : B8 (fun e => ((Region.before ops).getD j 0).testBit e) es <= m := by
      rcases Nat.lt_or_ge m (B8 (fun e => ((Region.before ops).getD j 0).testBit e) es) with h | h
      ·exfalso
       have hlt : m < es.length := Nat.lt_of_lt_of_le h (Ta es);have hp : es[m]? = some es[m] := List.getElem?_eq_getElem hlt;have := (iv.effs _ _ hp).1 (hr _ (U6 h hp));omega
      ·exact h
     have hhi : m <= B8 (fun e => !((Region.before ops).getD e 0).testBit j) es := by
      refine U7 hmlen fun k e hk hek => ?_
      have hle := (iv.effs k e hek).2 hk;cases hb : ((Region.before ops).getD e 0).testBit j with
      | false => rfl
      | true => have := iv.closed e hle j hb; rw [hL] at this; cases this
     have hmem : σ ∈ (S.drop (B8 (fun e => ((Region.before ops).getD j 0).testBit e) es)).take (B8 (fun e => !((Region.before ops).getD e 0).testBit j) es + 1 - B8 (fun e => ((Region.before ops).getD j 0).testBit e) es) := by
      refine List.mem_of_getElem? (i := m - B8 (fun e => ((Region.before ops).getD j 0).testBit e) es) ?_
      rw [List.getElem?_take, if_pos (by omega), List.getElem?_drop, show B8 (fun e => ((Region.before ops).getD j 0).testBit e) es + (m - B8 (fun e => ((Region.before ops).getD j 0).testBit e) es) = m by omega]
      exact iv.sto
     obtain ⟨σ₂, hs2⟩ := hst σ hmem;have := Agh hc hs2;subst this; exact hs2
   exact Uc (s := ⟨only (T j) (o.looksAt ops), nt, df, σ⟩) hR st (by rw [hoc, J9 he]; exact hstep) fun C' w' x k1 k2 k3 => hK _ _ _ _ _ (iv.next lx ho hL hr iv.sto (hcalm he) k1 k2 k3)
 ·rw [← hgc] at hg;have hw := E7 (b := false) st.tmps hg
  rw [if_neg (by rw [hw]; simp)]
  have hx : R C (nx σ) w (V j) undef := by rw [hv]; exact S2
  cases he : Cw (B9 E o.op) with
  | true =>
   obtain ⟨rfl, q2⟩ := heff he
   exact hK _ _ _ _ _ (iv.next lx ho hL hr (by rw [h3 he, hσ]) q2 iv.sim (Ext.refl _ _ _) hx)
  | false => exact hK _ _ _ _ _ (iv.next lx ho hL hr iv.sto (hcalm he) iv.sim (Ext.refl _ _ _) hx)
end
def Q6 (L : Nat -> Bool) : Nat -> Nat
 | 0 => 0
 | i + 1 => (if L i = true then 0 else 1) + Q6 L i
theorem Aak {L L' : Nat -> Bool} : ∀ {n : Nat}, (∀ i, i < n -> L i = L' i) -> Q6 L n = Q6 L' n
 | 0, _ => rfl
 | n + 1, h => by
  simp only [Q6]
  rw [h n (by omega), Aak (L := L) (L' := L') (n := n) fun i hi => h i (by omega)]
theorem Aeg {L : Nat -> Bool} {j : Nat} (hL : L j = false) : ∀ {n : Nat}, j < n -> Q6 (fun i => L i || i == j) n + 1 = Q6 L n
 | 0, h => by omega
 | n + 1, h => by
  by_cases hj : j = n
  ·subst hj
   have : Q6 (fun i => L i || i == j) j = Q6 L j := Aak fun i hi => by
    have : (i == j) = false := by rw [beq_eq_false_iff_ne]; omega
    rw [this, Bool.or_false]
   simp [Q6, hL, this]; omega
  ·have ih := Aeg (n := n) hL (by omega)
   have : (n == j) = false := by rw [beq_eq_false_iff_ne]; omega
   simp only [Q6, this, Bool.or_false]; omega
theorem Aal {L : Nat -> Bool} : ∀ {n : Nat}, Q6 L n = 0 -> ∀ i, i < n -> L i = true
 | 0, _, i, hi => by omega
 | n + 1, h, i, hi => by
  simp only [Q6] at h
  by_cases hn : L n = true
  ·rw [if_pos hn] at h
   by_cases he : i = n
   ·subst he; exact hn
   ·exact Aal (n := n) (by omega) i (by omega)
  ·rw [if_neg hn] at h; omega
section
variable {E : Env} {ops : Array Oper} {Rr : Rec} {nt : Nat} {df : List (Nat × List AV)} {tm₀ : Tr AV} {es : List Nat} {T : Nat -> Tr AV} {V : Nat -> AV} {S : List Sto} {C₀ : Ctx} {N₀ : Nat} {w₀ : World}
theorem Inv.last (lx : Aef E ops Rr nt tm₀ es T V S) {L : Nat -> Bool} {m : Nat} {σ : Sto} {C : Ctx} {w : World} {a : Act} (iv : Inv E ops nt df tm₀ es V S C₀ N₀ w₀ L m σ C w a) (hall : ∀ i, i < ops.size -> L i = true) :
  S[es.length]? = some σ /\ SSt E C w ⟨T ops.size, nt, df, σ⟩ a := by
 have hm : m = es.length := by
  have h1 := (List.getElem?_eq_some_iff.1 iv.sto).1;rw [lx.len] at h1
  rcases Nat.lt_or_ge m es.length with h | h
  ·exfalso
   have hp : es[m]? = some es[m] := List.getElem?_eq_getElem h;obtain ⟨_, e2⟩ := N4 (E := E) ops.toList 0;rw [← lx.hes] at e2;obtain ⟨k, o, q1, q2, _⟩ := e2 m _ hp;have hk := (List.getElem?_eq_some_iff.1 q2).1
   have := (iv.effs m _ hp).1 (hall _ (by rw [q1, Nat.zero_add]; simpa using hk))
   omega
  ·omega
 refine ⟨hm ▸ iv.sto, iv.sim, iv.glob, fun t y hy => iv.slots t y ?_, iv.size, iv.dfs⟩
 rw [← hy, lx.get ops.size nl];exact Is fun i hi _ => hall i hi
theorem Aam (hR : Bc E Rr) (lx : Aef E ops Rr nt tm₀ es T V S) (hed : O5 ops = true) {Q : Exit -> Act -> World -> Prop}
  (hQ : ∀ (L : Nat -> Bool) m σ C w a, Inv E ops nt df tm₀ es V S C₀ N₀ w₀ L m σ C w a -> (∀ i, i < ops.size -> L i = true) -> Q .normal a w) :
  ∀ (fuel : Nat) (listed : Array Bool) (m : Nat) (σ : Sto) (C : Ctx) (w : World) (a : Act), listed.size = ops.size -> Q6 (fun i => listed.getD i false) ops.size = fuel ->
   Inv E ops nt df tm₀ es V S C₀ N₀ w₀ (fun i => listed.getD i false) m σ C w a -> wpAny E.P .any ops Q fuel listed a w
 | 0, listed, m, σ, C, w, a, hs, ht, iv => by
  have hall := Aal ht;refine ⟨?_, hQ _ m σ C w a iv hall⟩;rw [List.eq_nil_iff_forall_not_mem];intro j hj;obtain ⟨h1, o, ho, _⟩ := mem_ready.1 hj;have hlt := (Array.getElem?_eq_some_iff.1 ho).1;have h2 := hall j hlt;simp only [Array.getD_eq_getD_getElem?] at h1 h2
  rw [Array.getElem?_eq_getElem (by omega : j < listed.size)] at h1 h2
  simp only [Option.getD_some] at h1 h2;rw [h1] at h2; cases h2
 | fuel + 1, listed, m, σ, C, w, a, hs, ht, iv => by
  refine ⟨fun h0 => hQ _ m σ C w a iv (Aj9 hed hs h0), fun j hj => ?_⟩
  obtain ⟨h1, o, ho, hall⟩ := mem_ready.1 hj;have hlt := (Array.getElem?_eq_some_iff.1 ho).1
  have hL : listed.getD j false = false := by
   simp only [Array.getD_eq_getD_getElem?] at h1 ⊢
   rw [Array.getElem?_eq_getElem (by omega : j < listed.size)] at h1 ⊢
   exact h1
  have hr : ∀ i, ((Region.before ops).getD j 0).testBit i = true -> listed.getD i false = true := fun i hi => by
   obtain ⟨e, he, hb, h⟩ := Aed ho hi;have hon := hall e he hb
   rcases h with rfl | h
   ·exact hon
   ·exact iv.closed _ hon i h
  refine iv.step hR lx ho hL hr fun m' σ' C' w' a' iv' => ?_
  have hfun : (fun i => (listed.setIfInBounds j true).getD i false) = fun i => listed.getD i false || i == j := funext fun i => Alw hs hlt i
  refine Aam hR lx hed hQ fuel _ m' σ' C' w' a' (by simp [hs]) ?_ (by rw [hfun]; exact iv')
  rw [hfun];have := Aeg (L := fun i => listed.getD i false) hL hlt
  omega
end
theorem Aan {L : Nat -> Bool} : ∀ {n : Nat}, (∀ i, L i = false) -> Q6 L n = n
 | 0, _ => rfl
 | n + 1, h => by simp only [Q6]; rw [if_neg (by rw [h n]; simp), Aan (n := n) h]; omega
theorem Tc {E : Env} : ∀ (l : List Oper) (i : Nat), cnt E l l.length = (Ej E l i).length
 | [], i => rfl
 | o :: r, i => by
  simp only [List.length_cons, cnt, Ej];cases hb : Cw (B9 E o.op)
  ·simp [Tc r (i + 1)]
  ·simp [Tc r (i + 1)]; omega
theorem Aao {E : Env} (hm : E.P.follows .mixedOrders = true) {Rr : Rec} (hR : Bc E Rr) {ops : Array Oper} {s : St} {d : DS} {C : Ctx} {w : World} {a : Act} {id : Nat} (st : SSt E C w s a)
  (c1 : O4 ops (Region.before ops).toList = true) (c2 : O5 ops = true) (c3 : Mf (Region.before ops).toList (Ej E ops.toList 0) = true) (hd : So E ops.toList Rr ops.toList ⟨s, [s.sto], []⟩ = some d)
  (hb : ∀ (j : Nat) (o : Oper) (t : Tr AV) (v : AV), ops[j]? = some o -> d.log.reverse[j]? = some (t, v) -> B9 E o.op = .read -> Ack E ops.toList o t v
   ((d.eps.reverse.drop (B8 (fun e => ((Region.before ops).getD j 0).testBit e) (Ej E ops.toList 0))).take (B8 (fun e => !((Region.before ops).getD e 0).testBit j) (Ej E ops.toList 0) + 1 - B8 (fun e => ((Region.before ops).getD j 0).testBit e) (Ej E ops.toList 0)))) :
  (Code.region id ops true).wp E.P (K4 E C (nx s.sto) w [(.normal, d.s)]) a w := by
 obtain ⟨log, eps, lex, k2, k3, k4, k5⟩ := L0 hd;simp only [List.reverse_nil, List.nil_append, List.reverse_cons] at k2 k3;obtain ⟨x1, x2, x3, x4, x5⟩ := Xw lex
 have hlen : ops.toList.length = ops.size := by simp
 have hT : ∀ k, k < ops.size -> ∃ o, ops[k]? = some o /\ Jl o.dst (((log.map (·.1) ++ [d.s.tm])[k]?).getD .e) s.nt (((log[k]?).map (·.2)).getD .any) = some (((log.map (·.1) ++ [d.s.tm])[k + 1]?).getD .e) := by
  intro k hk
  have ho : ops.toList[k]? = some ops[k] := by simp [hk]
  obtain ⟨t, v, t₁, σk, σ₁, y1, y2, y3, y4, y5, y6⟩ := x5 k _ ho;have hlt := (List.getElem?_eq_some_iff.1 y1).1
  refine ⟨ops[k], by simp [hk], ?_⟩
  rw [List.getElem?_append_left (by simpa using hlt), List.getElem?_map, y1, y2]
  exact y4
 have lx : Aef E ops Rr s.nt s.tm (Ej E ops.toList 0) (fun k => ((log.map (·.1) ++ [d.s.tm])[k]?).getD .e) (fun k => ((log[k]?).map (·.2)).getD .any) (s.sto :: eps) := by
  refine ⟨c1, rfl, by simp only [List.length_cons, x2, Tc ops.toList 0], c3, fun j o ho => ?_, fun j hj t => ?_, fun j o ho hc => ?_⟩
  ·obtain ⟨t, v, t₁, σk, σ₁, y1, y2, y3, y4, y5, y6⟩ := x5 j o (by simpa using ho)
   have hlt := (List.getElem?_eq_some_iff.1 y1).1;refine ⟨σk, σ₁, y3, ?_, ?_, y6⟩
   ·rw [List.getElem?_append_left (by simpa using hlt), List.getElem?_map, y1, y2]; exact y4
   ·rw [List.getElem?_append_left (by simpa using hlt), List.getElem?_map, y1]; exact y5
  ·exact Aaj (n := ops.size) (by rw [x3]; rfl) hT j hj t
  ·obtain ⟨t, v, t₁, σk, σ₁, y1, y2, y3, y4, y5, y6⟩ := x5 j o (by simpa using ho)
   have hlt := (List.getElem?_eq_some_iff.1 y1).1
   have := hb j o t v ho (by rw [k2]; exact y1) hc
   rw [k3] at this
   rw [List.getElem?_append_left (by simpa using hlt), List.getElem?_map, y1]
   exact this
 refine wp_region_any hm ?_;obtain ⟨t1, t2⟩ := st.sim.same (w' := { w with drawn := w.drawn + 1 }) nl (fun _ _ => rfl) ⟨rfl, rfl⟩
 have hrep : ∀ i, (Array.replicate ops.size false).getD i false = false := fun i => by
  rw [Array.getD_eq_getD_getElem?, Array.getElem?_replicate]; split <;> rfl
 refine Aam (C₀ := C) (N₀ := nx s.sto) (w₀ := w) (df := s.df) hR lx c2 (fun L m σ C' w' a' iv hall => ?_) ops.size _ 0 s.sto C _ a (by simp) (Aan hrep) ?_
 ·obtain ⟨z1, z2⟩ := iv.last lx hall
  have hσ : σ = d.s.sto := by
   rw [← Tc, ← x2, x4] at z1; cases z1; rfl
  subst hσ;refine ⟨(.normal, d.s), List.mem_singleton_self _, C', rfl, ?_, iv.ext⟩
  have hTn : ((log.map (·.1) ++ [d.s.tm])[ops.size]?).getD .e = d.s.tm := by
   rw [← hlen, ← x1, List.getElem?_append_right (by simp)]; simp
  simp only [hTn] at z2
  exact ⟨z2.sim, z2.glob, z2.tmps, by rw [k4]; exact z2.size, by rw [k5]; exact z2.dfs⟩
 ·refine ⟨fun j hj => ?_, fun k e _ => ?_, rfl, t1, st.glob.ext t2, fun t x hx => ?_, st.size, st.dfs.ext t2, t2⟩
  ·rw [hrep] at hj; cases hj
  ·rw [hrep]; constructor
   ·intro hh; cases hh
   ·intro hh; omega
  ·refine R.ext t2 _ _ (st.tmps t x ?_);rw [← hx, Jn (k := 0) (Nat.zero_le _) fun i _ _ _ => hrep i]; rfl
theorem L1 {E : Env} (hm : E.P.follows .mixedOrders = true) (Rr : Rec) (hR : Bc E Rr) : Ij E Rr := by
 intro ops s s' C w a id st h;unfold No at h
 split at h
 ·cases h
 ·rename_i anns hanns
  split at h
  ·rename_i d hd
   cases hb : F7 E ops.toList d.eps.reverse anns ops.toList d.log.reverse
   ·simp [hb] at h
   ·simp only [hb, cond_true, Option.some.injEq] at h;subst h;unfold Mg at hanns;simp only at hanns
    split at hanns
    ·rename_i hchk
     cases hanns;simp only [Bool.and_eq_true] at hchk;obtain ⟨⟨⟨c1, c2⟩, c3⟩, _⟩ := hchk;refine Aao hm hR st c1 c2 c3 hd fun j o t v ho hl hc => ?_
     have := Qo hb j _ o t v (Hn ops.toList 0 j o (by simpa using ho)) (by simpa using ho) hl hc
     simp only [Nat.zero_add, Jv] at this;exact Aee this
    ·cases hanns
  ·cases h
def U8 : List Nat -> Nat -> Option Nat
 | [], _ => none
 | x :: r, a => cond (Nat.beq x a) (some 0) (match U8 r a with | some i => some (i + 1) | none => none)
mutual
def AV.ren (L : List Nat) (b : Nat) : AV -> AV
 | .pr a off => match U8 L a with | some i => Ch (b + i) fun n => .pr n off | none => .any
 | .sr a off sz len cap => match U8 L a with | some i => Ch (b + i) fun n => .sr n off sz len cap | none => .any
 | .mp a => match U8 L a with | some i => Ch (b + i) fun n => .mp n | none => .any
 | .it _ => .any
 | .stp _ => .any
 | .yl _ => .any
 | .flt k n => .flt k n
 | .pv cs => .pv (AV.rens L b cs)
 | .sv cs sz len cap => .sv (AV.rens L b cs) sz len cap
 | .fn f p q => .fn f (AV.rens L b p) (AV.rens L b q)
 | .ifc t x => .ifc t (AV.ren L b x)
 | .agg cs => .agg (AV.rens L b cs)
 | .tup vs => .tup (AV.rens L b vs)
 | .any => .any
 | .bool x => .bool x
 | .int k n => .int k n
 | .str l => .str l
 | .nil v => .nil v
def AV.rens (L : List Nat) (b : Nat) : List AV -> List AV
 | [] => []
 | x :: r => AV.ren L b x :: AV.rens L b r
end
def Aeh (L : List Nat) (b : Nat) : List (Key × AV) -> List (Key × AV)
 | [] => []
 | (k, v) :: r => (k, AV.ren L b v) :: Aeh L b r
def AO.ren (L : List Nat) (b : Nat) : AO -> Option AO
 | .cells vs => some (.cells (AV.rens L b vs))
 | .map kt es ver => some (.map kt (Aeh L b es) ver)
 | _ => none
def It (L : List Nat) (b : Nat) (σ : Sto) : List Nat -> Option (List AO)
 | [] => some []
 | a :: r => match σ.get a with
  | some o => match o.ren L b, It L b σ r with
   | some o', some l => some (o' :: l)
   | _, _ => none
  | none => none
def Ho : List AO -> Sto -> Sto
 | [], σ => σ
 | o :: r, σ => Ho r (σ.new o)
theorem Aap : ∀ {L : List Nat} {a i : Nat}, U8 L a = some i -> L[i]? = some a
 | [], a, i, h => by simp [U8] at h
 | x :: r, a, i, h => by
  simp only [U8] at h;cases hb : Nat.beq x a with
  | true =>
   have hxa := Nat.eq_of_beq_eq_true hb
   simp [hb] at h; subst h; simp [hxa]
  | false =>
   simp only [hb, cond_false] at h
   split at h
   ·rename_i j hj; cases h; simpa using Aap hj
   ·cases h
theorem Aaq : ∀ (l : List AO) (σ : Sto), nx (Ho l σ) = nx σ + l.length
 | [], σ => rfl
 | o :: r, σ => by simp only [Ho, Aaq r, Ap, List.length_cons]; omega
theorem Il : ∀ (l : List AO) (σ : Sto) (a : Nat), (Ho l σ).get a = if a < nx σ then σ.get a else match l[a - nx σ]? with | some o => some o | none => σ.get a
 | [], σ, a => by simp [Ho]
 | o :: r, σ, a => by
  simp only [Ho];rw [Il r, Ap, Sto.get_new]
  by_cases h : a < nx σ
  ·rw [if_pos (by omega), if_neg (by omega), if_pos h]
  ·rw [if_neg h]
   by_cases h2 : a = nx σ
   ·subst h2; rw [if_pos (by omega), if_pos rfl]; simp
   ·rw [if_neg (by omega), if_neg h2]
    have : a - nx σ = (a - (nx σ + 1)) + 1 := by omega
    rw [this, List.getElem?_cons_succ]
section
variable {C₁ C' : Ctx} {N₁ N' b : Nat} {w : World} {L : List Nat}
structure Aei (L : List Nat) (b : Nat) (C₁ C' : Ctx) (N' : Nat) : Prop where
 at' : ∀ a i, U8 L a = some i -> b + i < N' /\ C'.loc (b + i) = C₁.loc a
 own : ∀ c, C'.own c -> C₁.own c
mutual
theorem R.ren (h : Aei L b C₁ C' N') : ∀ (x : AV) (v : Value), R C₁ N₁ w x v -> R C' N' w (x.ren L b) v
 | .pr a off, v, hr => by
  unfold AV.ren
  split
  ·rename_i i hi
   obtain ⟨k1, k2⟩ := h.at' a i hi;rw [Au];unfold R at *;obtain ⟨ad, h1, h2, h3⟩ := hr
   exact ⟨ad, h1, k1, fun c o hc => h3 c o (by rw [← k2]; exact hc)⟩
  ·unfold R; trivial
 | .sr a off sz len cap, v, hr => by
  unfold AV.ren
  split
  ·rename_i i hi
   obtain ⟨k1, k2⟩ := h.at' a i hi;rw [Au];unfold R at *;obtain ⟨ad, k, h1, h2, h3, h4, h5⟩ := hr
   exact ⟨ad, k, h1, k1, h3, h4, fun c o hc => h5 c o (by rw [← k2]; exact hc)⟩
  ·unfold R; trivial
 | .mp a, v, hr => by
  unfold AV.ren
  split
  ·rename_i i hi
   obtain ⟨k1, k2⟩ := h.at' a i hi;rw [Au];unfold R at *;obtain ⟨c, h1, h2, h3⟩ := hr
   exact ⟨c, h1, k1, fun c' o hc => h3 c' o (by rw [← k2]; exact hc)⟩
  ·unfold R; trivial
 | .it _, v, hr => by unfold AV.ren R; trivial
 | .stp _, v, hr => by unfold AV.ren R; trivial
 | .yl _, v, hr => by unfold AV.ren R; trivial
 | .flt k n, v, hr => by unfold AV.ren; unfold R at *; exact hr
 | .pv cs, v, hr => by
  unfold AV.ren;unfold R at *;obtain ⟨c, o, h1, h2, h3⟩ := hr
  exact ⟨c, o, h1, fun hne ho => h2 (fun he => hne (by rw [he]; rfl)) (h.own c ho), RC.ren h cs c o h3⟩
 | .sv cs sz len cap, v, hr => by
  unfold AV.ren;unfold R at *;obtain ⟨ado, k, h1, h2, h3, h4, h0, hh⟩ := hr
  refine ⟨ado, k, h1, h2, h3, by rw [U9, h4], h0, fun ad ha => ?_⟩
  obtain ⟨h5, h6, h7⟩ := hh ad ha
  exact ⟨h5, fun hne ho => h6 (fun he => hne (by rw [he]; rfl)) (h.own _ ho), RC.ren h cs ad.block ad.off h7⟩
 | .fn f p q, v, hr => by
  unfold AV.ren;unfold R at *;obtain ⟨a, c, h1, h2, h3⟩ := hr;exact ⟨a, c, h1, RL.ren h p _ h2, RL.ren h q _ h3⟩
 | .ifc t x, v, hr => by
  unfold AV.ren;unfold R at *;obtain ⟨y, h1, h2⟩ := hr;exact ⟨y, h1, R.ren h x y h2⟩
 | .agg cs, v, hr => by
  unfold AV.ren;unfold R at *;obtain ⟨a, h1, h2, h3⟩ := hr;exact ⟨a, h1, RL.ren h cs _ h2, h3⟩
 | .tup vs, v, hr => by
  unfold AV.ren;unfold R at *;obtain ⟨a, h1, h2⟩ := hr;exact ⟨a, h1, RL.ren h vs _ h2⟩
 | .any, v, hr => by unfold AV.ren R; trivial
 | .bool x, v, hr => by unfold AV.ren; unfold R at *; exact hr
 | .int k n, v, hr => by unfold AV.ren; unfold R at *; exact hr
 | .str l, v, hr => by unfold AV.ren; unfold R at *; exact hr
 | .nil y, v, hr => by unfold AV.ren; unfold R at *; exact hr
theorem RC.ren (h : Aei L b C₁ C' N') : ∀ (cs : List AV) (c o : Nat), RC C₁ N₁ w c cs o -> RC C' N' w c (AV.rens L b cs) o
 | [], c, o, _ => by unfold AV.rens RC; trivial
 | x :: r, c, o, hr => by
  unfold AV.rens;unfold RC at *;obtain ⟨⟨v, h1, h2, h3⟩, h4⟩ := hr;exact ⟨⟨v, h1, h2, R.ren h x v h3⟩, RC.ren h r c (o + 1) h4⟩
theorem RL.ren (h : Aei L b C₁ C' N') : ∀ (l : List AV) (vs : List Value), RL C₁ N₁ w l vs -> RL C' N' w (AV.rens L b l) vs
 | [], [], _ => by unfold AV.rens RL; trivial
 | x :: r, v :: s, hr => by
  unfold AV.rens;unfold RL at *;exact ⟨R.ren h x v hr.1, RL.ren h r s hr.2⟩
 | [], _ :: _, hr => by unfold RL at hr; exact hr.elim
 | _ :: _, [], hr => by unfold RL at hr; exact hr.elim
theorem U9 {L : List Nat} {b : Nat} : ∀ (l : List AV), (AV.rens L b l).length = l.length
 | [] => rfl
 | x :: r => by unfold AV.rens; simp [U9 r]
end
theorem ER.ren (h : Aei L b C₁ C' N') : ∀ (l : List (Key × AV)) (E : List MapEntry), ER C₁ N₁ w l E -> ER C' N' w (Aeh L b l) E
 | [], [], _ => by unfold Aeh ER; trivial
 | (k, v) :: r, e :: s, hr => by
  unfold Aeh;unfold ER at *;exact ⟨⟨hr.1.1, R.ren h v _ hr.1.2⟩, ER.ren h r s hr.2⟩
 | [], _ :: _, hr => by unfold ER at hr; exact hr.elim
 | _ :: _, [], hr => by unfold ER at hr; exact hr.elim
end
theorem Mv {L : List Nat} {b : Nat} {σ : Sto} : ∀ {M : List Nat} {l : List AO}, It L b σ M = some l -> l.length = M.length /\ ∀ (i a : Nat), M[i]? = some a -> ∃ o o', σ.get a = some o /\ o.ren L b = some o' /\ l[i]? = some o'
 | [], l, h => by simp [It] at h; subst h; simp
 | a :: M, l, h => by
  simp only [It] at h
  split at h
  ·rename_i o ho
   split at h
   ·rename_i o' l' h1 h2
    cases h;obtain ⟨k1, k2⟩ := Mv h2
    refine ⟨by simp [k1], fun i x hx => ?_⟩
    cases i with
    | zero => simp at hx; subst hx; exact ⟨o, o', ho, h1, rfl⟩
    | succ i => exact k2 i x (by simpa using hx)
   ·cases h
  ·cases h
def Ctx.iso (C : Ctx) : Ctx := ⟨fun _ => none, C.stm, C.own, C.lr⟩
theorem Ctx.iso_own (C : Ctx) : C.iso.own = C.own := by
 funext c
 simp [Ctx.own, Ctx.iso]
theorem Sim.iso {P : Program} {C : Ctx} {w : World} {σ : Sto} (h : Sim P C w σ) : Sim P C.iso w ⟨.e, 0⟩ where
 obj a O hg := by simp [Sto.get, Tr.get] at hg
 bound a O hg := by simp [Sto.get, Tr.get] at hg
 dom a p hp := by simp [Ctx.iso] at hp
 inj a b c o o' ha := by simp [Ctx.iso] at ha
 lt a c o ha := by simp [Ctx.iso] at ha
 rlt b hb := h.own_lt hb
 rdis a c o ha := by simp [Ctx.iso] at ha
def Ctx.lay (C : Ctx) (b : Nat) (C₁ : Ctx) (L : List Nat) : Ctx :=
 { C with loc := fun a => if a < b then C.loc a else match L[a - b]? with | some x => C₁.loc x | none => none }
theorem Akb {L : List Nat} (h : L.Nodup) {i j a : Nat} (hi : L[i]? = some a) (hj : L[j]? = some a) : i = j := by
 obtain ⟨h1, h2⟩ := List.getElem?_eq_some_iff.1 hi;obtain ⟨h3, h4⟩ := List.getElem?_eq_some_iff.1 hj;exact (List.getElem_inj h).1 (h2.trans h4.symm)
theorem Apv {P : Program} {C Cs C₁ : Ctx} {w w' : World} {σ σ₁ : Sto} {v : AV} {x : Value} {L : List Nat} {objs : List AO}
  (hs : Sim P C w σ) (h1 : Sim P C₁ w' σ₁) (hres : Cs.res = C.own) (hloc : Cs.loc = fun _ => none) (he : Ext Cs 0 w C₁ (nx σ₁) w') (hr : R C₁ (nx σ₁) w' v x)
  (hn : L.Nodup) (ho : It L (nx σ) σ₁ L = some objs) :
  ∃ C', Sim P C' w' (Ho objs σ) /\ Ext C (nx σ) w C' (nx (Ho objs σ)) w' /\ R C' (nx (Ho objs σ)) w' (v.ren L (nx σ)) x := by
 obtain ⟨hlen, hobj⟩ := Mv ho;have hC₁res : C₁.res = C.own := he.res.1.trans hres
 have hkeepOwn : ∀ c, C.own c -> w'.heap[c]? = w.heap[c]? := fun c hc => he.res.2 c (by rw [hres]; exact hc)
 have hCsOwn : ∀ c, Cs.own c ↔ C.own c := fun c => by
  unfold Ctx.own;rw [hres, hloc]
  simp [Ctx.own]
 have hnx : nx (Ho objs σ) = nx σ + L.length := by rw [Aaq, hlen]
 have hlocLt : ∀ a, a < nx σ -> (C.lay (nx σ) C₁ L).loc a = C.loc a := fun a ha => by simp [Ctx.lay, ha]
 have hlocGe : ∀ (i a : Nat), L[i]? = some a -> (C.lay (nx σ) C₁ L).loc (nx σ + i) = C₁.loc a := fun i a hi => by
  simp only [Ctx.lay]
  rw [if_neg (by omega), show nx σ + i - nx σ = i by omega, hi]
 have hlocInv : ∀ a p, (C.lay (nx σ) C₁ L).loc a = some p -> (a < nx σ /\ C.loc a = some p) ∨ ∃ i x, a = nx σ + i /\ L[i]? = some x /\ C₁.loc x = some p := fun a p hp => by
  by_cases ha : a < nx σ
  ·rw [hlocLt a ha] at hp; exact .inl ⟨ha, hp⟩
  ·simp only [Ctx.lay, if_neg ha] at hp
   split at hp
   ·rename_i y hy; exact .inr ⟨a - nx σ, y, by omega, hy, hp⟩
   ·cases hp
 have hown : ∀ c, (C.lay (nx σ) C₁ L).own c -> C₁.own c := fun c hc => by
  rcases hc with hc | ⟨a, o, hc⟩
  ·exact .inl (by rw [hC₁res]; exact .inl hc)
  ·rcases hlocInv a _ hc with ⟨_, h2⟩ | ⟨i, y, _, _, h4⟩
   ·exact .inl (by rw [hC₁res]; exact .inr ⟨a, o, h2⟩)
   ·exact .inr ⟨y, o, h4⟩
 have hmv : Aei L (nx σ) C₁ (C.lay (nx σ) C₁ L) (nx (Ho objs σ)) := ⟨fun a i hi => by
  have hi' := Aap hi;have := (List.getElem?_eq_some_iff.1 hi').1
  exact ⟨by rw [hnx]; omega, hlocGe i a hi'⟩, hown⟩
 have e : Ext C (nx σ) w (C.lay (nx σ) C₁ L) (nx (Ho objs σ)) w' := ⟨by omega, he.size,
  fun c hc ho => by
   obtain ⟨k1, k2⟩ := he.keep c hc (fun hh => ho ((hCsOwn c).1 hh))
   exact ⟨fun hh => k1 (hown c hh), k2⟩,
  fun a ha p hp => by rwa [hlocLt a ha] at hp, fun _ _ => rfl, fun _ _ => rfl,
  fun a ha c o hc => by
   rw [hlocLt a ha] at hc;unfold csize;rw [hkeepOwn c (.inr ⟨a, o, hc⟩)],
  ⟨rfl, fun c hc => hkeepOwn c (.inl hc)⟩, he.os⟩
 refine ⟨C.lay (nx σ) C₁ L, ⟨fun a O hg => ?_, fun a O hg => ?_, fun a p hp => ?_, fun a d c o o' ha hd => ?_, fun a c o ha => ?_, fun c hc => ?_, fun a c o ha hc => ?_⟩, e, R.ren hmv v x hr⟩
 ·rw [Il] at hg
  by_cases ha : a < nx σ
  ·rw [if_pos ha] at hg;refine (hs.obj a O hg).ext e ha (hlocLt a ha) (fun c o hc => hkeepOwn c (.inr ⟨a, o, hc⟩)) fun m hm kt es' v' hg' => ?_
   rw [Il, if_pos hm] at hg';exact ⟨kt, es', v', hg', nl, fun _ => ⟨hlocLt m hm, fun c o hc => hkeepOwn c (.inr ⟨m, o, hc⟩)⟩⟩
  ·rw [if_neg ha] at hg
   split at hg
   ·rename_i o' ho'
    cases hg
    have hi : a - nx σ < L.length := by
     have := (List.getElem?_eq_some_iff.1 ho').1; omega
    have hLi : L[a - nx σ]? = some L[a - nx σ] := List.getElem?_eq_getElem hi;obtain ⟨o₁, o₂, g1, g2, g3⟩ := hobj _ _ hLi;rw [ho'] at g3; cases g3;have hl := hlocGe _ _ hLi
    rw [show nx σ + (a - nx σ) = a by omega] at hl
    have hor := h1.obj _ _ g1;cases o₁ with
    | cells vs =>
     simp only [AO.ren, Option.some.injEq] at g2; subst g2;obtain ⟨c, o, cs, T, q1, q2, q3⟩ := hor;exact ⟨c, o, cs, T, hl.trans q1, q2, RC.ren hmv vs c o q3⟩
    | map kt es ver =>
     simp only [AO.ren, Option.some.injEq] at g2; subst g2;obtain ⟨c, E, clock, q1, q2, q3⟩ := hor;obtain ⟨P1, p2, p3⟩ := q3.perm;exact ⟨c, E, clock, hl.trans q1, q2, q3.typed, ⟨P1, p2, ER.ren hmv es P1 p3⟩, q3.keys, q3.born, q3.apart⟩
    | iter _ _ _ _ => simp [AO.ren] at g2
    | stamp _ _ _ => simp [AO.ren] at g2
    | loop _ => simp [AO.ren] at g2
   ·exact absurd (hs.bound a O hg) ha
 ·rw [hnx];rw [Il] at hg
  by_cases ha : a < nx σ
  ·omega
  ·rw [if_neg ha] at hg
   split at hg
   ·rename_i o' ho'
    have := (List.getElem?_eq_some_iff.1 ho').1; omega
   ·have := hs.bound a O hg; omega
 ·rw [Il]
  rcases hlocInv a p hp with ⟨ha, hc⟩ | ⟨i, y, rfl, hi, hc⟩
  ·rw [if_pos ha]; exact hs.dom a p hc
  ·obtain ⟨o₁, o₂, g1, g2, g3⟩ := hobj i y hi
   rw [if_neg (by omega), show nx σ + i - nx σ = i by omega, g3]
   refine ⟨o₂, rfl, ?_⟩;cases o₁ with
   | cells vs => simp only [AO.ren, Option.some.injEq] at g2; subst g2; rfl
   | map kt es ver => simp only [AO.ren, Option.some.injEq] at g2; subst g2; rfl
   | iter _ _ _ _ => simp [AO.ren] at g2
   | stamp _ _ _ => simp [AO.ren] at g2
   | loop _ => simp [AO.ren] at g2
 ·rcases hlocInv a _ ha with ⟨ha1, hc⟩ | ⟨i, y, rfl, hi, hc⟩ <;> rcases hlocInv d _ hd with ⟨hd1, kc⟩ | ⟨j, z, rfl, hj, kc⟩
  ·exact hs.inj a d c o o' hc kc
  ·exact absurd (show C₁.res c by rw [hC₁res]; exact .inr ⟨a, o, hc⟩) (h1.rdis z c o' kc)
  ·exact absurd (show C₁.res c by rw [hC₁res]; exact .inr ⟨d, o', kc⟩) (h1.rdis y c o hc)
  ·have := h1.inj y z c o o' hc kc;subst this;rw [Akb hn hi hj]
 ·rcases hlocInv a _ ha with ⟨_, hc⟩ | ⟨i, y, _, _, hc⟩
  ·exact Nat.lt_of_lt_of_le (hs.lt a c o hc) he.size
  ·exact h1.lt y c o hc
 ·exact Nat.lt_of_lt_of_le (hs.rlt c hc) he.size
 ·rcases hlocInv a _ ha with ⟨_, hk⟩ | ⟨i, y, _, _, hk⟩
  ·exact hs.rdis a c o hk hc
  ·exact h1.rdis y c o hk (by rw [hC₁res]; exact .inl hc)
mutual
def AV.closed : AV -> Bool
 | .pr _ _ => false
 | .sr _ _ _ _ _ => false
 | .mp _ => false
 | .it _ => false
 | .stp _ => false
 | .yl _ => false
 | .pv cs => AV.closeds cs
 | .sv cs _ _ _ => AV.closeds cs
 | .fn _ p q => AV.closeds p && AV.closeds q
 | .ifc _ x => AV.closed x
 | .agg cs => AV.closeds cs
 | .tup vs => AV.closeds vs
 | _ => true
def AV.closeds : List AV -> Bool
 | [] => true
 | x :: r => AV.closed x && AV.closeds r
end
section
variable {C C' : Ctx} {N N' : Nat} {w : World}
mutual
theorem R.closed (h : ∀ c, C'.own c -> C.own c) : ∀ (x : AV) (v : Value), x.closed = true -> R C N w x v -> R C' N' w x v
 | .pr _ _, _, k, _ => by simp [AV.closed] at k
 | .sr _ _ _ _ _, _, k, _ => by simp [AV.closed] at k
 | .mp _, _, k, _ => by simp [AV.closed] at k
 | .it _, _, k, _ => by simp [AV.closed] at k
 | .stp _, _, k, _ => by simp [AV.closed] at k
 | .yl _, _, k, _ => by simp [AV.closed] at k
 | .flt _ _, v, k, hr => by unfold R at *; exact hr
 | .pv cs, v, k, hr => by
  simp only [AV.closed] at k;unfold R at *;obtain ⟨c, o, h1, h2, h3⟩ := hr;exact ⟨c, o, h1, fun hne ho => h2 hne (h c ho), RC.closed h cs c o k h3⟩
 | .sv cs sz len cap, v, k, hr => by
  simp only [AV.closed] at k;unfold R at *;obtain ⟨ado, q, h1, h2, h3, h4, h0, hh⟩ := hr;refine ⟨ado, q, h1, h2, h3, h4, h0, fun ad ha => ?_⟩
  obtain ⟨h5, h6, h7⟩ := hh ad ha;exact ⟨h5, fun hne ho => h6 hne (h _ ho), RC.closed h cs ad.block ad.off k h7⟩
 | .fn f p q, v, k, hr => by
  simp only [AV.closed, Bool.and_eq_true] at k;unfold R at *;obtain ⟨a, c, h1, h2, h3⟩ := hr;exact ⟨a, c, h1, RL.closed h p _ k.1 h2, RL.closed h q _ k.2 h3⟩
 | .ifc t x, v, k, hr => by
  simp only [AV.closed] at k;unfold R at *;obtain ⟨y, h1, h2⟩ := hr;exact ⟨y, h1, R.closed h x y k h2⟩
 | .agg cs, v, k, hr => by
  simp only [AV.closed] at k;unfold R at *;obtain ⟨a, h1, h2, h3⟩ := hr;exact ⟨a, h1, RL.closed h cs _ k h2, h3⟩
 | .tup vs, v, k, hr => by
  simp only [AV.closed] at k;unfold R at *;obtain ⟨a, h1, h2⟩ := hr;exact ⟨a, h1, RL.closed h vs _ k h2⟩
 | .any, v, k, hr => by unfold R; trivial
 | .bool x, v, k, hr => by unfold R at *; exact hr
 | .int k' n, v, k, hr => by unfold R at *; exact hr
 | .str l, v, k, hr => by unfold R at *; exact hr
 | .nil y, v, k, hr => by unfold R at *; exact hr
theorem RC.closed (h : ∀ c, C'.own c -> C.own c) : ∀ (cs : List AV) (c o : Nat), AV.closeds cs = true -> RC C N w c cs o -> RC C' N' w c cs o
 | [], c, o, _, _ => by unfold RC; trivial
 | x :: r, c, o, k, hr => by
  simp only [AV.closeds, Bool.and_eq_true] at k;unfold RC at *;obtain ⟨⟨v, h1, h2, h3⟩, h4⟩ := hr;exact ⟨⟨v, h1, h2, R.closed h x v k.1 h3⟩, RC.closed h r c (o + 1) k.2 h4⟩
theorem RL.closed (h : ∀ c, C'.own c -> C.own c) : ∀ (l : List AV) (vs : List Value), AV.closeds l = true -> RL C N w l vs -> RL C' N' w l vs
 | [], [], _, _ => by unfold RL; trivial
 | x :: r, v :: s, k, hr => by
  simp only [AV.closeds, Bool.and_eq_true] at k;unfold RL at *;exact ⟨R.closed h x v k.1 hr.1, RL.closed h r s k.2 hr.2⟩
 | [], _ :: _, _, hr => by unfold RL at hr; exact hr.elim
 | _ :: _, [], _, hr => by unfold RL at hr; exact hr.elim
end
end
def Aih (L : List Nat) (b : Nat) : List AO -> Option (List AO)
 | [] => some []
 | o :: r => match o.ren L b, Aih L b r with
  | some o', some l => some (o' :: l)
  | _, _ => none
theorem Xy {L : List Nat} {b : Nat} {σ : Sto} : ∀ (M : List Nat) (l : List AO), M.length = l.length -> (∀ (i a : Nat), M[i]? = some a -> σ.get a = l[i]?) -> It L b σ M = Aih L b l
 | [], [], _, _ => rfl
 | a :: M, o :: l, hl, h => by
  have h0 := h 0 a rfl;simp only [It, Aih];rw [h0];simp only [List.getElem?_cons_zero]
  rw [Xy M l (by simpa using hl) fun i x hx => by simpa using h (i + 1) x (by simpa using hx)]
 | [], _ :: _, hl, _ => by simp at hl
 | _ :: _, [], hl, _ => by simp at hl
def Akc (L : List Nat) (r : Res) : Option (AV × List AO) :=
 match r with
 | some (v, σ) => match It L 0 σ L with
  | some l => some (v.ren L 0, l)
  | none => none
 | none => none
def Aej (a₀ : List AV) (v₀ : AV) (o₀ : List AO) (args : List AV) (σ : Sto) : Res :=
 match AV.beqs args a₀ with
 | true => match Aih (List.range o₀.length) (nx σ) o₀ with
  | some l => some (v₀.ren (List.range o₀.length) (nx σ), Ho l σ)
  | none => none
 | false => none
theorem Aek {L : List Nat} {b : Nat} {σ : Sto} {M : List Nat} {l : List AO} (h : It L b σ M = some l) : l.length = M.length := (Mv h).1
theorem Xz {E : Env} {lf n f : Nat} {a₀ : List AV} {L : List Nat} {v₀ : AV} {o₀ : List AO} (hrec : Bc E (I9 E lf n)) (hgl : ∀ g, E.gl g = none) (hcl : AV.closeds a₀ = true) (hL : L.Nodup)
  (hrun : Akc L (I9 E lf n f a₀ ⟨.e, 0⟩) = some (v₀, o₀)) : Em E f (Aej a₀ v₀ o₀) := by
 intro C w σ args vs v σ' hs hg hargs h;unfold Aej at h
 split at h
 ·rename_i hb
  have := AV.beqs_eq _ _ hb;subst this
  split at h
  ·rename_i l hl
   cases h;unfold Akc at hrun
   split at hrun
   ·rename_i v₁ σ₁ hcall
    split at hrun
    ·rename_i l₀ hl₀
     cases hrun
     obtain ⟨hent, hc⟩ := hrec f C.iso w ⟨.e, 0⟩ args vs v₁ σ₁ hs.iso ⟨fun g cs hh => (by rw [hgl g] at hh; cases hh), fun c P hc => by rw [C.iso_own]; exact hg.2 c P hc⟩
      (RL.closed (fun c hc => by rwa [C.iso_own] at hc) _ _ hcl hargs) hcall
     refine ⟨hent, hc.mono fun e w' he => ?_⟩
     cases e with
     | returned x =>
      obtain ⟨C₁, h1, h2, h3⟩ := he;obtain ⟨C₂, k1, k2, k3⟩ := Apv hs.iso h1 (C.iso_own).symm rfl h2 h3 hL hl₀;have hlen := Aek hl₀
      have hl2 : It (List.range o₀.length) (nx σ) (Ho o₀ ⟨.e, 0⟩) (List.range o₀.length) = some l := by
       rw [Xy _ o₀ (by simp) fun i a ha => ?_]
       ·exact hl
       ·obtain ⟨g1, g2⟩ := List.getElem?_eq_some_iff.1 ha
        simp at g1 g2
        subst g2
        rw [Il, if_neg (by simp [nx])]
        simp only [nx, Nat.sub_zero];rw [List.getElem?_eq_getElem g1]
      exact Apv hs k1 rfl rfl k2 k3 List.nodup_range hl2
     | panicked _ => exact he.elim
     | outgrown => exact he.elim
    ·cases hrun
   ·cases hrun
  ·cases h
 ·cases h
def Va (a₀ : List AV) (v₀ : AV) (args : List AV) (σ : Sto) : Res :=
 match AV.beqs args a₀ with
 | true => some (v₀, σ)
 | false => none
mutual
theorem Q7 {L : List Nat} {b : Nat} : ∀ (x : AV), x.closed = true -> x.ren L b = x
 | .pr _ _, k => by simp [AV.closed] at k
 | .sr _ _ _ _ _, k => by simp [AV.closed] at k
 | .mp _, k => by simp [AV.closed] at k
 | .it _, k => by simp [AV.closed] at k
 | .stp _, k => by simp [AV.closed] at k
 | .yl _, k => by simp [AV.closed] at k
 | .flt _ _, _ => by unfold AV.ren; rfl
 | .pv cs, k => by simp only [AV.closed] at k; unfold AV.ren; rw [F3 cs k]
 | .sv cs _ _ _, k => by simp only [AV.closed] at k; unfold AV.ren; rw [F3 cs k]
 | .fn f p q, k => by simp only [AV.closed, Bool.and_eq_true] at k; unfold AV.ren; rw [F3 p k.1, F3 q k.2]
 | .ifc t x, k => by simp only [AV.closed] at k; unfold AV.ren; rw [Q7 x k]
 | .agg cs, k => by simp only [AV.closed] at k; unfold AV.ren; rw [F3 cs k]
 | .tup cs, k => by simp only [AV.closed] at k; unfold AV.ren; rw [F3 cs k]
 | .any, _ => by unfold AV.ren; rfl
 | .bool _, _ => by unfold AV.ren; rfl
 | .int _ _, _ => by unfold AV.ren; rfl
 | .str _, _ => by unfold AV.ren; rfl
 | .nil _, _ => by unfold AV.ren; rfl
theorem F3 {L : List Nat} {b : Nat} : ∀ (l : List AV), AV.closeds l = true -> AV.rens L b l = l
 | [], _ => by unfold AV.rens; rfl
 | x :: r, k => by
  simp only [AV.closeds, Bool.and_eq_true] at k;unfold AV.rens;rw [Q7 x k.1, F3 r k.2]
end
theorem N5 {E : Env} {lf n f : Nat} {a₀ : List AV} {v₀ : AV} (hrec : Bc E (I9 E lf n)) (hgl : ∀ g, E.gl g = none) (hcl : AV.closeds a₀ = true) (hv : v₀.closed = true)
  (hrun : Akc [] (I9 E lf n f a₀ ⟨.e, 0⟩) = some (v₀, [])) : Em E f (Va a₀ v₀) := by
 intro C w σ args vs v σ' hs hg hargs h;refine Xz hrec hgl hcl List.nodup_nil hrun C w σ args vs v σ' hs hg hargs ?_;unfold Va at h;unfold Aej
 split at h
 ·rename_i hb
  cases h;rw [Q7 _ hv]
  rfl
 ·cases h
theorem Em.env {E E' : Env} (hP : E.P = E'.P) (hg : E.gl = E'.gl) (hh : E.hold = E'.hold) {f : Nat} {g : List AV -> Sto -> Res} (h : Em E f g) : Em E' f g := by
 obtain ⟨P, gl, s, d, b, o⟩ := E;obtain ⟨P', gl', s', d', b', o'⟩ := E';simp only at hP hg hh;subst hP hg hh;exact h
end Go.AM
namespace Go.AM
open Go
def Mw : Obj -> Bool
 | .cells .. => false
 | _ => true
structure Fp (w w' : World) (l : Nat) : Prop where
 size : w'.heap.size = w.heap.size
 other : ∀ b, b ≠ l -> w'.heap[b]? = w.heap[b]?
 was : ∃ o, w.heap[l]? = some o /\ Mw o = true
 is : ∃ o, w'.heap[l]? = some o /\ Mw o = true
 os : w'.os = w.os /\ w'.output = w.output
theorem Fp.put {w : World} {l : Nat} {o o' : Obj} (h : w.heap[l]? = some o) (h1 : Mw o = true) (h2 : Mw o' = true) : Fp w (w.putObj l o') l :=
 ⟨World.putObj_size, fun b hb => World.putObj_heap_other hb, ⟨o, h, h1⟩, ⟨o', World.putObj_heap_same (Array.getElem?_eq_some_iff.1 h).1, h2⟩, rfl, rfl⟩
section
variable {C : Ctx} {N : Nat} {w w' : World} {l : Nat}
theorem Fp.cell (t : Fp w w' l) {a : Addr} {v : Value} (h : w.cell? a = some v) : w'.cell? a = some v := by
 by_cases hb : a.block = l
 ·obtain ⟨o, h1, h2⟩ := t.was;unfold World.cell? at h;rw [hb, h1] at h;cases o <;> simp [Mw] at h2 <;> simp at h
 ·unfold World.cell? at *;rw [t.other _ hb]; exact h
theorem Fp.csize (t : Fp w w' l) (c : Nat) : csize w' c = csize w c := by
 unfold AM.csize
 by_cases hb : c = l
 ·subst hb;obtain ⟨o, h1, h2⟩ := t.was;obtain ⟨o', k1, k2⟩ := t.is;rw [h1, k1];cases o <;> simp [Mw] at h2 <;> cases o' <;> simp [Mw] at k2 <;> rfl
 ·rw [t.other _ hb]
mutual
theorem R.turn (t : Fp w w' l) : ∀ (x : AV) (v : Value), R C N w x v -> R C N w' x v
 | .pr _ _, v, hr => by unfold R at *; exact hr
 | .sr a off sz len cap, v, hr => by
  unfold R at *;obtain ⟨ad, k, h1, h2, h3, h4, h5⟩ := hr
  exact ⟨ad, k, h1, h2, h3, h4, fun c o hc => by rw [t.csize]; exact h5 c o hc⟩
 | .mp _, v, hr => by unfold R at *; exact hr
 | .it _, v, hr => by unfold R at *; exact hr
 | .stp _, v, hr => by unfold R at *; exact hr
 | .yl _, v, hr => by unfold R at *; exact hr
 | .flt _ _, v, hr => by unfold R at *; exact hr
 | .pv cs, v, hr => by
  unfold R at *;obtain ⟨c, o, h1, h2, h3⟩ := hr;exact ⟨c, o, h1, h2, RC.turn t cs c o h3⟩
 | .sv cs sz len cap, v, hr => by
  unfold R at *;obtain ⟨ado, q, h1, h2, h3, h4, h0, hh⟩ := hr;refine ⟨ado, q, h1, h2, h3, h4, h0, fun ad ha => ?_⟩
  obtain ⟨h5, h6, h7⟩ := hh ad ha;exact ⟨h5, h6, RC.turn t cs ad.block ad.off h7⟩
 | .fn f p q, v, hr => by
  unfold R at *;obtain ⟨a, c, h1, h2, h3⟩ := hr;exact ⟨a, c, h1, RL.turn t p _ h2, RL.turn t q _ h3⟩
 | .ifc ty x, v, hr => by
  unfold R at *;obtain ⟨y, h1, h2⟩ := hr;exact ⟨y, h1, R.turn t x y h2⟩
 | .agg cs, v, hr => by
  unfold R at *;obtain ⟨a, h1, h2, h3⟩ := hr;exact ⟨a, h1, RL.turn t cs _ h2, h3⟩
 | .tup vs, v, hr => by
  unfold R at *;obtain ⟨a, h1, h2⟩ := hr;exact ⟨a, h1, RL.turn t vs _ h2⟩
 | .any, v, hr => by unfold R; trivial
 | .bool x, v, hr => by unfold R at *; exact hr
 | .int k' n, v, hr => by unfold R at *; exact hr
 | .str l, v, hr => by unfold R at *; exact hr
 | .nil y, v, hr => by unfold R at *; exact hr
theorem RC.turn (t : Fp w w' l) : ∀ (cs : List AV) (c o : Nat), RC C N w c cs o -> RC C N w' c cs o
 | [], c, o, _ => by unfold RC; trivial
 | x :: r, c, o, hr => by
  unfold RC at *;obtain ⟨⟨v, h1, h2, h3⟩, h4⟩ := hr;exact ⟨⟨v, t.cell h1, h2, R.turn t x v h3⟩, RC.turn t r c (o + 1) h4⟩
theorem RL.turn (t : Fp w w' l) : ∀ (l : List AV) (vs : List Value), RL C N w l vs -> RL C N w' l vs
 | [], [], _ => by unfold RL; trivial
 | x :: r, v :: s, hr => by
  unfold RL at *;exact ⟨R.turn t x v hr.1, RL.turn t r s hr.2⟩
 | [], _ :: _, hr => by unfold RL at hr; exact hr.elim
 | _ :: _, [], hr => by unfold RL at hr; exact hr.elim
end
theorem ER.turn (t : Fp w w' l) : ∀ {l : List (Key × AV)} {L : List MapEntry}, ER C N w l L -> ER C N w' l L
 | [], [], _ => by unfold ER; trivial
 | x :: r, f :: s, h => by unfold ER at *; exact ⟨⟨h.1.1, R.turn t _ _ h.1.2⟩, ER.turn t h.2⟩
 | [], _ :: _, h => by unfold ER at h; exact h.elim
 | _ :: _, [], h => by unfold ER at h; exact h.elim
theorem OR.turn {P : Program} {σ : Sto} {a : Nat} {O : AO} (h : OR P C w σ a O) (t : Fp w w' l) (hl : ¬ C.own l) : OR P C w' σ a O := by
 have hh : ∀ {a c o}, C.loc a = some (c, o) -> w'.heap[c]? = w.heap[c]? := fun {a c o} hc => t.other c (fun e => hl (.inr ⟨a, o, e ▸ hc⟩))
 cases O with
 | cells vs =>
  obtain ⟨c, o, cs, T, h1, h2, h3⟩ := h;exact ⟨c, o, cs, T, h1, (hh h1).trans h2, RC.turn t _ _ _ h3⟩
 | map kt es ver =>
  obtain ⟨c, E, clock, h1, h2, h3⟩ := h;obtain ⟨L, k1, k2⟩ := h3.perm;exact ⟨c, E, clock, h1, (hh h1).trans h2, h3.typed, ⟨L, k1, ER.turn t k2⟩, h3.keys, h3.born, h3.apart⟩
 | iter m ver left cur =>
  cases m with
  | none =>
   obtain ⟨c, since, seen, last, h1, h2, h3⟩ := h;exact ⟨c, since, seen, last, h1, (hh h1).trans h2, h3⟩
  | some m =>
   obtain ⟨h0, c, cm, since, seen, last, h1, h2, h3⟩ := h;refine ⟨h0, c, cm, since, seen, last, h1, (hh h1).trans h2, fun kt es' v' hg => ?_⟩
   obtain ⟨k1, k2⟩ := h3 kt es' v' hg;refine ⟨k1, fun hv => ?_⟩
   obtain ⟨E, q1, q2, q3, ⟨L, q4, q5⟩, q6⟩ := k2 hv;exact ⟨E, q1, (hh q1).trans q2, q3, ⟨L, q4, ER.turn t q5⟩, fun k x hk => let ⟨f, f1, f2, f3, f4⟩ := q6 k x hk; ⟨f, f1, f2, f3, R.turn t _ _ f4⟩⟩
 | stamp m ver k =>
  obtain ⟨h0, h3⟩ := h;refine ⟨h0, fun kt es' v' hg => ?_⟩
  obtain ⟨k1, k2⟩ := h3 kt es' v' hg;refine ⟨k1, fun hv => ?_⟩
  obtain ⟨cm, E, clock, q1, q2, f⟩ := k2 hv;exact ⟨cm, E, clock, q1, (hh q1).trans q2, f⟩
 | loop st =>
  obtain ⟨c, r, h1, h2, h3⟩ := h;exact ⟨c, r, h1, h2, (hh h1).trans h3⟩
theorem Sim.turn {P : Program} {σ : Sto} (h : Sim P C w σ) (t : Fp w w' l) (hl : ¬ C.own l) : Sim P C w' σ :=
 ⟨fun a O hg => (h.obj a O hg).turn t hl, h.bound, h.dom, h.inj, fun a c o hc => by rw [t.size]; exact h.lt a c o hc, fun b hb => by rw [t.size]; exact h.rlt b hb, h.rdis⟩
def Sto.bump (σ : Sto) : Sto := match σ with | ⟨t, n⟩ => Ch (n + 1) fun n => ⟨t, n⟩
theorem Bo (σ : Sto) : nx σ.bump = nx σ + 1 := by cases σ; simp only [Sto.bump, Au, nx]
theorem Dv (σ : Sto) (a : Nat) : σ.bump.get a = σ.get a := by cases σ; simp only [Sto.bump, Au, Sto.get]
theorem Sim.bump {P : Program} {σ : Sto} (h : Sim P C w σ) (n : Int) :
  Sim P (C.addStm (nx σ) n) w σ.bump /\ Ext C (nx σ) w (C.addStm (nx σ) n) (nx σ + 1) w := by
 have hne : ∀ {a}, a < nx σ -> ¬ a = nx σ := fun h => by omega
 have e : Ext C (nx σ) w (C.addStm (nx σ) n) (nx σ + 1) w := ⟨by omega, nl, fun b _ ho => ⟨ho, rfl⟩, fun _ _ _ h => h,
  fun a ha => by simp [Ctx.addStm, hne ha], fun _ _ => rfl, fun _ _ _ _ _ => rfl, ⟨rfl, fun _ _ => rfl⟩, rfl, rfl⟩
 refine ⟨⟨fun a X hg => ?_, fun a X hg => ?_, fun a q hq => ?_, h.inj, h.lt, h.rlt, h.rdis⟩, e⟩
 ·rw [Dv] at hg
  refine (h.obj a X hg).ext (by rw [Bo]; exact e) (h.bound a X hg) rfl (fun _ _ _ => rfl) fun x hx kt es' v' hg' => ?_
  rw [Dv] at hg';exact ⟨kt, es', v', hg', nl, fun _ => ⟨rfl, fun _ _ _ => rfl⟩⟩
 ·rw [Bo]; rw [Dv] at hg; have := h.bound a X hg; omega
 ·rw [Dv]; exact h.dom a q hq
theorem Fv.turn {E : Env} (t : Fp w w' l) (h : Fv C N w E) : Fv C N w' E := by
 refine ⟨fun g cs hg => R.turn t _ _ (h.1 g cs hg), fun c P hc => ?_⟩
 obtain ⟨h1, cs, T, fz, h2, h3⟩ := h.2 c P hc;refine ⟨h1, cs, T, fz, (t.other c fun e => ?_).trans h2, h3⟩
 obtain ⟨o, k1, k2⟩ := t.was;rw [← e, h2] at k1;cases k1;cases k2
end
structure Alx where
 reg : Nat -> Option (Array Oper -> St -> Out)
 rng : Operand -> Array Tmp -> Code -> Code -> St -> Out
def Hq (E : Env) (lf : Nat) (R : Rec) (H : Alx) : Code -> St -> Out
 | .region id ops draw, s => match H.reg id with
  | some g => match draw with | false => g ops s | true => none
  | none => Fm E lf R (.region id ops draw) s
 | .rangeFunc f ps a b, s => H.rng f ps a b s
 | .seq a b, s => match Hq E lf R H a s with
  | some l => Qg (Hq E lf R H b) l
  | none => none
 | .cond c a b, s => match opd E s.tm c with
  | .bool true => Hq E lf R H a s
  | .bool false => Hq E lf R H b s
  | _ => none
 | .block id a, s => match Hq E lf R H a s with | some l => some (Hk id l) | none => none
 | .loop a, s => match Sp (Hq E lf R H a) lf s with
  | some l => O2 l
  | none => none
 | .skip, s => some [(.normal, s)]
 | .exit id, s => some [(.exit id, s)]
 | .ret, s => some [(.ret, s)]
 | _, _ => none
def Jw (E : Env) (Inv : Ctx -> Nat -> World -> Prop) (g : St -> Out) (c : Code) : Prop :=
 ∀ (C : Ctx) (w : World) (s : St) (a : Act) (l : List (XE × St)), Inv C (nx s.sto) w -> SSt E C w s a -> g s = some l -> c.wp E.P (K4 E C (nx s.sto) w l) a w
structure Aow (E : Env) (Inv : Ctx -> Nat -> World -> Prop) (H : Alx) : Prop where
 reg : ∀ id g, H.reg id = some g -> ∀ ops, Jw E Inv (g ops) (.region id ops false)
 rng : ∀ f ps a b, Jw E Inv (H.rng f ps a b) (.rangeFunc f ps a b)
section
variable {E : Env} {Rr : Rec} {Inv : Ctx -> Nat -> World -> Prop} {H : Alx}
theorem Ael (hInv : ∀ {C N w C' N' w'}, Inv C N w -> Ext C N w C' N' w' -> Inv C' N' w') {c : Code} {body : St -> Out} (hbody : Jw E Inv body c) :
  ∀ (n : Nat) (C : Ctx) (w : World) (s : St) (a : Act) (l : List (XE × St)), Inv C (nx s.sto) w -> SSt E C w s a -> Sp body n s = some l -> ∀ (b : Frame) (k : List Item) (cs : List Frame),
   ∃ e a' w', K4 E C (nx s.sto) w l e a' w' /\ Arrives E.P (lone (b.at a (.code c :: .inLoop c :: k)) cs w) b k cs e a' w'
 | 0, _, _, _, _, _, _, _, h, _, _, _ => by simp [Sp] at h
 | n + 1, C, w, s, a, l, hi, st, h, b, k, cs => by
  simp only [Sp] at h
  split at h
  ·rename_i m hm
   obtain ⟨e, a₁, w₁, hq, harr⟩ := hbody C w s a m hi st hm b (.inLoop c :: k) cs;obtain ⟨y, hy, C₁, hye, hst, hext⟩ := hq;obtain ⟨b1, b2⟩ := Fy h y hy;obtain ⟨x, s₁⟩ := y;cases x with
   | normal =>
    obtain ⟨m₁, h1, h2⟩ := b1 rfl;subst hye;obtain ⟨e₂, a₂, w₂, hq₂, harr₂⟩ := Ael hInv hbody n C₁ w₁ s₁ a₁ m₁ (hInv hi hext) hst h1 b k cs;exact ⟨e₂, a₂, w₂, hq₂.mono h2 hext, .of_steps (Steps.trans harr (.one step_inLoop)) harr₂⟩
   | exit id =>
    subst hye
    exact ⟨.exit id, a₁, w₁, ⟨_, b2 (by simp), C₁, rfl, hst, hext⟩, .pass (x := .inLoop c) rfl (fun _ _ => .inl (by simp)) harr⟩
   | ret =>
    subst hye
    exact ⟨.ret, a₁, w₁, ⟨_, b2 (by simp), C₁, rfl, hst, hext⟩, .pass (x := .inLoop c) rfl (fun _ _ => .inl (by simp)) harr⟩
  ·cases h
theorem Vb (hR : Bc E Rr) (hD : Ij E Rr) (hInv : ∀ {C N w C' N' w'}, Inv C N w -> Ext C N w C' N' w' -> Inv C' N' w') (lf : Nat)
  (ho : Aow E Inv H) : ∀ (c : Code), Jw E Inv (Hq E lf Rr H c) c := by
 intro c
 induction c with
 | skip => intro C w s a l hi st h; simp only [Hq, Option.some.injEq] at h; subst h; exact wp_skip ⟨_, List.mem_singleton_self _, C, rfl, st, Ext.refl _ _ _⟩
 | exit id => intro C w s a l hi st h; simp only [Hq, Option.some.injEq] at h; subst h; exact wp_exit ⟨_, List.mem_singleton_self _, C, rfl, st, Ext.refl _ _ _⟩
 | ret => intro C w s a l hi st h; simp only [Hq, Option.some.injEq] at h; subst h; exact wp_ret ⟨_, List.mem_singleton_self _, C, rfl, st, Ext.refl _ _ _⟩
 | region id ops draw =>
  intro C w s a l hi st h;simp only [Hq] at h
  split at h
  ·rename_i g hg
   split at h
   ·exact ho.reg id g hg ops C w s a l hi st h
   ·cases h
  ·exact K6 hR hD lf _ C w s a l st h
 | rangeFunc f ps x y ihx ihy =>
  intro C w s a l hi st h;simp only [Hq] at h;exact ho.rng f ps x y C w s a l hi st h
 | seq x y ihx ihy =>
  intro C w s a l hi st h;simp only [Hq] at h
  split at h
  ·rename_i m hm
   refine wp_seq (wp_mono (ihx C w s a m hi st hm) fun e a₁ w₁ hq => ?_)
   obtain ⟨z, hz, C₁, hze, hst, hext⟩ := hq;obtain ⟨b1, b2⟩ := Fy h z hz;obtain ⟨x', s₁⟩ := z;subst hze;cases x' with
   | normal =>
    obtain ⟨m₁, h1, h2⟩ := b1 rfl;exact wp_mono (ihy C₁ w₁ s₁ a₁ m₁ (hInv hi hext) hst h1) fun e a₂ w₂ hq₂ => hq₂.mono h2 hext
   | exit id => exact ⟨_, b2 (by simp), C₁, rfl, hst, hext⟩
   | ret => exact ⟨_, b2 (by simp), C₁, rfl, hst, hext⟩
  ·cases h
 | cond c x y ihx ihy =>
  intro C w s a l hi st h;simp only [Hq] at h;have hc := B4 st.glob st.tmps c
  split at h
  ·rename_i heq; rw [heq] at hc; unfold R at hc
   exact wp_cond_true hc (ihx C w s a l hi st h)
  ·rename_i heq; rw [heq] at hc; unfold R at hc
   exact wp_cond_false hc (ihy C w s a l hi st h)
  ·cases h
 | block id x ih =>
  intro C w s a l hi st h;simp only [Hq] at h
  split at h
  ·rename_i m hm
   cases h;refine wp_block (wp_mono (ih C w s a m hi st hm) fun e a₁ w₁ hq => ?_)
   obtain ⟨z, hz, C₁, hze, hst, hext⟩ := hq;obtain ⟨x', s₁⟩ := z;subst hze
   rcases K5 (id := id) hz with ⟨h1, h2⟩ | ⟨h1, h2⟩
   ·simp only at h1; subst h1;simp only [Gh, Exit.inBlock, if_true];exact ⟨_, h2, C₁, rfl, hst, hext⟩
   ·cases x' with
    | normal => exact ⟨_, h2, C₁, rfl, hst, hext⟩
    | ret => exact ⟨_, h2, C₁, rfl, hst, hext⟩
    | exit j =>
     have hj : j ≠ id := fun hh => h1 (by rw [hh])
     simp only [Gh, Exit.inBlock, if_neg hj];exact ⟨_, h2, C₁, rfl, hst, hext⟩
  ·cases h
 | loop x ih =>
  intro C w s a l hi st h;simp only [Hq] at h
  split at h
  ·rename_i m hm
   intro b k cs;obtain ⟨e, a', w', ⟨y, hy, C₁, hye, hst, hext⟩, harr⟩ := Ael hInv ih lf C w s a m hi st hm b k cs;obtain ⟨z, hz, hze, hzs⟩ := Ms (E := E) h y hy;obtain ⟨C₂, q1, q2⟩ := hzs hst
   exact ⟨e, a', w', ⟨z, hz, C₂, by rw [hze]; exact hye, q1, hext.trans q2⟩, .of_steps (Steps.one step_loop) harr⟩
  ·cases h
 | _ => intro C w s a l hi st h; simp [Hq] at h
def Aly (E : Env) (fn : Func) (l : List (XE × St)) : Res :=
 match Qz (l.map (finA E fn.results.toList)) with
 | some rs => W3 rs
 | none => none
theorem L3 {C : Ctx} {w : World} {σ : Sto} {args : List AV} {vs : Array Value} {fn : Func} (hs : Sim E.P C w σ) (hg : Fv C (nx σ) w E) (hargs : RL C (nx σ) w args vs.toList) (hle : args.length <= fn.ntmps) :
  SSt E C w ⟨F8 args 0 .e, fn.ntmps, [], σ⟩ { tmps := vs ++ Array.replicate (fn.ntmps - vs.size) undef, defers := [] } := by
 have hlen := hargs.length;simp only [Array.length_toList] at hlen
 refine ⟨hs, hg, fun i y hy => ?_, by simp; omega, by unfold DR; trivial⟩
 simp only at hy;rw [F0] at hy
 split at hy
 ·rename_i hi
  rw [Nat.sub_zero] at hy;obtain ⟨x, k1, k2⟩ := hargs.get i y hy
  have : (vs ++ Array.replicate (fn.ntmps - vs.size) undef).getD i undef = x := by
   rw [Array.getD_eq_getD_getElem?, Array.getElem?_append_left (by omega), ← Array.getElem?_toList, k1]; rfl
  rw [this]; exact k2
 ·simp [Tr.get] at hy
theorem X0 (hmk : E.dsum D6 = none) (hdsum : ∀ f d, E.dsum f = some d -> N1 E f d) {f : FuncId} {fn : Func} {c : Code} (hfn : E.P.funcs[f]? = some fn) (hc : fn.body = some c)
  {C : Ctx} {w : World} {σ σ' : Sto} {vs : Array Value} {v : AV} {l : List (XE × St)} (h : Aly E fn l = some (v, σ'))
  (hwp : c.wp E.P (K4 E C (nx σ) w l) { tmps := vs ++ Array.replicate (fn.ntmps - vs.size) undef, defers := [] } w) : Calls E.P f vs w (Aac E.P C (nx σ) w v σ') := by
 unfold Aly at h
 split at h
 ·rename_i rs hrs
  refine calls_of_wp_defers hfn hc ?_;refine wp_mono hwp fun e a' w' hq => ?_
  obtain ⟨y, hy, C₁, hye, hst, hext⟩ := hq;obtain ⟨z, hz, hfin⟩ := Hd hrs _ (List.mem_map_of_mem hy)
  have fin : y.1 = .normal ∨ y.1 = .ret -> Leaves E.P fn a'.tmps (Aac E.P C (nx σ) w v σ') a'.defers .returning w' := by
   intro hx;have hfin' : (match Q0 E y.2.df y.2.sto with
    | some σ => match Sq E.P y.2.tm σ fn.results.toList with
     | some vs => some (Np vs, σ)
     | none => none
    | none => none) = some z := by
    obtain ⟨x, s⟩ := y;simp only at hx
    rcases hx with rfl | rfl <;> exact hfin
   split at hfin'
   ·rename_i σ₁ hσ₁
    split at hfin'
    ·rename_i vs₁ hvs₁
     cases hfin';refine Mt hmk hdsum y.2.df C₁ w' y.2.sto a'.defers _ hst.sim hst.glob hst.tmps hst.dfs hσ₁ hvs₁ fun x w₂ C₂ q1 q2 q3 => ?_
     obtain ⟨C₃, k1, k2, k3⟩ := J8 h _ hz q1 q3;exact ⟨C₃, k1, hext.trans (q2.trans k2), k3⟩
    ·cases hfin'
   ·cases hfin'
  obtain ⟨x, s⟩ := y;subst hye;cases x with
  | normal => exact fin (.inl rfl)
  | ret => exact fin (.inr rfl)
  | exit id => simp [finA] at hfin
 ·cases h
end
mutual
def AV.und (N : Nat) : AV -> Bool
 | .pr a _ => Nat.blt a N
 | .sr a _ _ _ _ => Nat.blt a N
 | .mp a => Nat.blt a N
 | .it a => Nat.blt a N
 | .stp a => Nat.blt a N
 | .yl a => Nat.blt a N
 | .pv cs => AV.unds N cs
 | .sv cs _ _ _ => AV.unds N cs
 | .fn _ p q => AV.unds N p && AV.unds N q
 | .ifc _ x => AV.und N x
 | .agg cs => AV.unds N cs
 | .tup vs => AV.unds N vs
 | _ => true
def AV.unds (N : Nat) : List AV -> Bool
 | [] => true
 | x :: r => AV.und N x && AV.unds N r
end
structure Agm (C' C : Ctx) : Prop where
 loc : ∀ a p, C'.loc a = some p -> C.loc a = some p
 stm : C'.stm = C.stm
 lr : C'.lr = C.lr
 res : C'.res = C.res
section
variable {C : Ctx} {N M : Nat} {w : World}
theorem D8 {a N : Nat} (h : a < N) : Nat.blt a N = true := by simpa using h
theorem F4 {a N : Nat} (h : Nat.blt a N = true) : a < N := by simpa using h
mutual
theorem R.und : ∀ (x : AV) (v : Value), R C N w x v -> AV.und N x = true
 | .any, _, _ => rfl
 | .bool _, _, _ => rfl
 | .int _ _, _, _ => rfl
 | .str _, _, _ => rfl
 | .nil _, _, _ => rfl
 | .flt _ _, _, _ => rfl
 | .pr a _, v, h => by unfold R at h; obtain ⟨_, _, h, _⟩ := h; exact D8 h
 | .sr a _ _ _ _, v, h => by unfold R at h; obtain ⟨_, _, _, h, _⟩ := h; exact D8 h
 | .mp a, v, h => by unfold R at h; obtain ⟨_, _, h, _⟩ := h; exact D8 h
 | .it a, v, h => by unfold R at h; obtain ⟨_, _, h, _⟩ := h; exact D8 h
 | .stp a, v, h => by unfold R at h; exact D8 h.2
 | .yl a, v, h => by unfold R at h; exact D8 h.2
 | .pv cs, v, h => by unfold R at h; obtain ⟨c, o, _, _, h⟩ := h; exact RC.unds cs c o h
 | .sv cs sz len cap, v, h => by
  unfold R at h;obtain ⟨ado, k, _, h1, _, h2, h3, h4⟩ := h;cases ado with
  | none =>
   have hk := h3 rfl
   have hl : len = 0 := by omega
   rw [hl, Nat.zero_mul] at h2;have := List.eq_nil_of_length_eq_zero h2;subst this; rfl
  | some ad => exact RC.unds cs _ _ (h4 ad rfl).2.2
 | .fn _ p q, v, h => by
  unfold R at h; obtain ⟨a, b, _, h1, h2⟩ := h;simp only [AV.und, Bool.and_eq_true]; exact ⟨RL.unds p _ h1, RL.unds q _ h2⟩
 | .ifc _ x, v, h => by unfold R at h; obtain ⟨y, _, h⟩ := h; exact R.und x y h
 | .agg cs, v, h => by unfold R at h; obtain ⟨a, _, h, _⟩ := h; exact RL.unds cs _ h
 | .tup vs, v, h => by unfold R at h; obtain ⟨a, _, h⟩ := h; exact RL.unds vs _ h
theorem RC.unds : ∀ (cs : List AV) (c o : Nat), RC C N w c cs o -> AV.unds N cs = true
 | [], _, _, _ => rfl
 | x :: r, c, o, h => by
  unfold RC at h;obtain ⟨⟨v, _, _, h1⟩, h2⟩ := h;simp only [AV.unds, Bool.and_eq_true]; exact ⟨R.und x v h1, RC.unds r c (o + 1) h2⟩
theorem RL.unds : ∀ (l : List AV) (vs : List Value), RL C N w l vs -> AV.unds N l = true
 | [], [], _ => rfl
 | x :: r, v :: s, h => by
  unfold RL at h;simp only [AV.unds, Bool.and_eq_true]; exact ⟨R.und x v h.1, RL.unds r s h.2⟩
 | [], _ :: _, h => by unfold RL at h; exact h.elim
 | _ :: _, [], h => by unfold RL at h; exact h.elim
end
theorem Agm.own {C' : Ctx} (k : Agm C' C) {c : Nat} (h : C'.own c) : C.own c := by
 rcases h with h | ⟨a, o, h⟩
 ·exact .inl (by rw [← k.res]; exact h)
 ·exact .inr ⟨a, o, k.loc a _ h⟩
variable {C' : Ctx}
mutual
theorem R.cut (k : Agm C' C) : ∀ (x : AV) (v : Value), AV.und M x = true -> R C N w x v -> R C' M w x v
 | .any, _, _, _ => by unfold R; trivial
 | .bool _, _, _, h => by unfold R at *; exact h
 | .int _ _, _, _, h => by unfold R at *; exact h
 | .str _, _, _, h => by unfold R at *; exact h
 | .nil _, _, _, h => by unfold R at *; exact h
 | .flt _ _, _, _, h => by unfold R at *; exact h
 | .pr a _, v, b, h => by
  unfold R at *; obtain ⟨ad, h1, h2, h3⟩ := h;exact ⟨ad, h1, F4 b, fun c o hc => h3 c o (k.loc _ _ hc)⟩
 | .sr a _ _ _ _, v, b, h => by
  unfold R at *; obtain ⟨ad, kk, h1, h2, h3, h4, h5⟩ := h;exact ⟨ad, kk, h1, F4 b, h3, h4, fun c o hc => h5 c o (k.loc _ _ hc)⟩
 | .mp a, v, b, h => by
  unfold R at *; obtain ⟨c, h1, h2, h3⟩ := h;exact ⟨c, h1, F4 b, fun c' o hc => h3 c' o (k.loc _ _ hc)⟩
 | .it a, v, b, h => by
  unfold R at *; obtain ⟨c, h1, h2, h3⟩ := h;exact ⟨c, h1, F4 b, fun c' o hc => h3 c' o (k.loc _ _ hc)⟩
 | .stp a, v, b, h => by unfold R at *; rw [k.stm]; exact ⟨h.1, F4 b⟩
 | .yl a, v, b, h => by unfold R at *; rw [k.stm]; exact ⟨h.1, F4 b⟩
 | .pv cs, v, b, h => by
  unfold R at *; obtain ⟨c, o, h1, h2, h3⟩ := h;exact ⟨c, o, h1, fun hne ho => h2 hne (k.own ho), RC.cut k cs c o b h3⟩
 | .sv cs sz len cap, v, b, h => by
  unfold R at *;obtain ⟨ado, kk, h1, h2, h3, h4, h0, hh⟩ := h;refine ⟨ado, kk, h1, h2, h3, h4, h0, fun ad ha => ?_⟩
  obtain ⟨h5, h6, h7⟩ := hh ad ha;exact ⟨h5, fun hne ho => h6 hne (k.own ho), RC.cut k cs _ _ b h7⟩
 | .fn _ p q, v, b, h => by
  simp only [AV.und, Bool.and_eq_true] at b;unfold R at *; obtain ⟨a, c, h1, h2, h3⟩ := h;exact ⟨a, c, h1, RL.cut k p _ b.1 h2, RL.cut k q _ b.2 h3⟩
 | .ifc _ x, v, b, h => by unfold R at *; obtain ⟨y, h1, h2⟩ := h; exact ⟨y, h1, R.cut k x y b h2⟩
 | .agg cs, v, b, h => by unfold R at *; obtain ⟨a, h1, h2, h3⟩ := h; exact ⟨a, h1, RL.cut k cs _ b h2, h3⟩
 | .tup vs, v, b, h => by unfold R at *; obtain ⟨a, h1, h2⟩ := h; exact ⟨a, h1, RL.cut k vs _ b h2⟩
theorem RC.cut (k : Agm C' C) : ∀ (cs : List AV) (c o : Nat), AV.unds M cs = true -> RC C N w c cs o -> RC C' M w c cs o
 | [], _, _, _, _ => by unfold RC; trivial
 | x :: r, c, o, b, h => by
  simp only [AV.unds, Bool.and_eq_true] at b;unfold RC at *;obtain ⟨⟨v, h1, h2, h3⟩, h4⟩ := h;exact ⟨⟨v, h1, h2, R.cut k x v b.1 h3⟩, RC.cut k r c (o + 1) b.2 h4⟩
theorem RL.cut (k : Agm C' C) : ∀ (l : List AV) (vs : List Value), AV.unds M l = true -> RL C N w l vs -> RL C' M w l vs
 | [], [], _, _ => by unfold RL; trivial
 | x :: r, v :: s, b, h => by
  simp only [AV.unds, Bool.and_eq_true] at b;unfold RL at *;exact ⟨R.cut k x v b.1 h.1, RL.cut k r s b.2 h.2⟩
 | [], _ :: _, _, h => by unfold RL at h; exact h.elim
 | _ :: _, [], _, h => by unfold RL at h; exact h.elim
end
def Ia (N : Nat) (es : List (Key × AV)) : Bool := es.all fun x => AV.und N x.2
theorem ER.und : ∀ {es : List (Key × AV)} {L : List MapEntry}, ER C N w es L -> Ia N es = true
 | [], [], _ => rfl
 | x :: r, f :: s, h => by
  unfold ER at h;simp only [Ia, List.all_cons, Bool.and_eq_true];exact ⟨R.und _ _ h.1.2, ER.und h.2⟩
 | [], _ :: _, h => by unfold ER at h; exact h.elim
 | _ :: _, [], h => by unfold ER at h; exact h.elim
theorem ER.cut (k : Agm C' C) : ∀ {es : List (Key × AV)} {L : List MapEntry}, Ia M es = true -> ER C N w es L -> ER C' M w es L
 | [], [], _, _ => by unfold ER; trivial
 | x :: r, f :: s, b, h => by
  simp only [Ia, List.all_cons, Bool.and_eq_true] at b;unfold ER at *;exact ⟨⟨h.1.1, R.cut k _ _ b.1 h.1.2⟩, ER.cut k b.2 h.2⟩
 | [], _ :: _, _, h => by unfold ER at h; exact h.elim
 | _ :: _, [], _, h => by unfold ER at h; exact h.elim
end
mutual
inductive Fz (σ τ : Sto) : AV -> AV -> Prop
 | same {v : AV} : AV.und (nx τ) v = true -> Fz σ τ v v
 | any {v : AV} : Fz σ τ v .any
 | pr {a off : Nat} {vs l : List AV} : σ.get a = some (.cells vs) -> τ.get a = none -> FzL σ τ (vs.drop off) l -> Fz σ τ (.pr a off) (.pv l)
 | sr {a off sz len : Nat} {cap : Option Nat} {vs cs l : List AV} : σ.get a = some (.cells vs) -> τ.get a = none -> D1 (len * sz) (vs.drop off) = some cs -> FzL σ τ cs l -> Fz σ τ (.sr a off sz len cap) (.sv l sz len none)
 | nils {sz : Nat} {cap : Option Nat} : (∀ q, cap = some q -> q = 0) -> Fz σ τ (.nil (.slice none 0 0)) (.sv [] sz 0 cap)
 | agg {a b : List AV} : FzL σ τ a b -> Fz σ τ (.agg a) (.agg b)
 | tup {a b : List AV} : FzL σ τ a b -> Fz σ τ (.tup a) (.tup b)
 | sv {a b : List AV} {sz len : Nat} {cap cap' : Option Nat} : (∀ q, cap' = some q -> cap = some q) -> FzL σ τ a b -> Fz σ τ (.sv a sz len cap) (.sv b sz len cap')
inductive FzL (σ τ : Sto) : List AV -> List AV -> Prop
 | nil : FzL σ τ [] []
 | cons {x y : AV} {r s : List AV} : Fz σ τ x y -> FzL σ τ r s -> FzL σ τ (x :: r) (y :: s)
end
theorem FzL.length {σ τ : Sto} : ∀ {a b : List AV}, FzL σ τ a b -> a.length = b.length
 | _, _, .nil => rfl
 | _, _, .cons _ h => by simp [FzL.length h]
theorem FzL.same {σ τ : Sto} : ∀ {a : List AV}, AV.unds (nx τ) a = true -> FzL σ τ a a
 | [], _ => .nil
 | x :: r, h => by simp only [AV.unds, Bool.and_eq_true] at h; exact .cons (.same h.1) (FzL.same h.2)
section
variable {P : Program} {C : Ctx} {w : World} {σ τ : Sto}
theorem Ctx.keep_sub (C : Ctx) (τ : Sto) : Agm (C.keep τ) C := by
 refine ⟨fun a p h => ?_, rfl, rfl, rfl⟩
 simp only [Ctx.keep] at h
 split at h
 ·exact h
 ·cases h
theorem Sim.freed (h : Sim P C w σ) {a c o : Nat} (hl : C.loc a = some (c, o)) (ht : τ.get a = none) : ¬ (C.keep τ).own c := by
 rintro (hr | ⟨b, o', hb⟩)
 ·exact h.rdis a c o hl hr
 ·simp only [Ctx.keep] at hb
  split at hb
  ·rename_i hs
   have := h.inj a b c o o' hl hb;subst this;rw [ht] at hs; cases hs
  ·cases hb
mutual
theorem Fz.R (h : Sim P C w σ) : ∀ {v v' : AV} {x : Value}, Fz σ τ v v' -> R C (nx σ) w v x -> R (C.keep τ) (nx τ) w v' x
 | v, _, x, .same hu, hr => R.cut (C.keep_sub τ) v x hu hr
 | v, _, x, .any, hr => by unfold AM.R; trivial
 | .pr a off, _, x, .pr (vs := vs) (l := l) hg ht hl, hr => by
  obtain ⟨c, o, cs, T, k1, k2, k3⟩ := h.obj a _ hg;unfold AM.R at hr ⊢;obtain ⟨ad, rfl, _, h3⟩ := hr;have := h3 c o k1;subst this;exact ⟨c, o + off, rfl, fun _ => h.freed k1 ht, FzL.RC h hl (k3.drop off)⟩
 | .sr a off sz len cap, _, x, .sr (vs := vs) (cs := cs) (l := l) hg ht hk hl, hr => by
  obtain ⟨c, o, cs₀, T, k1, k2, k3⟩ := h.obj a _ hg;unfold AM.R at hr ⊢;obtain ⟨ad, k, rfl, _, h4, h5, h6⟩ := hr;obtain ⟨q1, q2⟩ := h6 c o k1;obtain ⟨t1, t2⟩ := Gm hk
  have hlen : l.length = len * sz := by rw [← hl.length]; exact t2
  refine ⟨some ad, k, rfl, h4, fun q hq => (by cases hq), hlen, fun hh => (by cases hh), fun ad' ha => ?_⟩
  cases ha
  have hpos : l ≠ [] -> 0 < k := fun hne => by
   rcases Nat.eq_zero_or_pos len with h0 | h0
   ·rw [h0, Nat.zero_mul] at hlen; exact absurd (List.eq_nil_of_length_eq_zero hlen) hne
   ·omega
  refine ⟨fun hk => by rw [q1 hk], fun hne => by rw [q1 (hpos hne)]; exact h.freed k1 ht, ?_⟩
  by_cases hne : l = []
  ·subst hne; unfold AM.RC; trivial
  ·rw [q1 (hpos hne)];exact FzL.RC h hl ((k3.drop off).take _ hk)
 | _, _, x, .nils (sz := sz) hc, hr => by
  unfold AM.R at hr ⊢;obtain ⟨rfl, _⟩ := hr
  exact ⟨none, 0, rfl, nl, fun q hq => (hc q hq).symm, by simp, fun _ => rfl, fun ad ha => by cases ha⟩
 | _, _, x, .agg hl, hr => by
  unfold AM.R at hr ⊢;obtain ⟨a, h1, h2, h3⟩ := hr;exact ⟨a, h1, FzL.RL h hl h2, h3⟩
 | _, _, x, .tup hl, hr => by
  unfold AM.R at hr ⊢;obtain ⟨a, h1, h2⟩ := hr;exact ⟨a, h1, FzL.RL h hl h2⟩
 | _, _, x, .sv (a := a) (b := b) hc hl, hr => by
  unfold AM.R at hr ⊢;obtain ⟨ado, k, h1, h2, h3, h4, h5, h6⟩ := hr
  refine ⟨ado, k, h1, h2, fun q hq => h3 q (hc q hq), by rw [← hl.length]; exact h4, h5, fun ad ha => ?_⟩
  obtain ⟨q1, q2, q3⟩ := h6 ad ha;refine ⟨q1, fun hne ho => q2 (fun h0 => ?_) ((C.keep_sub τ).own ho), FzL.RC h hl q3⟩
  have := hl.length;rw [h0] at this;exact hne (List.eq_nil_of_length_eq_zero this.symm)
theorem FzL.RL (h : Sim P C w σ) : ∀ {l l' : List AV} {xs : List Value}, FzL σ τ l l' -> RL C (nx σ) w l xs -> RL (C.keep τ) (nx τ) w l' xs
 | _, _, [], .nil, hr => by unfold AM.RL; trivial
 | _, _, _ :: _, .nil, hr => by unfold AM.RL at hr; exact hr.elim
 | _, _, [], .cons _ _, hr => by unfold AM.RL at hr; exact hr.elim
 | _, _, x :: xs, .cons h1 h2, hr => by unfold AM.RL at hr ⊢; exact ⟨Fz.R h h1 hr.1, FzL.RL h h2 hr.2⟩
theorem FzL.RC (h : Sim P C w σ) : ∀ {l l' : List AV} {c o : Nat}, FzL σ τ l l' -> RC C (nx σ) w c l o -> RC (C.keep τ) (nx τ) w c l' o
 | _, _, _, _, .nil, hr => by unfold AM.RC; trivial
 | _, _, c, o, .cons h1 h2, hr => by
  unfold AM.RC at hr ⊢;obtain ⟨⟨v, k1, k2, k3⟩, k4⟩ := hr;exact ⟨⟨v, k1, k2, Fz.R h h1 k3⟩, FzL.RC h h2 k4⟩
end
def Akd (σ τ : Sto) : List (Key × AV) -> List (Key × AV) -> Prop
 | [], [] => True
 | x :: r, y :: s => x.1 = y.1 /\ Fz σ τ x.2 y.2 /\ Akd σ τ r s
 | _, _ => False
theorem Akd.ER (h : Sim P C w σ) : ∀ {l l' : List (Key × AV)} {L : List MapEntry}, Akd σ τ l l' -> ER C (nx σ) w l L -> ER (C.keep τ) (nx τ) w l' L
 | [], [], [], _, _ => by unfold AM.ER; trivial
 | [], [], _ :: _, _, hr => by unfold AM.ER at hr; exact hr.elim
 | _ :: _, _ :: _, [], _, hr => by unfold AM.ER at hr; exact hr.elim
 | x :: r, y :: s, f :: L, hf, hr => by
  obtain ⟨h1, h2, h3⟩ := hf;unfold AM.ER at hr ⊢
  exact ⟨⟨by rw [← h1]; exact hr.1.1, h2.R h hr.1.2⟩, Akd.ER h h3 hr.2⟩
 | [], _ :: _, _, hf, _ => hf.elim
 | _ :: _, [], _, hf, _ => hf.elim
def AO.und (N : Nat) : AO -> Bool
 | .cells vs => AV.unds N vs
 | .map _ es _ => Ia N es
 | .iter m _ _ _ => match m with | none => true | some r => Nat.blt r N
 | .stamp m _ _ => Nat.blt m N
 | .loop _ => true
def Agn (N : Nat) : Option (Key × AV) -> Bool
 | none => true
 | some x => AV.und N x.2
def Ago (τ : Sto) : AO -> Prop
 | .iter (some r) ver left cur => ∀ kt es, τ.get r = some (.map kt es ver) -> Ia (nx τ) left = true /\ Agn (nx τ) cur = true
 | _ => True
inductive FzO (σ τ : Sto) : AO -> AO -> Prop
 | iter {m : Option Nat} {ver : Nat} {left : List (Key × AV)} {cur : Option (Key × AV)} : AO.und (nx τ) (.iter m ver left cur) = true -> Ago τ (.iter m ver left cur) -> FzO σ τ (.iter m ver left cur) (.iter m ver left cur)
 | stamp {m ver : Nat} {k : Key} : AO.und (nx τ) (.stamp m ver k) = true -> FzO σ τ (.stamp m ver k) (.stamp m ver k)
 | cells {a b : List AV} : FzL σ τ a b -> FzO σ τ (.cells a) (.cells b)
 | map {kt ver : Nat} {a b : List (Key × AV)} : Akd σ τ a b -> FzO σ τ (.map kt a ver) (.map kt b ver)
 | loop {st : LS} : FzO σ τ (.loop st) (.loop st)
def Aw (σ τ : Sto) : Prop := nx τ <= nx σ /\ ∀ a O, τ.get a = some O -> a < nx τ /\ ∃ O₀, σ.get a = some O₀ /\ FzO σ τ O₀ O
theorem Sim.frz (h : Sim P C w σ) (hf : Aw σ τ) : Sim P (C.keep τ) w τ := by
 have k := C.keep_sub τ;refine ⟨fun a O ha => ?_, fun a O ha => (hf.2 a O ha).1, fun a p hp => ?_, fun a b c o o' ha hb => h.inj a b c o o' (k.loc _ _ ha) (k.loc _ _ hb),
  fun a c o ha => h.lt a c o (k.loc _ _ ha), h.rlt, fun a c o ha => h.rdis a c o (k.loc _ _ ha)⟩
 ·obtain ⟨h1, O₀, h2, h3⟩ := hf.2 a O ha;have ho := h.obj a O₀ h2
  have hk : (C.keep τ).loc a = C.loc a := by simp [Ctx.keep, ha]
  cases h3 with
  | cells hl =>
   obtain ⟨c, o, cs, T, k1, k2, k3⟩ := ho;exact ⟨c, o, cs, T, hk.trans k1, k2, hl.RC h k3⟩
  | map hl =>
   obtain ⟨c, E, clock, k1, k2, k3⟩ := ho;exact ⟨c, E, clock, hk.trans k1, k2, k3.typed, let ⟨L, q1, q2⟩ := k3.perm; ⟨L, q1, hl.ER h q2⟩, k3.keys, k3.born, k3.apart⟩
  | loop =>
   obtain ⟨c, r, k1, k2, k3⟩ := ho;exact ⟨c, r, hk.trans k1, k2, k3⟩
  | stamp hu =>
   obtain ⟨k0, k1⟩ := ho
   rename_i m ver ky
   refine ⟨F4 hu, fun kt es ver' hg => ?_⟩
   obtain ⟨_, O₁, g1, g2⟩ := hf.2 m _ hg;cases g2 with
   | map hl =>
    obtain ⟨q1, q2⟩ := k1 _ _ _ g1;refine ⟨q1, fun hv => ?_⟩
    obtain ⟨cm, E, clock, p1, p2, p3⟩ := q2 hv
    exact ⟨cm, E, clock, by simp [Ctx.keep, hg, p1], p2, p3⟩
  | iter u1 hu =>
   rename_i m ver left cur
   cases m with
   | none =>
    obtain ⟨c, since, seen, last, k1, k2, k3⟩ := ho;exact ⟨c, since, seen, last, hk.trans k1, k2, k3⟩
   | some m =>
    obtain ⟨k0, c, cm, since, seen, last, k1, k2, k3⟩ := ho;refine ⟨F4 u1, c, cm, since, seen, last, hk.trans k1, k2, fun kt es ver' hg => ?_⟩
    obtain ⟨_, O₁, g1, g2⟩ := hf.2 m _ hg;cases g2 with
    | map hl =>
     obtain ⟨q1, q2⟩ := k3 _ _ _ g1;refine ⟨q1, fun hv => ?_⟩
     subst hv;obtain ⟨u2, u3⟩ := hu _ _ hg;obtain ⟨E, p1, p2, p3, ⟨L, p4, p5⟩, p6⟩ := q2 rfl
     refine ⟨E, by simp [Ctx.keep, hg, p1], p2, p3, ⟨L, p4, ER.cut k u2 p5⟩, fun ky x hx => ?_⟩
     obtain ⟨f, f1, f2, f3, f4⟩ := p6 ky x hx;subst hx;exact ⟨f, f1, f2, f3, R.cut k _ _ u3 f4⟩
 ·have hs : (τ.get a).isSome = true := by
   simp only [Ctx.keep] at hp
   split at hp
   ·assumption
   ·cases hp
  obtain ⟨O, hO⟩ := Option.isSome_iff_exists.1 hs;obtain ⟨_, O₀, h2, h3⟩ := hf.2 a O hO;obtain ⟨O₁, h4, h5⟩ := h.dom a p (k.loc a p hp);rw [h2] at h4; cases h4;refine ⟨O, hO, ?_⟩
  cases h3 <;> first | rfl | exact h5
def WFS (σ : Sto) : Prop := ∀ a O, σ.get a = some O -> a < nx σ /\ AO.und (nx σ) O = true /\ Ago σ O
theorem Sim.wfs (h : Sim P C w σ) : WFS σ := by
 intro a O hg;refine ⟨h.bound a O hg, ?_⟩;have ho := h.obj a O hg;cases O with
 | cells vs => obtain ⟨c, o, cs, T, _, _, k⟩ := ho; exact ⟨RC.unds _ _ _ k, trivial⟩
 | map kt es ver => obtain ⟨c, E, clock, _, _, k⟩ := ho; obtain ⟨L, _, q⟩ := k.perm; exact ⟨ER.und q, trivial⟩
 | stamp m ver k => exact ⟨D8 ho.1, trivial⟩
 | loop st => exact ⟨rfl, trivial⟩
 | iter m ver left cur =>
  cases m with
  | none => exact ⟨rfl, trivial⟩
  | some r =>
   obtain ⟨k0, c, cm, since, seen, last, k1, k2, k3⟩ := ho;refine ⟨D8 k0, fun kt es hr => ?_⟩
   obtain ⟨_, q2⟩ := k3 _ _ _ hr;obtain ⟨E, p1, p2, p3, ⟨L, p4, p5⟩, p6⟩ := q2 rfl;refine ⟨ER.und p5, ?_⟩;cases cur with
   | none => rfl
   | some x => obtain ⟨f, f1, f2, f3, f4⟩ := p6 x.1 x.2 rfl; exact R.und _ _ f4
theorem X1 (h : ∀ {v : AV}, AV.und (nx τ) v = true -> Fz σ τ v v) : ∀ {es : List (Key × AV)}, Ia (nx τ) es = true -> Akd σ τ es es
 | [], _ => trivial
 | x :: r, k => by
  simp only [Ia, List.all_cons, Bool.and_eq_true] at k;exact ⟨rfl, h k.1, X1 h k.2⟩
theorem Aw.of_same (h : WFS τ) (hn : nx τ <= nx σ) (hg : ∀ a, a < nx τ -> σ.get a = τ.get a) : Aw σ τ := by
 refine ⟨hn, fun a O ha => ?_⟩
 obtain ⟨h1, h2, h3⟩ := h a O ha;refine ⟨h1, O, (hg a h1).trans ha, ?_⟩;cases O with
 | cells vs => exact .cells (FzL.same h2)
 | map kt es ver => exact .map (X1 .same h2)
 | iter m ver left cur => exact .iter h2 h3
 | stamp m ver k => exact .stamp h2
 | loop st => exact .loop
theorem Ext.base {C' : Ctx} {N N' B : Nat} {w' : World} (h : Ext C N w C' N' w') (hB : B <= N) : Ext C B w C' B w' :=
 ⟨nl, h.size, h.keep, fun a ha => h.loc a (by omega), fun a ha => h.stm a (by omega), fun a ha => h.lr a (by omega), fun a ha => h.bsz a (by omega), h.res, h.os⟩
theorem Ext.top {C' : Ctx} {B N' : Nat} {w' : World} (h : Ext C B w C' B w') (hB : B <= N') : Ext C B w C' N' w' :=
 ⟨hB, h.size, h.keep, h.loc, h.stm, h.lr, h.bsz, h.res, h.os⟩
theorem Ext.keepB (C : Ctx) (τ : Sto) (B : Nat) (w : World) : Ext C B w (C.keep τ) B w :=
 ⟨nl, nl, fun b _ ho => ⟨fun hh => ho ((C.keep_sub τ).own hh), rfl⟩, fun a _ p hp => (C.keep_sub τ).loc a p hp, fun _ _ => rfl, fun _ _ => rfl, fun _ _ _ _ _ => rfl, ⟨rfl, fun _ _ => rfl⟩, rfl, rfl⟩
end
end Go.AM
namespace Go.AM
open Go
def Td (l : Al) : Tr AV := l.foldr (fun p t => t.put (p.1 + 1) p.1 (some p.2)) .e
def Lk : Al -> Al -> Prop
 | [], _ => True
 | (i, v) :: r, ρ => Al.at ρ i = some v /\ Lk r ρ
theorem Lk.at : ∀ {ρ' ρ : Al}, Lk ρ' ρ -> ∀ i v, Al.at ρ' i = some v -> Al.at ρ i = some v
 | [], ρ, _, i, v, h => by simp [Al.at] at h
 | (j, u) :: r, ρ, h, i, v, hv => by
  obtain ⟨h1, h2⟩ := h;simp only [Al.at] at hv;cases hb : Nat.beq j i with
  | true => rw [hb] at hv; cases hv; have := Nat.eq_of_beq_eq_true hb; subst this; exact h1
  | false => rw [hb] at hv; exact Lk.at h2 i v hv
theorem Has.subL {tm : Tr AV} {ρ ρ' : Al} (h : Has tm ρ) (k : Lk ρ' ρ) : Has tm ρ' := fun i v hv => h i v (k.at i v hv)
def Ah (E : Env) (f : Nat) (args : List AV) (σ : Sto) (Post : AV -> Sto -> Prop) : Prop :=
 ∀ (C : Ctx) (w : World) (vs : Array Value), Sim E.P C w σ -> Fv C (nx σ) w E -> RL C (nx σ) w args vs.toList ->
  Ub E.P f /\ Calls E.P f vs w fun
   | .returned x, w' => ∃ v σ' C', Post v σ' /\ Sim E.P C' w' σ' /\ Ext C (nx σ) w C' (nx σ') w' /\ R C' (nx σ') w' v x
   | _, _ => False
theorem Ah.mono {E : Env} {f : Nat} {args : List AV} {σ : Sto} {Post Post' : AV -> Sto -> Prop} (h : Ah E f args σ Post) (k : ∀ v σ', Post v σ' -> Post' v σ') : Ah E f args σ Post' := by
 intro C w vs hs hg ha;obtain ⟨h1, h2⟩ := h C w vs hs hg ha;refine ⟨h1, h2.mono fun e w' he => ?_⟩
 cases e with
 | returned x => obtain ⟨v, σ', C', k1, k2⟩ := he; exact ⟨v, σ', C', k _ _ k1, k2⟩
 | panicked _ => exact he.elim
 | outgrown => exact he.elim
theorem Em.callTo {E : Env} {f : Nat} {g : List AV -> Sto -> Res} (h : Em E f g) {args : List AV} {σ σ' : Sto} {v : AV} (hg : g args σ = some (v, σ')) : Ah E f args σ (fun u τ => u = v /\ τ = σ') := by
 intro C w vs hs hgl ha;obtain ⟨h1, h2⟩ := h C w σ args vs v σ' hs hgl ha hg;refine ⟨h1, h2.mono fun e w' he => ?_⟩
 cases e with
 | returned x => obtain ⟨C', k1, k2, k3⟩ := he; exact ⟨v, σ', C', ⟨rfl, rfl⟩, k1, k2, k3⟩
 | panicked _ => exact he.elim
 | outgrown => exact he.elim
open Classical in
noncomputable def Gf : List (Nat × List AV × Sto × AV × Sto) -> Rec
 | [], _, _, _ => none
 | (f, a, s, v, s') :: r, f', a', σ => if f' = f /\ a' = a /\ σ = s then some (v, s') else Gf r f' a' σ
def Apw (E : Env) : List (Nat × List AV × Sto × AV × Sto) -> Prop
 | [] => True
 | (f, a, s, v, s') :: r => Ah E f a s (fun u τ => u = v /\ τ = s') /\ Apw E r
theorem Ar {E : Env} : ∀ {l : List (Nat × List AV × Sto × AV × Sto)}, Apw E l -> Bc E (Gf l)
 | [], _ => fun f C w σ args vs v σ' hs hg ha h => by cases h
 | (f, a, s, v, s') :: r, hk => fun f' C w σ args vs u σ' hs hg ha h => by
  simp only [Gf] at h
  split at h
  ·rename_i he
   obtain ⟨rfl, rfl, rfl⟩ := he;cases h;obtain ⟨h1, h2⟩ := hk.1 C w vs hs hg ha;refine ⟨h1, h2.mono fun e w' he => ?_⟩
   cases e with
   | returned x => obtain ⟨v, σ', C', ⟨rfl, rfl⟩, k1, k2, k3⟩ := he; exact ⟨C', k1, k2, k3⟩
   | panicked _ => exact he.elim
   | outgrown => exact he.elim
  ·exact Ar hk.2 f' C w σ args vs u σ' hs hg ha h
abbrev Dh := XE -> Al -> Sto -> Prop
def N6 (E : Env) (nt : Nat) (df : List (Nat × List AV)) (B : Nat) (Q : Dh) (C : Ctx) (w : World) : Exit -> Act -> World -> Prop := fun e a' w' =>
 ∃ x tm' ρ' σ' C', Gh x = e /\ Has tm' ρ' /\ Q x ρ' σ' /\ SSt E C' w' ⟨tm', nt, df, σ'⟩ a' /\ B <= nx σ' /\ Ext C B w C' B w'
def T (E : Env) (nt : Nat) (df : List (Nat × List AV)) (B : Nat) (c : Code) (Q : Dh) (ρ : Al) (σ : Sto) : Prop :=
 ∀ (C : Ctx) (w : World) (tm : Tr AV) (a : Act), Has tm ρ -> SSt E C w ⟨tm, nt, df, σ⟩ a -> B <= nx σ -> c.wp E.P (N6 E nt df B Q C w) a w
def TO (E : Env) (nt : Nat) (df : List (Nat × List AV)) (B : Nat) (ops r : List Oper) (K : Al -> Sto -> Prop) (ρ : Al) (σ : Sto) : Prop :=
 ∀ (C : Ctx) (w : World) (tm : Tr AV) (a : Act), Has tm ρ -> SSt E C w ⟨tm, nt, df, σ⟩ a -> B <= nx σ -> ∀ (arr : Array Oper) (i : Nat) (QQ : Exit -> Act -> World -> Prop) (rest : List Nat), arr.toList = ops -> (∀ j, j < r.length -> r[j]? = arr[i + j]?) ->
  (∀ C' w' a' tm' ρ' σ', Has tm' ρ' -> K ρ' σ' -> SSt E C' w' ⟨tm', nt, df, σ'⟩ a' -> B <= nx σ' -> Ext C B w C' B w' -> wpOps E.P arr QQ rest a' w') -> wpOps E.P arr QQ (List.range' i r.length ++ rest) a w
section
variable {E : Env} {nt B : Nat} {df : List (Nat × List AV)} {Q Q' : Dh} {ρ ρ' : Al} {σ σ' : Sto} {K : Al -> Sto -> Prop}
theorem N6.mono {C : Ctx} {w : World} {e : Exit} {a : Act} {w' : World} (h : N6 E nt df B Q C w e a w') (hQ : ∀ x ρ σ, Q x ρ σ -> Q' x ρ σ) : N6 E nt df B Q' C w e a w' := by
 obtain ⟨x, tm', ρ', σ', C', h1, h2, h3, h4⟩ := h;exact ⟨x, tm', ρ', σ', C', h1, h2, hQ _ _ _ h3, h4⟩
theorem N6.from {C C₀ : Ctx} {w w₀ : World} {e : Exit} {a : Act} {w' : World} (h : N6 E nt df B Q C w e a w') (hx : Ext C₀ B w₀ C B w) : N6 E nt df B Q C₀ w₀ e a w' := by
 obtain ⟨x, tm', ρ', σ', C', h1, h2, h3, h4, hB, h5⟩ := h;exact ⟨x, tm', ρ', σ', C', h1, h2, h3, h4, hB, hx.trans h5⟩
theorem T.mono {c : Code} (h : T E nt df B c Q ρ σ) (hQ : ∀ x ρ σ, Q x ρ σ -> Q' x ρ σ) : T E nt df B c Q' ρ σ :=
 fun C w tm a ht st hB => wp_mono (h C w tm a ht st hB) fun e a' w' he => he.mono hQ
theorem T.sub {c : Code} (h : T E nt df B c Q ρ' σ) (hs : Lk ρ' ρ) : T E nt df B c Q ρ σ :=
 fun C w tm a ht st => h C w tm a (ht.subL hs) st
theorem Aj (h : Q .normal ρ σ) : T E nt df B .skip Q ρ σ := fun C w tm a ht st hB => wp_skip ⟨.normal, tm, ρ, σ, C, rfl, ht, h, st, hB, Ext.refl _ _ _⟩
theorem Aox {n : Nat} (h : Q .normal ρ σ) : T E nt df B (.label n) Q ρ σ := fun C w tm a ht st hB => wp_label ⟨.normal, tm, ρ, σ, C, rfl, ht, h, st, hB, Ext.refl _ _ _⟩
theorem Bf {n : Nat} (h : Q (.exit n) ρ σ) : T E nt df B (.exit n) Q ρ σ := fun C w tm a ht st hB => wp_exit ⟨.exit n, tm, ρ, σ, C, rfl, ht, h, st, hB, Ext.refl _ _ _⟩
theorem Ak (h : Q .ret ρ σ) : T E nt df B .ret Q ρ σ := fun C w tm a ht st hB => wp_ret ⟨.ret, tm, ρ, σ, C, rfl, ht, h, st, hB, Ext.refl _ _ _⟩
def Ng (k : Al -> Sto -> Prop) (Q : Dh) : Dh
 | .normal => k
 | x => Q x
theorem Ad {x y : Code} (h : T E nt df B x (Ng (T E nt df B y Q) Q) ρ σ) : T E nt df B (.seq x y) Q ρ σ := by
 intro C w tm a ht st hB;refine wp_seq (wp_mono (h C w tm a ht st hB) fun e a' w' he => ?_)
 obtain ⟨x', tm', ρ', σ', C', h1, h2, h3, h4, hB', h5⟩ := he;subst h1;cases x' with
 | normal => exact wp_mono (h3 C' w' tm' a' h2 h4 hB') fun e a'' w'' he => he.from h5
 | exit id => exact ⟨.exit id, tm', ρ', σ', C', rfl, h2, h3, h4, hB', h5⟩
 | ret => exact ⟨.ret, tm', ρ', σ', C', rfl, h2, h3, h4, hB', h5⟩
theorem Ai {c : Operand} {x y : Code} {b : Bool} (hc : A0 E ρ c = some (.bool b)) (h1 : b = true -> T E nt df B x Q ρ σ) (h2 : b = false -> T E nt df B y Q ρ σ) : T E nt df B (.cond c x y) Q ρ σ := by
 intro C w tm a ht st hB;have hv := B4 st.glob st.tmps c;rw [ht.opd hc] at hv;unfold R at hv;cases b with
 | true => exact wp_cond_true hv (h1 rfl C w tm a ht st hB)
 | false => exact wp_cond_false hv (h2 rfl C w tm a ht st hB)
def Ud (id : Nat) (Q : Dh) : Dh
 | .exit j => cond (Nat.beq j id) (Q .normal) (Q (.exit j))
 | x => Q x
theorem Am {id : Nat} {c : Code} (h : T E nt df B c (Ud id Q) ρ σ) : T E nt df B (.block id c) Q ρ σ := by
 intro C w tm a ht st hB;refine wp_block (wp_mono (h C w tm a ht st hB) fun e a' w' he => ?_)
 obtain ⟨x', tm', ρ', σ', C', h1, h2, h3, h4, hB', h5⟩ := he;subst h1;cases x' with
 | normal => exact ⟨.normal, tm', ρ', σ', C', rfl, h2, h3, h4, hB', h5⟩
 | ret => exact ⟨.ret, tm', ρ', σ', C', rfl, h2, h3, h4, hB', h5⟩
 | exit j =>
  simp only [Ud] at h3
  by_cases hj : j = id
  ·subst hj;rw [Nat.beq_refl] at h3;simp only [Gh, Exit.inBlock, if_true];exact ⟨.normal, tm', ρ', σ', C', rfl, h2, h3, h4, hB', h5⟩
  ·have hb : Nat.beq j id = false := by cases hb : Nat.beq j id with | true => exact absurd (Nat.eq_of_beq_eq_true hb) hj | false => rfl
   rw [hb] at h3;simp only [Gh, Exit.inBlock, if_neg hj];exact ⟨.exit j, tm', ρ', σ', C', rfl, h2, h3, h4, hB', h5⟩
theorem Aoy {c : Code} (h : T E nt df B c Q ρ σ) : T E nt df B (.scope c) Q ρ σ := by
 intro C w tm a ht st hB;refine wp_scope_straight (wp_mono (h C w tm a ht st hB) fun e a' w' he => ?_)
 obtain ⟨x', tm', ρ', σ', C', h1, h2, h3, h4, hB', h5⟩ := he;subst h1;cases x' <;> exact ⟨_, tm', ρ', σ', C', rfl, h2, h3, h4, hB', h5⟩
theorem Aqu {c : Code} (I : Nat -> Al -> Sto -> Prop) (n : Nat) (h0 : ∃ ρ', Lk ρ' ρ /\ I n ρ' σ)
  (hs : ∀ n ρ σ, I n ρ σ -> T E nt df B c (Ng (fun ρ' σ' => ∃ m ρ'', m < n /\ Lk ρ'' ρ' /\ I m ρ'' σ') Q) ρ σ) : T E nt df B (.loop c) Q ρ σ := by
 have key : ∀ (n : Nat) (ρ : Al) (σ : Sto), I n ρ σ -> ∀ (C : Ctx) (w : World) (tm : Tr AV) (a : Act), Has tm ρ -> SSt E C w ⟨tm, nt, df, σ⟩ a -> B <= nx σ -> ∀ (b : Frame) (k : List Item) (cs : List Frame),
   ∃ e a' w', N6 E nt df B Q C w e a' w' /\ Arrives E.P (lone (b.at a (.code c :: .inLoop c :: k)) cs w) b k cs e a' w' := by
  intro n
  induction n using Nat.strongRecOn with
  | _ n ih =>
   intro ρ σ hI C w tm a ht st hB b k cs;obtain ⟨e, a₁, w₁, hq, harr⟩ := hs n ρ σ hI C w tm a ht st hB b (.inLoop c :: k) cs;obtain ⟨x', tm', ρ', σ', C', h1, h2, h3, h4, hB', h5⟩ := hq;subst h1;cases x' with
   | normal =>
    obtain ⟨m, ρ'', hm, hsub, hI'⟩ := h3;obtain ⟨e₂, a₂, w₂, hq₂, harr₂⟩ := ih m hm ρ'' σ' hI' C' w₁ tm' a₁ (h2.subL hsub) h4 hB' b k cs;exact ⟨e₂, a₂, w₂, hq₂.from h5, .of_steps (Steps.trans harr (.one step_inLoop)) harr₂⟩
   | exit id => exact ⟨.exit id, a₁, w₁, ⟨_, tm', ρ', σ', C', rfl, h2, h3, h4, hB', h5⟩, .pass (x := .inLoop c) rfl (fun _ _ => .inl (by simp)) harr⟩
   | ret => exact ⟨.ret, a₁, w₁, ⟨_, tm', ρ', σ', C', rfl, h2, h3, h4, hB', h5⟩, .pass (x := .inLoop c) rfl (fun _ _ => .inl (by simp)) harr⟩
 intro C w tm a ht st hB b k cs;obtain ⟨ρ', hsub, hI⟩ := h0;obtain ⟨e, a', w', hq, harr⟩ := key n ρ' σ hI C w tm a (ht.subL hsub) st hB b k cs;exact ⟨e, a', w', hq, .of_steps (.one step_loop) harr⟩
theorem E9 {α : Type} {c : Code} (ρI : α -> Al) (P : α -> Sto -> Prop) (μ : α -> Nat) (a₀ : α) (h0 : Lk (ρI a₀) ρ) (h1 : P a₀ σ)
  (hs : ∀ a σ, P a σ -> T E nt df B c (Ng (fun ρ' σ' => ∃ a', μ a' < μ a /\ Lk (ρI a') ρ' /\ P a' σ') Q) (ρI a) σ) : T E nt df B (.loop c) Q ρ σ := by
 refine Aqu (fun n ρ σ => ∃ a, n = μ a /\ ρ = ρI a /\ P a σ) (μ a₀) ⟨ρI a₀, h0, a₀, rfl, rfl, h1⟩ ?_
 rintro n ρ σ ⟨a, rfl, rfl, hp⟩;refine (hs a σ hp).mono fun x ρ' σ' hq => ?_
 cases x with
 | normal => obtain ⟨a', g1, g2, g3⟩ := hq; exact ⟨μ a', ρI a', g1, g2, a', rfl, rfl, g3⟩
 | exit id => exact hq
 | ret => exact hq
theorem Cg {c : Code} (len : Nat) (ρI : Nat -> Al) (P : Nat -> Sto -> Prop) (h0 : Lk (ρI 0) ρ) (h1 : P 0 σ)
  (hs : ∀ i σ, i <= len -> P i σ -> T E nt df B c (Ng (fun ρ' σ' => i < len /\ Lk (ρI (i + 1)) ρ' /\ P (i + 1) σ') Q) (ρI i) σ) : T E nt df B (.loop c) Q ρ σ := by
 refine E9 ρI (fun i σ => i <= len /\ P i σ) (fun i => len - i) 0 h0 ⟨Nat.zero_le _, h1⟩ ?_
 rintro i σ ⟨hi, hp⟩;refine (hs i σ hi hp).mono fun x ρ' σ' hq => ?_
 cases x with
 | normal => obtain ⟨g1, g2, g3⟩ := hq; exact ⟨i + 1, by omega, g2, by omega, g3⟩
 | exit id => exact hq
 | ret => exact hq
theorem Aa {id : Nat} {ops : Array Oper} (h : TO E nt df B ops.toList ops.toList (fun ρ σ => Q .normal ρ σ) ρ σ) : T E nt df B (.region id ops false) Q ρ σ := by
 intro C w tm a ht st hB;refine wp_region ?_;rw [List.range_eq_range', ← Array.length_toList]
 have := h C w tm a ht st hB ops 0 (N6 E nt df B Q C w) [] rfl (fun j _ => by simp) fun C' w' a' tm' ρ' σ' h1 h2 h3 h4 h5 => ⟨.normal, tm', ρ', σ', C', rfl, h1, h2, h3, h4, h5⟩
 rwa [List.append_nil] at this
theorem Ab {ops : List Oper} (h : K ρ σ) : TO E nt df B ops [] K ρ σ := by
 intro C w tm a ht st hB arr i QQ rest _ _ hQ;simp only [List.length_nil, List.range'_zero, List.nil_append];exact hQ C w a tm ρ σ ht h st hB (Ext.refl _ _ _)
theorem Ake {ops g r : List Oper} (h : TO E nt df B ops g (fun ρ' σ' => TO E nt df B ops r K ρ' σ') ρ σ) : TO E nt df B ops (g ++ r) K ρ σ := by
 intro C w tm a ht st hB arr i QQ rest harr hr hQ;rw [List.length_append, ← List.range'_append_1, List.append_assoc];refine h C w tm a ht st hB arr i QQ _ harr (fun j hj => ?_) fun C' w' a' tm' ρ' σ' h1 h2 h3 h4 h5 => ?_
 ·rw [← hr j (by simp; omega), List.getElem?_append_left hj]
 ·refine h2 C' w' tm' a' h1 h3 h4 arr (i + g.length) QQ rest harr (fun j hj => ?_) fun C2 w2 a2 tm2 ρ2 σ2 q1 q2 q3 qB q4 => hQ C2 w2 a2 tm2 ρ2 σ2 q1 q2 q3 qB (h5.trans q4)
  have := hr (g.length + j) (by simp; omega)
  rw [List.getElem?_append_right (by omega)] at this
  rw [show g.length + j - g.length = j by omega] at this
  rw [this]; congr 1; omega
theorem Alz (n : Nat) {ops r : List Oper} (h : TO E nt df B ops (r.take n) (fun ρ' σ' => TO E nt df B ops (r.drop n) K ρ' σ') ρ σ) : TO E nt df B ops r K ρ σ := by
 have := Ake h
 rwa [List.take_append_drop] at this
theorem TO.mono {ops r : List Oper} {K' : Al -> Sto -> Prop} (h : TO E nt df B ops r K ρ σ) (k : ∀ ρ σ, K ρ σ -> K' ρ σ) : TO E nt df B ops r K' ρ σ :=
 fun C w tm a ht st hB arr i QQ rest h1 h2 hQ => h C w tm a ht st hB arr i QQ rest h1 h2 fun C' w' a' tm' ρ' σ' q1 q2 => hQ C' w' a' tm' ρ' σ' q1 (k _ _ q2)
def F5 : Op -> Bool
 | .defer _ => false
 | _ => true
theorem Q8 {ops r : List Oper} {o : Oper} {Rr : Rec} (hR : Bc E Rr) {ρ₁ : Al} {σ₁ : Sto}
  (h : ∀ tm, Has tm ρ -> ∃ tm', Me E ops o Rr ⟨tm, nt, df, σ⟩ = some ⟨tm', nt, df, σ₁⟩ /\ Has tm' ρ₁) (k : TO E nt df B ops r K ρ₁ σ₁) : TO E nt df B ops (o :: r) K ρ σ := by
 intro C w tm a ht st hB arr i QQ rest harr hr hQ;obtain ⟨tm', h1, h2⟩ := h tm ht
 have ho : arr[i]? = some o := by have := hr 0 (by simp); simpa using this.symm
 simp only [List.length_cons, List.range'_succ, List.cons_append, wpOps, ho]
 have h1' : Me E arr.toList o Rr ⟨tm, nt, df, σ⟩ = some ⟨tm', nt, df, σ₁⟩ := by rw [harr]; exact h1
 have := J7 (K := wpOps E.P arr QQ (List.range' (i + 1) r.length ++ rest)) (Q := QQ) hR st h1' fun C' w' a' st' e' =>
  k C' w' tm' a' h2 st' (Nat.le_trans hB e'.next) arr (i + 1) QQ rest harr (fun j hj => by have := hr (j + 1) (by simpa using hj); simp only [List.getElem?_cons_succ] at this; rw [this]; congr 1; omega)
   fun C2 w2 a2 tm2 ρ2 σ2 q1 q2 q3 qB q4 => hQ C2 w2 a2 tm2 ρ2 σ2 q1 q2 q3 qB ((e'.base hB).trans q4)
 rcases this with ⟨h2, h3⟩ | ⟨h2, h3⟩
 ·rw [if_pos h2]; exact .inl h3
 ·rw [if_neg (by rw [h2]; simp)]; exact h3
def Es : Option Nat -> AV -> Al -> Al
 | none, _, ρ => ρ
 | some d, v, ρ => (d, v) :: ρ
def Df (nt : Nat) : Option Nat -> Bool
 | none => true
 | some d => Nat.blt d nt
theorem Dw {tm : Tr AV} {dst : Option Nat} (hd : Df nt dst = true) (ht : Has tm ρ) (v : AV) : ∃ tm', Jl dst tm nt v = some tm' /\ Has tm' (Es dst v ρ) := by
 cases dst with
 | none => exact ⟨tm, rfl, ht⟩
 | some d =>
  refine ⟨tm.put (d + 1) d (some v), ?_, ht.put d v⟩;have hd : Nat.blt d nt = true := hd;simp only [Jl, hd, cond_true, Ek]
theorem Pb {ops : List Oper} {o : Oper} {Rr : Rec} {s : St} (hg : C8 ops o s.tm = some true) (hn : F5 o.op = true) :
  Me E ops o Rr s = match opA E o.op Rr s.tm s.sto with
   | some (v, σ) => match Jl o.dst s.tm s.nt v with
    | some tm => some ⟨tm, s.nt, s.df, σ⟩
    | none => none
   | none => none := by
 unfold Me;rw [hg];simp only
 split
 ·rename_i c hc; rw [hc] at hn; simp [F5] at hn
 ·rfl
theorem X2 {ops r : List Oper} {op : Op} {dst : Option Nat} {ty : Nat} {pos : String} {after : Array Edge} {Rr : Rec} {v : AV} {σ₁ : Sto} (hR : Bc E Rr) (hn : F5 op = true) (hd : Df nt dst = true) (h : Bu E Rr op ρ σ v σ₁)
  (k : TO E nt df B ops r K (Es dst v ρ) σ₁) : TO E nt df B ops ({ dst := dst, op := op, type := ty, pos := pos, after := after, guard := none } :: r) K ρ σ := by
 refine Q8 hR (fun tm ht => ?_) k
 obtain ⟨tm', h1, h2⟩ := Dw (dst := dst) hd ht v;refine ⟨tm', ?_, h2⟩;rw [Pb (s := ⟨tm, nt, df, σ⟩) rfl hn];simp only [h tm ht, h1]
theorem Cu {ops r : List Oper} {f : Operand} {args : Array Operand} {tys : Array Nat} {dst : Option Nat} {ty : Nat} {pos : String} {after : Array Edge} {k : Nat} {first cap vs full : List AV} {Post : AV -> Sto -> Prop} (hd : Df nt dst = true)
  (hf : A0 E ρ f = some (.fn (.func k) first cap)) (ha : K7 E ρ args.toList = some vs) (hl : first ++ vs ++ cap = full) (hc : Ah E k full σ Post)
  (kk : ∀ v σ', Post v σ' -> TO E nt df B ops r K (Es dst v ρ) σ') : TO E nt df B ops ({ dst := dst, op := .call ⟨.value f, args, tys⟩, type := ty, pos := pos, after := after, guard := none } :: r) K ρ σ := by
 intro C w tm a ht st hB arr i QQ rest harr hr hQ
 have ho : arr[i]? = some { dst := dst, op := .call ⟨.value f, args, tys⟩, type := ty, pos := pos, after := after, guard := none } := by have := hr 0 (by simp); simpa using this.symm
 simp only [List.length_cons, List.range'_succ, List.cons_append, wpOps, ho];have hw : Region.wanted { dst := dst, op := .call ⟨.value f, args, tys⟩, type := ty, pos := pos, after := after, guard := none } (yielded arr a.tmps) = true := rfl;rw [if_pos hw];refine .inl ?_;have hV := B4 st.glob st.tmps f;rw [ht.opd hf] at hV;unfold R at hV;obtain ⟨p, q, hV, hp, hq⟩ := hV;have hargs := D7 st.glob st.tmps args.toList;rw [ht.opds ha] at hargs
 have hall : RL C (nx σ) w full (p ++ args.map a.eval ++ q).toList := by
  subst hl;simp only [Array.toList_append, Array.toList_map];exact (hp.append hargs).append hq
 obtain ⟨⟨fn, g1, g2, g3⟩, hcalls⟩ := hc C w _ st.sim st.glob hall
 have hrun : (execOp a.eval { dst := dst, op := .call ⟨.value f, args, tys⟩, type := ty, pos := pos, after := after, guard := none }).run E.P w = .ok (.enter k (p ++ args.map a.eval ++ q)) w := by
  have g2' : fn.name ≠ "runtime.NumGoroutine" := by simpa using g2
  have g3' : fn.body ≠ none := fun hh => by rw [hh] at g3; cases g3
  simp [execOp, resolve, hV, Deferred.ofValue, invoke, callFunc, g1, g2', g3']
 unfold Oper.wp;rw [hrun, Oper.upon_enter];refine hcalls.mono fun e w' he => ?_
 cases e with
 | returned x =>
  obtain ⟨v, σ', C', k0, k1, k2, k3⟩ := he;obtain ⟨tm', h1, h2⟩ := Dw (dst := dst) hd ht v
  exact kk v σ' k0 C' w' tm' _ h2 (st.put k1 k2 k3 h1) (Nat.le_trans hB k2.next) arr (i + 1) QQ rest harr (fun j hj => by have := hr (j + 1) (by simpa using hj); simp only [List.getElem?_cons_succ] at this; rw [this]; congr 1; omega)
   fun C2 w2 a2 tm2 ρ2 σ2 q1 q2 q3 qB q4 => hQ C2 w2 a2 tm2 ρ2 σ2 q1 q2 q3 qB ((k2.base hB).trans q4)
 | panicked _ => exact he.elim
 | outgrown => exact he.elim
theorem Ga {ops : List Oper} {o oj : Oper} {j d : Nat} {b want : Bool} {tm : Tr AV} (ht : Has tm ρ) (hg : o.guard = some (j, want)) (hj : ops[j]? = some oj) (hd : oj.dst = some d) (hb : Al.at ρ d = some (.bool b)) : C8 ops o tm = some (cond b want (!want)) := by
 simp only [C8, hg, hj, hd, ht d _ hb]
theorem X3 {ops r : List Oper} {o oj : Oper} {Rr : Rec} {v : AV} {σ₁ : Sto} {j d : Nat} {b want : Bool} (hg : o.guard = some (j, want)) (hj : ops[j]? = some oj) (hdj : oj.dst = some d) (hb : Al.at ρ d = some (.bool b)) (hw : cond b want (!want) = true)
  (hR : Bc E Rr) (hn : F5 o.op = true) (hd : Df nt o.dst = true) (h : Bu E Rr o.op ρ σ v σ₁) (k : TO E nt df B ops r K (Es o.dst v ρ) σ₁) : TO E nt df B ops (o :: r) K ρ σ := by
 refine Q8 hR (fun tm ht => ?_) k
 obtain ⟨tm', h1, h2⟩ := Dw (dst := o.dst) hd ht v;refine ⟨tm', ?_, h2⟩
 rw [Pb (s := ⟨tm, nt, df, σ⟩) (by rw [Ga ht hg hj hdj hb, hw]) hn]
 simp only [h tm ht, h1]
theorem Q9 {ops r : List Oper} {o oj : Oper} {j d : Nat} {b want : Bool} (hg : o.guard = some (j, want)) (hj : ops[j]? = some oj) (hdj : oj.dst = some d) (hb : Al.at ρ d = some (.bool b)) (hw : cond b want (!want) = false)
  (hd : Df nt o.dst = true) (k : TO E nt df B ops r K (Es o.dst Bd ρ) σ) : TO E nt df B ops (o :: r) K ρ σ := by
 refine Q8 Bc.none (fun tm ht => ?_) k
 obtain ⟨tm', h1, h2⟩ := Dw (dst := o.dst) hd ht Bd;refine ⟨tm', ?_, h2⟩;unfold Me;rw [Ga ht hg hj hdj hb, hw];simp only [h1]
end
def Gb : List AV -> Nat -> Al
 | [], _ => []
 | v :: r, i => (i, v) :: Gb r (i + 1)
theorem Ka : ∀ (l : List AV) (i j : Nat), Al.at (Gb l i) j = if i <= j /\ j < i + l.length then l[j - i]? else none
 | [], i, j => by simp only [Gb, Al.at]; rw [if_neg (by simp)]
 | x :: r, i, j => by
  simp only [Gb, Al.at, List.length_cons]
  by_cases hj : i = j
  ·subst hj; simp [Nat.beq_refl]
  ·have hb : Nat.beq i j = false := by cases hb : Nat.beq i j with | true => exact absurd (Nat.eq_of_beq_eq_true hb) hj | false => rfl
   rw [hb, cond_false, Ka r (i + 1) j]
   by_cases h1 : i + 1 <= j /\ j < i + 1 + r.length
   ·rw [if_pos h1, if_pos (by omega), show j - i = (j - (i + 1)) + 1 by omega]; rfl
   ·rw [if_neg h1, if_neg (by omega)]
def Te (E : Env) (ρ : Al) (σ : Sto) : List ResultVar -> Option (List AV)
 | [] => some []
 | .tmp t :: r => match Al.at ρ t, Te E ρ σ r with
  | some v, some l => some (v :: l)
  | _, _ => none
 | .cell a t :: r => match Bi E.P t with
  | some ti => match Al.at ρ a with
   | some (.pr b off) => match σ.cells b with
    | some vs => match Lz ti.size ti.isAgg (vs.drop off), Te E ρ σ r with
     | some v, some l => some (v :: l)
     | _, _ => none
    | none => none
   | _ => none
  | none => none
theorem Ra {E : Env} {tm : Tr AV} {ρ : Al} {σ : Sto} (ht : Has tm ρ) : ∀ {rs : List ResultVar} {vs : List AV}, Te E ρ σ rs = some vs -> Sq E.P tm σ rs = some vs
 | [], vs, h => h
 | .tmp t :: r, vs, h => by
  simp only [Te] at h
  split at h
  ·rename_i v l hv hl
   cases h;simp only [Sq, W2, ht t v hv, Ra ht hl]
  ·cases h
 | .cell a t :: r, vs, h => by
  simp only [Te] at h
  split at h
  ·rename_i ti hti
   split at h
   ·rename_i b off hb
    split at h
    ·rename_i cs hcs
     split at h
     ·rename_i v l hv hl
      cases h;simp only [Sq, W2, hti, ht a _ hb, hcs, I0, hv, Ra ht hl]
     ·cases h
    ·cases h
   ·cases h
  ·cases h
def Zw (E : Env) (fn : Func) (N : Nat) (Post : AV -> Sto -> Prop) (ρ : Al) (σ : Sto) : Prop :=
 ∃ vs, Te E ρ σ fn.results.toList = some vs /\ ∃ v' σ', Aw σ σ' /\ N <= nx σ' /\ Fz σ σ' (Np vs) v' /\ Post v' σ'
def Akf (K : Al -> Sto -> Prop) : Dh
 | .normal => K
 | .ret => K
 | .exit _ => fun _ _ => False
theorem callTo {E : Env} {f : Nat} {fn : Func} {c : Code} {args : List AV} {σ : Sto} {Post : AV -> Sto -> Prop} (hfn : E.P.funcs[f]? = some fn) (hnum : (fn.name == "runtime.NumGoroutine") = false) (hc : fn.body = some c) (hle : Nat.ble args.length fn.ntmps = true)
  (h : WFS σ -> AV.unds (nx σ) args = true -> T E fn.ntmps [] (nx σ) c (Akf (Zw E fn (nx σ) Post)) (Gb args 0) σ) : Ah E f args σ Post := by
 intro C w vs hs hg hargs
 refine ⟨⟨fn, hfn, hnum, by rw [hc]; rfl⟩, ?_⟩
 refine calls_of_wp_defers hfn hc ?_;have hle := Nat.le_of_ble_eq_true hle;have st := L3 (E := E) (fn := fn) hs hg hargs hle
 have ht : Has (F8 args 0 .e) (Gb args 0) := fun i v hv => by
  rw [F0];rw [Ka] at hv
  split at hv
  ·rename_i hi; rw [if_pos hi]; exact hv
  ·cases hv
 refine wp_mono (h hs.wfs (RL.unds _ _ hargs) C w _ _ ht st nl) fun e a' w' he => ?_
 obtain ⟨x, tm', ρ', σ₁, C', h1, h2, h3, h4, hB, h5⟩ := he;subst h1;have fin : Zw E fn (nx σ) Post ρ' σ₁ -> Leaves E.P fn a'.tmps (fun
   | .returned x, w' => ∃ v σ' C', Post v σ' /\ Sim E.P C' w' σ' /\ Ext C (nx σ) w C' (nx σ') w' /\ R C' (nx σ') w' v x
   | _, _ => False) a'.defers .returning w' := by
  intro hx;obtain ⟨vs₁, r1, v', σ', r2, r3, r4, r5⟩ := hx
  have hds : a'.defers = [] := by
   have hd := h4.dfs;cases hds : a'.defers with
   | nil => rfl
   | cons d ds => rw [hds] at hd; unfold DR at hd; exact hd.elim
  obtain ⟨x, k1, k2⟩ := Dd (fn := fn) h4.sim h4.tmps (Ra h2 r1);rw [hds];exact ⟨x, k1, v', σ', _, r5, h4.sim.frz r2, (h5.trans (Ext.keepB C' σ' _ w')).top r3, r4.R h4.sim k2⟩
 cases x with
 | normal => exact fin h3
 | ret => exact fin h3
 | exit id => exact h3.elim
class Acm (E : Env) : Prop where
 ok : ∀ g cs, E.gl g = some cs -> AV.unds 0 cs = true
mutual
theorem AV.und_mono {N M : Nat} (h : N <= M) : ∀ (x : AV), AV.und N x = true -> AV.und M x = true
 | .any, _ => rfl
 | .bool _, _ => rfl
 | .int _ _, _ => rfl
 | .str _, _ => rfl
 | .nil _, _ => rfl
 | .flt _ _, _ => rfl
 | .pr a _, k => D8 (Nat.lt_of_lt_of_le (F4 k) h)
 | .sr a _ _ _ _, k => D8 (Nat.lt_of_lt_of_le (F4 k) h)
 | .mp a, k => D8 (Nat.lt_of_lt_of_le (F4 k) h)
 | .it a, k => D8 (Nat.lt_of_lt_of_le (F4 k) h)
 | .stp a, k => D8 (Nat.lt_of_lt_of_le (F4 k) h)
 | .yl a, k => D8 (Nat.lt_of_lt_of_le (F4 k) h)
 | .pv cs, k => AV.unds_mono h cs k
 | .sv cs _ _ _, k => AV.unds_mono h cs k
 | .fn _ p q, k => by simp only [AV.und, Bool.and_eq_true] at k ⊢; exact ⟨AV.unds_mono h p k.1, AV.unds_mono h q k.2⟩
 | .ifc _ x, k => AV.und_mono h x k
 | .agg cs, k => AV.unds_mono h cs k
 | .tup cs, k => AV.unds_mono h cs k
theorem AV.unds_mono {N M : Nat} (h : N <= M) : ∀ (l : List AV), AV.unds N l = true -> AV.unds M l = true
 | [], _ => rfl
 | x :: r, k => by simp only [AV.unds, Bool.and_eq_true] at k ⊢; exact ⟨AV.und_mono h x k.1, AV.unds_mono h r k.2⟩
end
theorem Fv.frz {E : Env} [Acm E] {C : Ctx} {N : Nat} {w : World} {τ : Sto} (h : Fv C N w E) : Fv (C.keep τ) (nx τ) w E := by
 refine ⟨fun g cs hg => R.cut (C.keep_sub τ) _ _ (AV.unds_mono (Nat.zero_le _) cs (Acm.ok g cs hg)) (h.1 g cs hg), fun c P hc => ?_⟩
 obtain ⟨h1, h2⟩ := h.2 c P hc;refine ⟨fun hh => h1 ?_, h2⟩
 rcases hh with hh | ⟨a, o, hh⟩
 ·exact .inl hh
 ·exact .inr ⟨a, o, (C.keep_sub τ).loc _ _ hh⟩
def Tf (σ τ : Sto) : Al -> Al -> Prop
 | [], _ => True
 | (i, v') :: r, ρ => (∃ v, Al.at ρ i = some v /\ Fz σ τ v v') /\ Tf σ τ r ρ
theorem Tf.at {σ τ : Sto} : ∀ {ρ' ρ : Al}, Tf σ τ ρ' ρ -> ∀ i v', Al.at ρ' i = some v' -> ∃ v, Al.at ρ i = some v /\ Fz σ τ v v'
 | [], ρ, _, i, v, h => by simp [Al.at] at h
 | (j, u) :: r, ρ, h, i, v, hv => by
  obtain ⟨h1, h2⟩ := h;simp only [Al.at] at hv;cases hb : Nat.beq j i with
  | true => rw [hb] at hv; cases hv; have := Nat.eq_of_beq_eq_true hb; subst this; exact h1
  | false => rw [hb] at hv; exact Tf.at h2 i v hv
theorem N7 : ∀ (l : Al) (i : Nat), (Td l).get i = Al.at l i
 | [], i => rfl
 | (j, v) :: r, i => by
  show (Tr.put (j + 1) (Td r) j (some v)).get i = _
  rw [Tr.get_put];simp only [Al.at]
  by_cases h : i = j
  ·subst h; rw [if_pos rfl, Nat.beq_refl, cond_true]
  ·rw [if_neg h]
   have hb : Nat.beq j i = false := by cases hb : Nat.beq j i with | true => exact absurd (Nat.eq_of_beq_eq_true hb).symm h | false => rfl
   rw [hb, cond_false, N7 r i]
theorem N8 (l : Al) : Has (Td l) l := fun i v h => by rw [N7]; exact h
theorem SSt.frz {E : Env} [Acm E] {C : Ctx} {w : World} {tm : Tr AV} {nt : Nat} {σ τ : Sto} {a : Act} {ρ ρ' : Al} (st : SSt E C w ⟨tm, nt, [], σ⟩ a) (ht : Has tm ρ) (hf : Aw σ τ) (hs : ∀ i v', Al.at ρ' i = some v' -> ∃ v, Al.at ρ i = some v /\ Fz σ τ v v') :
  SSt E (C.keep τ) w ⟨Td ρ', nt, [], τ⟩ a := by
 refine ⟨st.sim.frz hf, Fv.frz st.glob, fun i v hv => ?_, st.size, ?_⟩
 ·have hv : (Td ρ').get i = some v := hv;rw [N7] at hv;obtain ⟨u, h1, h2⟩ := hs i v hv;exact h2.R st.sim (st.tmps i u (ht i u h1))
 ·have := st.dfs;cases hds : a.defers with
  | nil => unfold DR; trivial
  | cons d ds => rw [hds] at this; unfold DR at this; exact this.elim
theorem T_frz {E : Env} [Acm E] {nt B : Nat} {c : Code} {Q : Dh} {ρ : Al} {σ : Sto} (τ : Sto) (ρ' : Al) (hf : Aw σ τ) (hB : B <= nx τ) (hs : Tf σ τ ρ' ρ) (k : T E nt [] B c Q ρ' τ) : T E nt [] B c Q ρ σ :=
 fun C w tm a ht st _ => wp_mono (k (C.keep τ) w _ a (N8 ρ') (st.frz ht hf hs.at) hB) fun e a' w' he => he.from (Ext.keepB C τ B w)
theorem Al0 {E : Env} [Acm E] {nt B : Nat} {ops r : List Oper} {K : Al -> Sto -> Prop} {ρ : Al} {σ : Sto} (τ : Sto) (ρ' : Al) (hf : Aw σ τ) (hB : B <= nx τ) (hs : ∀ i v', Al.at ρ' i = some v' -> ∃ v, Al.at ρ i = some v /\ Fz σ τ v v') (k : TO E nt [] B ops r K ρ' τ) : TO E nt [] B ops r K ρ σ :=
 fun C w tm a ht st _ arr i QQ rest h1 h2 hQ => k (C.keep τ) w _ a (N8 ρ') (st.frz ht hf hs) hB arr i QQ rest h1 h2 fun C2 w2 a2 tm2 ρ2 σ2 q1 q2 q3 qB q4 => hQ C2 w2 a2 tm2 ρ2 σ2 q1 q2 q3 qB ((Ext.keepB C τ B w).trans q4)
theorem noR {E : Env} : Bc E (fun _ _ _ => none) := Bc.none
section
variable {E : Env} {nt B : Nat} {df : List (Nat × List AV)} {ρ ρ' : Al} {σ σ' : Sto} {K : Al -> Sto -> Prop}
theorem Aem {ops r : List Oper} {op : Op} {dst : Option Nat} {ty : Nat} {pos : String} {after : Array Edge} {Pv : AV -> Prop} (hd : Df nt dst = true)
  (h : ∀ C w tm a, Has tm ρ -> SSt E C w ⟨tm, nt, df, σ⟩ a -> ∃ v, Pv v /\ Q5 E.P C w σ (execOp a.eval { dst := dst, op := op, type := ty, pos := pos, after := after, guard := none }) v σ')
  (k : ∀ v, Pv v -> TO E nt df B ops r K (Es dst v ρ) σ') : TO E nt df B ops ({ dst := dst, op := op, type := ty, pos := pos, after := after, guard := none } :: r) K ρ σ := by
 intro C w tm a ht st hB arr i QQ rest harr hr hQ
 have ho : arr[i]? = some { dst := dst, op := op, type := ty, pos := pos, after := after, guard := none } := by have := hr 0 (by simp); simpa using this.symm
 simp only [List.length_cons, List.range'_succ, List.cons_append, wpOps, ho];have hw : Region.wanted { dst := dst, op := op, type := ty, pos := pos, after := after, guard := none } (yielded arr a.tmps) = true := rfl;rw [if_pos hw];refine .inl ?_;obtain ⟨v, hpv, x, w', C', h1, h2, h3, h4⟩ := h C w tm a ht st;obtain ⟨tm', g1, g2⟩ := Dw (dst := dst) hd ht v;have go : ∀ y, R C' (nx σ') w' v y -> wpOps E.P arr QQ (List.range' (i + 1) r.length ++ rest) (a.put dst y) w' := fun y hy =>
  k v hpv C' w' tm' _ g2 (st.put h3 h4 hy g1) (Nat.le_trans hB h4.next) arr (i + 1) QQ rest harr (fun j hj => by have := hr (j + 1) (by simpa using hj); simp only [List.getElem?_cons_succ] at this; rw [this]; congr 1; omega)
   fun C2 w2 a2 tm2 ρ2 σ2 q1 q2 q3 qB q4 => hQ C2 w2 a2 tm2 ρ2 σ2 q1 q2 q3 qB ((h4.base hB).trans q4)
 unfold Oper.wp
 rcases h1 with h1 | ⟨h1, rfl⟩
 ·rw [h1, Oper.upon_value]; exact go x h2
 ·rw [h1, Oper.upon_skip]; exact go undef h2
theorem Aoz {ops r : List Oper} {op : Op} {dst : Option Nat} {ty : Nat} {pos : String} {after : Array Edge} {v : AV} (hd : Df nt dst = true)
  (h : ∀ C w tm a, Has tm ρ -> SSt E C w ⟨tm, nt, df, σ⟩ a -> Q5 E.P C w σ (execOp a.eval { dst := dst, op := op, type := ty, pos := pos, after := after, guard := none }) v σ')
  (k : TO E nt df B ops r K (Es dst v ρ) σ') : TO E nt df B ops ({ dst := dst, op := op, type := ty, pos := pos, after := after, guard := none } :: r) K ρ σ :=
 Aem (Pv := fun u => u = v) hd (fun C w tm a ht st => ⟨v, rfl, h C w tm a ht st⟩) (fun u hu => by subst hu; exact k)
theorem Al1 {P : Program} {C : Ctx} {w : World} (hs : Sim P C w σ) {t : TypeId} {n : Nat} {x : AV} {X : Value} (hx : R C (nx σ) w x X) {cs : List AV} (h : x.cellsN n = some cs) : Hl P C w σ (Instr.box t X) (.pv cs) σ := by
 obtain ⟨q1, q2, q3, q4⟩ := Hm h hx;have p := Jm w (.cells X.cells t (0, 0));obtain ⟨k1, k2⟩ := hs.push p;refine ⟨_, .pointer (some ⟨w.heap.size, 0, none⟩), _, C, ?_, rfl, k1, k2, ?_⟩
 ·unfold Instr.box
  simp [newVar, newRow]
 ·unfold R
  refine ⟨_, _, rfl, fun _ ho => ?_, RC.of_cells p.here (q1.ext k2) q4 fun i v hi => by rwa [Nat.zero_add, ← Array.getElem?_toList]⟩
  have := hs.own_lt ho; simp at this
theorem Ax {ops r : List Oper} {t : Nat} {x : Operand} {dst : Option Nat} {ty : Nat} {pos : String} {after : Array Edge} {v : AV} {sz : Nat} {agg : Bool} {cs : List AV} (hi : ldI E.P t = some (sz, agg)) (hx : A0 E ρ x = some v) (hc : v.cellsN sz = some cs) (hd : Df nt dst = true)
  (k : TO E nt df B ops r K (Es dst (.pv cs) ρ) σ) : TO E nt df B ops ({ dst := dst, op := .box t x, type := ty, pos := pos, after := after, guard := none } :: r) K ρ σ := by
 refine Aoz hd (fun C w tm a ht st => ?_) k
 have hv := B4 st.glob st.tmps x;rw [ht.opd hx] at hv;exact .ofRuns (Al1 st.sim hv hc)
theorem X4 {ops : List Oper} {t d ty : Nat} {pos : String} {after : Array Edge} {z : List AV} {tm : Tr AV} (hz : zI E.P t = some z) (hd : Nat.blt d nt = true) :
  Me E ops { dst := some d, op := .alloc t, type := ty, pos := pos, after := after, guard := none } (fun _ _ _ => none) ⟨tm, nt, df, σ⟩ = some ⟨tm.put (d + 1) d (some (.pr (nx σ) 0)), nt, df, σ.new (.cells z)⟩ := by
 rw [Pb (s := ⟨tm, nt, df, σ⟩) rfl rfl]
 have : opA E (.alloc t) (fun _ _ _ => none) tm σ = some (.pr (nx σ) 0, σ.new (.cells z)) := by
  unfold zI at hz
  split at hz
  ·rename_i ti hti; simp only [opA, Bm, hti, hz, Wt]
  ·cases hz
 simp only [this, Jl, hd, cond_true, Ek]
theorem Cd {ob : List AV} : (σ.new (.cells ob)).cells (nx σ) = some ob := by
 unfold Sto.cells; rw [Sto.get_new, if_pos rfl]
theorem Ey : ∀ {z l : List AV}, l.length = z.length -> setAt z 0 l = some l
 | [], [], _ => rfl
 | x :: z, y :: l, h => by
  have := Ey (z := z) (l := l) (by simpa using h)
  simp only [setAt, this]
 | [], _ :: _, h => by simp at h
 | _ :: _, [], h => by simp at h
theorem B6 {ops r : List Oper} {t d sz : Nat} {agg : Bool} {x : Operand} {ty ty' : Nat} {pos pos' : String} {after after' : Array Edge} {z cs : List AV} {v : AV} (hz : zI E.P t = some z) (hi : ldI E.P t = some (sz, agg)) (hl : Nat.beq z.length sz = true)
  (hx : ∀ u, A0 E ((d, u) :: ρ) x = some v) (hv : A0 E ρ x = some v) (hc : v.cellsN sz = some cs) (hd : Nat.blt d nt = true) [Acm E] (hdf : df = [])
  (k : TO E nt df B ops r K ((d, .pv cs) :: ρ) σ) :
  TO E nt df B ops ({ dst := some d, op := .alloc t, type := ty, pos := pos, after := after, guard := none } :: { dst := none, op := .store t (.tmp d) x, type := ty', pos := pos', after := after', guard := none } :: r) K ρ σ := by
 subst hdf;intro C w tm a ht st hB
 have hcs : cs.length = z.length := by
  have hb := Nat.eq_of_beq_eq_true hl;have hvR := B4 st.glob st.tmps x;rw [ht.opd hv] at hvR;obtain ⟨q1, q2, _⟩ := Hm hc hvR;have := q1.length;rw [hb];unfold AV.cellsN at hc
  split at hc <;> try (cases hc; done)
  ·cases hb' : Nat.beq ‹List AV›.length sz with
   | true => rw [hb'] at hc; cases hc; exact Nat.eq_of_beq_eq_true hb'
   | false => rw [hb'] at hc; cases hc
  ·cases hb' : Nat.beq sz 1 with
   | true => rw [hb'] at hc; cases hc; exact (Nat.eq_of_beq_eq_true hb').symm
   | false => rw [hb'] at hc; cases hc
 have hwf := st.sim.wfs;have hund : ∀ i u, Al.at ρ i = some u -> AV.und (nx σ) u = true := fun i u hu => R.und _ _ (st.tmps i u (ht i u hu))
 have hvu : AV.und (nx σ) v = true := by
  have hvR := B4 st.glob st.tmps x;rw [ht.opd hv] at hvR;exact R.und _ _ hvR
 have hcu : AV.unds (nx σ) cs = true := by
  unfold AV.cellsN at hc
  split at hc <;> try (cases hc; done)
  ·cases hb' : Nat.beq ‹List AV›.length sz with
   | true => rw [hb'] at hc; cases hc; exact hvu
   | false => rw [hb'] at hc; cases hc
  ·cases hb' : Nat.beq sz 1 with
   | true => rw [hb'] at hc; cases hc; simp only [AV.unds, hvu, Bool.and_self]
   | false => rw [hb'] at hc; cases hc
 have key : TO E nt [] B ops ({ dst := some d, op := .alloc t, type := ty, pos := pos, after := after, guard := none } :: { dst := none, op := .store t (.tmp d) x, type := ty', pos := pos', after := after', guard := none } :: r) K ρ σ := by
  refine Q8 noR (σ₁ := σ.new (.cells z)) (ρ₁ := (d, .pr (nx σ) 0) :: ρ) (fun tm' ht' => ⟨_, X4 hz hd, ht'.put d _⟩) ?_
  refine X2 noR rfl rfl (A6 (vs := z) (vs' := cs) (ad := nx σ) (off := 0) (v := v) (cs := cs) hi (by simp [A0, Al.at, Nat.beq_refl]) (hx _) hc Cd (Ey hcs)) ?_
  simp only [Es];refine Al0 σ ((d, .pv cs) :: ρ) ?_ hB ?_ k
  ·refine Aw.of_same hwf (by rw [An, Ap]; exact Nat.le_succ _) fun b hb => ?_
   rw [Sto.get_set, if_neg (by omega), Sto.get_new, if_neg (by omega)]
  ·intro i u hu;simp only [Al.at] at hu ⊢;cases hb : Nat.beq d i with
   | true =>
    rw [hb] at hu; simp only [cond_true, Option.some.injEq] at hu ⊢;subst hu
    refine ⟨_, rfl, .pr (vs := cs) (by rw [Sto.get_set, if_pos rfl]) ?_ (FzL.same hcu)⟩
    cases hg : σ.get (nx σ) with
    | none => rfl
    | some O => exact absurd (hwf _ _ hg).1 (Nat.lt_irrefl _)
   | false => rw [hb] at hu; exact ⟨u, hu, .same (hund i u hu)⟩
 exact key C w tm a ht st hB
def Kb (ρ ρ' : Al) : Prop := ∀ i v, Al.at ρ i = some v -> Al.at ρ' i = some v
theorem Kb.refl : Kb ρ ρ := fun _ _ h => h
theorem Kb.cons {d : Nat} {v : AV} (hd : Al.at ρ d = none) (h : Kb ρ ρ') : Kb ρ ((d, v) :: ρ') := fun i u hu => by
 simp only [Al.at];cases hb : Nat.beq d i with
 | true => have := Nat.eq_of_beq_eq_true hb; subst this; rw [hd] at hu; cases hu
 | false => exact h i u hu
theorem Wc {ops r : List Oper} (h : TO E nt df B ops r K ρ σ) (hs : Kb ρ ρ') : TO E nt df B ops r K ρ' σ :=
 fun C w tm a ht st => h C w tm a (fun i v hv => ht i v (hs i v hv)) st
theorem Kb.put {d : Nat} {v : AV} (h : Kb ρ ρ') : Kb ((d, v) :: ρ) ((d, v) :: ρ') := fun i u hu => by
 simp only [Al.at] at hu ⊢;cases hb : Nat.beq d i with
 | true => rw [hb] at hu; exact hu
 | false => rw [hb] at hu; exact h i u hu
theorem Av {ops : List Oper} {o : Oper} (hg : o.guard = none) : ∀ ρ', Kb ρ ρ' -> ∀ tm, Has tm ρ' -> C8 ops o tm = some true := fun _ _ _ _ => by simp only [C8, hg]
theorem Iu {ops : List Oper} {o oj : Oper} {j d : Nat} {b want : Bool} (hg : o.guard = some (j, want)) (hj : ops[j]? = some oj) (hdj : oj.dst = some d) (hb : Al.at ρ d = some (.bool b)) (hw : cond b want (!want) = true) :
  ∀ ρ', Kb ρ ρ' -> ∀ tm, Has tm ρ' -> C8 ops o tm = some true := fun ρ' hs tm ht => by rw [Ga ht hg hj hdj (hs _ _ hb), hw]
theorem Wd {ops r : List Oper} {o : Oper} {t : Nat} {c x y : Operand} {v : AV} (hg : ∀ tm, Has tm ρ -> C8 ops o tm = some true) (hop : o.op = .pick c x y) (hdst : o.dst = some t) (ht : Nat.blt t nt = true)
  (h : Bu E (fun _ _ _ => none) (.pick c x y) ρ σ v σ) (k : TO E nt df B ops r K ((t, v) :: ρ) σ) : TO E nt df B ops (o :: r) K ρ σ := by
 refine Q8 Bc.none (fun tm hh => ?_) k
 obtain ⟨tm', h1, h2⟩ := Dw (dst := o.dst) (by rw [hdst]; exact ht) hh v
 rw [hdst] at h2;refine ⟨tm', ?_, h2⟩
 rw [Pb (s := ⟨tm, nt, df, σ⟩) (hg tm hh) (by rw [hop]; rfl), hop]
 simp only [h tm hh, h1]
theorem Cv (n : Nat) (b q : Bool) {ops r r' : List Oper} {o : Oper} {t : Nat} {c x : Operand} (h0 : A0 E ρ c = some (.bool b))
  (hr : r.drop n = o :: r') (hop : o.op = .pick c x (.const (.bool false))) (hdst : o.dst = some t) (ht : Nat.blt t nt = true) (hg : ∀ ρ', Kb ρ ρ' -> ∀ tm, Has tm ρ' -> C8 ops o tm = some true)
  (hon : b = true -> TO E nt df B ops (r.take n) (fun ρ' σ' => σ' = σ /\ Kb ρ ρ' /\ A0 E ρ' x = some (.bool q)) ρ σ)
  (hoff : b = false -> TO E nt df B ops (r.take n) (fun ρ' σ' => σ' = σ /\ Kb ρ ρ') ρ σ)
  (k : TO E nt df B ops r' K ((t, .bool (b && q)) :: ρ) σ) : TO E nt df B ops r K ρ σ := by
 refine Alz n ?_;rw [hr]
 have hsub : ∀ ρ', Kb ρ ρ' -> A0 E ρ' c = some (.bool b) := fun ρ' hs => by
  cases c with
  | tmp j => exact hs _ _ h0
  | _ => exact h0
 cases b with
 | true =>
  refine (hon rfl).mono fun ρ' σ' ⟨h1, h2, h3⟩ => ?_
  subst h1
  exact Wd (hg ρ' h2) hop hdst ht (Bx (hsub ρ' h2) rfl h3) (Wc (by simpa using k) h2.put)
 | false =>
  refine (hoff rfl).mono fun ρ' σ' ⟨h1, h2⟩ => ?_
  subst h1
  exact Wd (hg ρ' h2) hop hdst ht (Bt (v := .bool false) (hsub ρ' h2) rfl rfl) (Wc (by simpa using k) h2.put)
theorem Co (n : Nat) (b q : Bool) {ops r r' : List Oper} {o : Oper} {t : Nat} {c x : Operand} (h0 : A0 E ρ c = some (.bool b))
  (hr : r.drop n = o :: r') (hop : o.op = .pick c (.const (.bool true)) x) (hdst : o.dst = some t) (ht : Nat.blt t nt = true) (hg : ∀ ρ', Kb ρ ρ' -> ∀ tm, Has tm ρ' -> C8 ops o tm = some true)
  (hon : b = false -> TO E nt df B ops (r.take n) (fun ρ' σ' => σ' = σ /\ Kb ρ ρ' /\ A0 E ρ' x = some (.bool q)) ρ σ)
  (hoff : b = true -> TO E nt df B ops (r.take n) (fun ρ' σ' => σ' = σ /\ Kb ρ ρ') ρ σ)
  (k : TO E nt df B ops r' K ((t, .bool (b || q)) :: ρ) σ) : TO E nt df B ops r K ρ σ := by
 refine Alz n ?_;rw [hr]
 have hsub : ∀ ρ', Kb ρ ρ' -> A0 E ρ' c = some (.bool b) := fun ρ' hs => by
  cases c with
  | tmp j => exact hs _ _ h0
  | _ => exact h0
 cases b with
 | false =>
  refine (hon rfl).mono fun ρ' σ' ⟨h1, h2, h3⟩ => ?_
  subst h1
  exact Wd (hg ρ' h2) hop hdst ht (Bt (hsub ρ' h2) rfl h3) (Wc (by simpa using k) h2.put)
 | true =>
  refine (hoff rfl).mono fun ρ' σ' ⟨h1, h2⟩ => ?_
  subst h1
  exact Wd (hg ρ' h2) hop hdst ht (Bx (v := .bool true) (hsub ρ' h2) rfl rfl) (Wc (by simpa using k) h2.put)
theorem Ao0 {ops r : List Oper} {o oj : Oper} {j d : Nat} {want : Bool} (hg : o.guard = some (j, want)) (hj : ops[j]? = some oj) (hdj : oj.dst = some d) (hb : Al.at ρ d = some Bd)
  (hd : Df nt o.dst = true) (k : TO E nt df B ops r K (Es o.dst Bd ρ) σ) : TO E nt df B ops (o :: r) K ρ σ := by
 refine Q8 Bc.none (fun tm ht => ?_) k
 obtain ⟨tm', h1, h2⟩ := Dw (dst := o.dst) hd ht Bd;refine ⟨tm', ?_, h2⟩
 have : C8 ops o tm = some false := by simp only [C8, hg, hj, hdj, ht d _ hb]; rfl
 unfold Me;rw [this];simp only [h1]
theorem Al2 {ops r : List Oper} {oj : Oper} {j dj : Nat} {b want : Bool} {f : Operand} {args : Array Operand} {tys : Array Nat} {dst : Option Nat} {ty : Nat} {pos : String} {after : Array Edge} {k : Nat} {first cap vs full : List AV} {Post : AV -> Sto -> Prop}
  (hj : ops[j]? = some oj) (hdj : oj.dst = some dj) (hb : Al.at ρ dj = some (.bool b)) (hw : cond b want (!want) = true) (hd : Df nt dst = true)
  (hf : A0 E ρ f = some (.fn (.func k) first cap)) (ha : K7 E ρ args.toList = some vs) (hl : first ++ vs ++ cap = full) (hc : Ah E k full σ Post)
  (kk : ∀ v σ', Post v σ' -> TO E nt df B ops r K (Es dst v ρ) σ') : TO E nt df B ops ({ dst := dst, op := .call ⟨.value f, args, tys⟩, type := ty, pos := pos, after := after, guard := some (j, want) } :: r) K ρ σ := by
 intro C w tm a ht st hB arr i QQ rest harr hr hQ
 have ho : arr[i]? = some { dst := dst, op := .call ⟨.value f, args, tys⟩, type := ty, pos := pos, after := after, guard := some (j, want) } := by have := hr 0 (by simp); simpa using this.symm
 simp only [List.length_cons, List.range'_succ, List.cons_append, wpOps, ho]
 have hw' : Region.wanted { dst := dst, op := .call ⟨.value f, args, tys⟩, type := ty, pos := pos, after := after, guard := some (j, want) } (yielded arr a.tmps) = true := by
  refine E7 (o := { dst := dst, op := .call ⟨.value f, args, tys⟩, type := ty, pos := pos, after := after, guard := some (j, want) }) st.tmps ?_;rw [harr, Ga (o := { dst := dst, op := .call ⟨.value f, args, tys⟩, type := ty, pos := pos, after := after, guard := some (j, want) }) ht rfl hj hdj hb, hw]
 rw [if_pos hw'];refine .inl ?_;have hV := B4 st.glob st.tmps f;rw [ht.opd hf] at hV;unfold R at hV;obtain ⟨p, q, hV, hp, hq⟩ := hV;have hargs := D7 st.glob st.tmps args.toList;rw [ht.opds ha] at hargs
 have hall : RL C (nx σ) w full (p ++ args.map a.eval ++ q).toList := by
  subst hl;simp only [Array.toList_append, Array.toList_map];exact (hp.append hargs).append hq
 obtain ⟨⟨fn, g1, g2, g3⟩, hcalls⟩ := hc C w _ st.sim st.glob hall
 have hrun : (execOp a.eval { dst := dst, op := .call ⟨.value f, args, tys⟩, type := ty, pos := pos, after := after, guard := some (j, want) }).run E.P w = .ok (.enter k (p ++ args.map a.eval ++ q)) w := by
  have g2' : fn.name ≠ "runtime.NumGoroutine" := by simpa using g2
  have g3' : fn.body ≠ none := fun hh => by rw [hh] at g3; cases g3
  simp [execOp, resolve, hV, Deferred.ofValue, invoke, callFunc, g1, g2', g3']
 unfold Oper.wp;rw [hrun, Oper.upon_enter];refine hcalls.mono fun e w' he => ?_
 cases e with
 | returned x =>
  obtain ⟨v, σ', C', k0, k1, k2, k3⟩ := he;obtain ⟨tm', h1, h2⟩ := Dw (dst := dst) hd ht v
  exact kk v σ' k0 C' w' tm' _ h2 (st.put k1 k2 k3 h1) (Nat.le_trans hB k2.next) arr (i + 1) QQ rest harr (fun j hj => by have := hr (j + 1) (by simpa using hj); simp only [List.getElem?_cons_succ] at this; rw [this]; congr 1; omega)
   fun C2 w2 a2 tm2 ρ2 σ2 q1 q2 q3 qB q4 => hQ C2 w2 a2 tm2 ρ2 σ2 q1 q2 q3 qB ((k2.base hB).trans q4)
 | panicked _ => exact he.elim
 | outgrown => exact he.elim
end
open Go Go.Proofs
instance : Acm Ew := ⟨fun g cs h => by
 have h : glW g = some cs := h;unfold glW at h
 split at h
 ·cases h; rfl
 ·cases h⟩
theorem A2 {f : Nat} {fn : Func} {c : Code} {args : List AV} {σ : Sto} {Post : AV -> Sto -> Prop} (hfn : Tryz.prog.funcs[f]? = some fn) (hc : fn.body = some c) (hle : Nat.ble args.length fn.ntmps = true)
  (h : WFS σ -> AV.unds (nx σ) args = true -> T Ew fn.ntmps [] (nx σ) c (Akf (Zw Ew fn (nx σ) Post)) (Gb args 0) σ) : Ah Ew f args σ Post :=
 callTo hfn (S8 f fn hfn) hc hle h
abbrev Str := List UInt8
def sV (s : Str) : AV := .str (s.map UInt8.toNat)
def slV {α : Type} (enc : α -> List AV) (sz : Nat) (l : List α) : AV := .sv (l.flatMap enc) sz l.length none
def bV (b : Bool) : AV := .bool b
def iV (n : Int) : AV := .int .i64 n
theorem Aqv {s t : Str} (h : sV s = sV t) : s = t := by
 simp only [sV, AV.str.injEq] at h
 exact List.map_inj_right (fun a b h => UInt8.toNat_inj.1 h) |>.1 h
theorem Fa {s t : Str} : (s.map UInt8.toNat = t.map UInt8.toNat) ↔ s = t := List.map_inj_right (fun a b h => UInt8.toNat_inj.1 h)
theorem Ez {α : Type} {enc : α -> List AV} {sz : Nat} (he : ∀ a, (enc a).length = sz) : ∀ l : List α, (l.flatMap enc).length = l.length * sz
 | [] => by simp
 | a :: r => by simp only [List.flatMap_cons, List.length_append, he, Ez he r, List.length_cons, Nat.succ_mul]; omega
theorem Ue {α : Type} {enc : α -> List AV} {sz : Nat} (he : ∀ a, (enc a).length = sz) : ∀ (l : List α) (i : Nat), (l.flatMap enc).drop (i * sz) = (l.drop i).flatMap enc
 | l, 0 => by simp
 | [], i + 1 => by simp
 | a :: r, i + 1 => by
  simp only [List.flatMap_cons, List.drop_succ_cons, Nat.succ_mul];rw [← Ue he r i, Nat.add_comm, ← List.drop_drop, List.drop_left' (he a)]
theorem Acn {α : Type} {enc : α -> List AV} {sz : Nat} (he : ∀ a, (enc a).length = sz) {l : List α} {i : Nat} {a : α} (h : l[i]? = some a) : (l.flatMap enc).drop (i * sz) = enc a ++ (l.drop (i + 1)).flatMap enc := by
 rw [Ue he];obtain ⟨hi, rfl⟩ := List.getElem?_eq_some_iff.1 h;rw [List.drop_eq_getElem_cons hi, List.flatMap_cons]
section
variable {E : Env} {ρ : Al} {σ : Sto} {Rr : Rec} {t n : Nat} {x y : Operand} {α : Type} {enc : α -> List AV} {sz : Nat} {l : List α}
theorem As {t₀ : Nat} (hi : Ge E.P t₀ = true) (hx : A0 E ρ x = some (slV enc sz l)) : Bu E Rr (.call ⟨.builtin .len, #[x], #[t₀]⟩) ρ σ (.int .i64 (.ofNat l.length)) σ :=
 Fd hi hx rfl rfl
theorem We {t₀ : Nat} {s : Str} (hi : Dz E.P t₀ = true) (hx : A0 E ρ x = some (sV s)) : Bu E Rr (.call ⟨.builtin .len, #[x], #[t₀]⟩) ρ σ (.int .i64 (.ofNat s.length)) σ := by
 have := Aj7 (Rr := Rr) (σ := σ) hi hx
 rwa [List.length_map] at this
theorem A3 {by' i : Nat} {zz : Option (List AV)} {k : IntKind} {a : α} (hi : elI E.P t = some (sz, by', zz)) (he : ∀ a, (enc a).length = sz) (hx : A0 E ρ x = some (slV enc sz l)) (hy : A0 E ρ y = some (.int k (.ofNat i))) (ha : l[i]? = some a) :
  Bu E Rr (.indexAddr t x y) ρ σ (.pv (enc a ++ (l.drop (i + 1)).flatMap enc)) σ := by
 have h := Aeb (Rr := Rr) (σ := σ) hi hx hy (m := l.length) rfl rfl (List.getElem?_eq_some_iff.1 ha).1
 have e : Aea (slV enc sz l) (i * sz) = .pv (enc a ++ (l.drop (i + 1)).flatMap enc) := by
  show AV.pv ((l.flatMap enc).drop (i * sz)) = _
  rw [Acn he ha]
 rw [e] at h;exact h
theorem Hr {p q : Str} {ty : Nat} (hi : okI E.P t = true) (hx : A0 E ρ x = some (sV p)) (hy : A0 E ρ y = some (sV q)) : Bu E Rr (.binOp .eql t x y ty) ρ σ (.bool (decide (p = q))) σ := by
 have := Aqr (Rr := Rr) (σ := σ) (ty := ty) hi hx hy
 simpa only [Fa] using this
theorem En {p q : Str} {ty : Nat} (hi : okI E.P t = true) (hx : A0 E ρ x = some (sV p)) (hy : A0 E ρ y = some (sV q)) : Bu E Rr (.binOp .neq t x y ty) ρ σ (.bool (!decide (p = q))) σ := by
 have := Aqs (Rr := Rr) (σ := σ) (ty := ty) hi hx hy
 simpa only [Fa] using this
end
theorem He : ∀ {l r : List AV}, D1 l.length (l ++ r) = some l
 | [], r => rfl
 | x :: l, r => by simp only [List.length_cons, List.cons_append, D1, He (l := l)]
theorem Cb {l : List AV} {sz : Nat} (h : l.length = sz) (r : List AV) : Lz sz true (l ++ r) = some (.agg l) := by
 subst h; simp only [Lz, He]
theorem Be {l : List AV} {sz : Nat} (h : l.length = sz) : Lz sz true l = some (.agg l) := by
 have := Cb h []
 rwa [List.append_nil] at this
theorem Bp {l : List AV} {sz : Nat} (h : l.length = sz) : (AV.agg l).cellsN sz = some l := by
 subst h; simp only [AV.cellsN, Nat.beq_refl, cond_true]
def Bk {α : Type} (p : α -> Bool) : List α -> Nat -> Int
 | [], _ => -1
 | a :: r, i => cond (p a) (.ofNat i) (Bk p r (i + 1))
theorem Aen {α : Type} {p : α -> Bool} : ∀ (l : List α) (i : Nat), (0 : Int) <= Bk p l i ↔ l.any p = true
 | [], i => by simp [Bk]
 | a :: r, i => by
  rw [List.any_cons];unfold Bk
  by_cases hp : p a = true
  ·rw [hp]; simp
  ·have hp : p a = false := by simpa using hp
   rw [hp, cond_false, Bool.false_or];exact Aen r (i + 1)
theorem E1 {α : Type} {p : α -> Bool} (l : List α) : decide (Int.ofNat 0 <= Bk p l 0) = l.any p := by
 have := Aen (p := p) l 0
 by_cases h : l.any p = true
 ·rw [h]; exact decide_eq_true (this.2 h)
 ·rw [Bool.not_eq_true] at h; rw [h]; exact decide_eq_false (fun hh => by rw [this.1 hh] at h; cases h)
structure Pr where
 a : Str
 b : Str
 deriving DecidableEq
structure Hp where
 label : Str
 floating : Bool
 text : List Str
structure Fr where
 label : Str
 thm : Bool
 hyps : List Hp
 apart : List Pr
 text : List Str
 dummies : List Hp
 wide : List Pr
 proof : List Str
structure Db where
 consts : List Str
 vars : List Str
 frames : List Fr
inductive Ay where
 | node (label : Str) (kids : List Ay)
structure Sb where
 label : Str
 tree : Ay
structure Pt where
 symbol : Str
 sort : Str
 arg : Int
structure Rl where
 label : Str
 sort : Str
 parts : List Pt
 var : Bool
structure Gr where
 sorts : List Str
 rules : List Rl
abbrev A9 (l : List Str) : AV := slV (fun s => [sV s]) 1 l
def eP (p : Pr) : List AV := [sV p.a, sV p.b]
def eH (h : Hp) : List AV := [sV h.label, .bool h.floating, A9 h.text]
def eF (f : Fr) : List AV := [sV f.label, .bool f.thm, slV eH 3 f.hyps, slV eP 2 f.apart, A9 f.text, slV eH 3 f.dummies, slV eP 2 f.wide, A9 f.proof]
def dbV (d : Db) : AV := .agg [A9 d.consts, A9 d.vars, slV eF 8 d.frames]
mutual
def eT : Ay -> List AV
 | .node l ks => [sV l, .sv (eTs ks) 2 ks.length none]
def eTs : List Ay -> List AV
 | [] => []
 | t :: r => eT t ++ eTs r
end
theorem Aeo : ∀ l : List Ay, eTs l = l.flatMap eT
 | [] => by simp [eTs]
 | t :: r => by simp [eTs, Aeo r]
theorem Hs (l : Str) (ks : List Ay) : eT (.node l ks) = [sV l, slV eT 2 ks] := by simp [eT, slV, Aeo]
theorem eT_len (t : Ay) : (eT t).length = 2 := by cases t; simp [eT]
def A4 (t : Ay) : AV := .agg (eT t)
def eS (s : Sb) : List AV := sV s.label :: eT s.tree
theorem eS_len (s : Sb) : (eS s).length = 3 := by simp [eS, eT_len]
def ePt (p : Pt) : List AV := [sV p.symbol, sV p.sort, iV p.arg]
def eR (r : Rl) : List AV := [sV r.label, sV r.sort, slV ePt 3 r.parts, .bool r.var]
def grV (g : Gr) : AV := .agg [A9 g.sorts, slV eR 4 g.rules]
def Jb : List (Tr AV × AV) -> List (Al × AV) -> Prop
 | [], [] => True
 | (tm, v) :: l, (ρ, u) :: m => Has tm ρ /\ v = u /\ Jb l m
 | _, _ => False
theorem Jb.append : ∀ {l l' : List (Tr AV × AV)} {m m' : List (Al × AV)}, Jb l m -> Jb l' m' -> Jb (l ++ l') (m ++ m')
 | [], l', [], m', _, h => h
 | (tm, v) :: l, l', (ρ, u) :: m, m', h, k => ⟨h.1, h.2.1, Jb.append h.2.2 k⟩
 | [], _, _ :: _, _, h, _ => h.elim
 | _ :: _, _, [], _, h, _ => h.elim
theorem Jb.reverse : ∀ {l : List (Tr AV × AV)} {m : List (Al × AV)}, Jb l m -> Jb l.reverse m.reverse
 | [], [], h => h
 | (tm, v) :: l, (ρ, u) :: m, h => by
  rw [List.reverse_cons, List.reverse_cons];exact Jb.append (Jb.reverse h.2.2) ⟨h.1, h.2.1, trivial⟩
 | [], _ :: _, h => h.elim
 | _ :: _, [], h => h.elim
theorem Jb.get : ∀ {l : List (Tr AV × AV)} {m : List (Al × AV)}, Jb l m -> ∀ (j : Nat) (t : Tr AV) (v : AV), l[j]? = some (t, v) -> ∃ ρ, m[j]? = some (ρ, v) /\ Has t ρ
 | [], [], _, j, t, v, h => by simp at h
 | (tm, v) :: l, (ρ, u) :: m, h, 0, t, x, hj => by simp at hj; obtain ⟨rfl, rfl⟩ := hj; obtain ⟨h1, rfl, _⟩ := h; exact ⟨ρ, rfl, h1⟩
 | (tm, v) :: l, (ρ, u) :: m, h, j + 1, t, x, hj => by
  obtain ⟨ρ', h1, h2⟩ := Jb.get h.2.2 j t x (by simpa using hj)
  exact ⟨ρ', by simpa using h1, h2⟩
 | [], _ :: _, h, _, _, _, _ => h.elim
 | _ :: _, [], h, _, _, _, _ => h.elim
abbrev KD := Al -> Sto -> List Sto -> List (Al × AV) -> Prop
def TD (E : Env) (nt : Nat) (Rr : Rec) (ops r : List Oper) (K : KD) (ρ : Al) (σ : Sto) (eps : List Sto) (log : List (Al × AV)) : Prop :=
 ∀ (tm : Tr AV) (df : List (Nat × List AV)) (dl : List (Tr AV × AV)), Has tm ρ -> Jb dl log -> ∃ d', So E ops Rr r ⟨⟨tm, nt, df, σ⟩, eps, dl⟩ = some d' /\ d'.s.nt = nt /\ d'.s.df = df /\ ∃ ρ' log', Has d'.s.tm ρ' /\ Jb d'.log log' /\ K ρ' d'.s.sto d'.eps log'
section
variable {E : Env} {nt B : Nat} {df : List (Nat × List AV)} {Q : Dh} {Rr : Rec} {ops r : List Oper} {K : KD} {ρ : Al} {σ : Sto} {eps : List Sto} {log : List (Al × AV)}
theorem Bl (h : K ρ σ eps log) : TD E nt Rr ops [] K ρ σ eps log := fun tm df dl ht hl => ⟨_, rfl, rfl, rfl, ρ, log, ht, hl, h⟩
theorem Al3 {o : Oper} {v : AV} {σ₁ : Sto} {b : Bool} (hg : ∀ tm, Has tm ρ -> C8 ops o tm = some true) (he : Cw (B9 E o.op) = b) (hd : Df nt o.dst = true) (h : Bu E Rr o.op ρ σ v σ₁)
  (k : TD E nt Rr ops r K (Es o.dst v ρ) (cond b σ₁ σ) (cond b (σ₁ :: eps) eps) ((ρ, v) :: log)) : TD E nt Rr ops (o :: r) K ρ σ eps log := by
 intro tm df dl ht hl;obtain ⟨tm', h1, h2⟩ := Dw (dst := o.dst) hd ht v
 have : O6 E ops o Rr ⟨⟨tm, nt, df, σ⟩, eps, dl⟩ = some ⟨⟨tm', nt, df, cond b σ₁ σ⟩, cond b (σ₁ :: eps) eps, (tm, v) :: dl⟩ := by
  unfold O6;simp only [hg tm ht, h tm ht, h1, he];cases b <;> rfl
 obtain ⟨d', k1, k2⟩ := k tm' df ((tm, v) :: dl) h2 ⟨ht, rfl, hl⟩
 exact ⟨d', by simp only [So, this]; exact k1, k2⟩
theorem Aii {op : Op} {dst : Option Nat} {ty : Nat} {pos : String} {after : Array Edge} {v : AV} {σ₁ : Sto} {b : Bool} (he : Cw (B9 E op) = b) (hd : Df nt dst = true) (h : Bu E Rr op ρ σ v σ₁)
  (k : TD E nt Rr ops r K (Es dst v ρ) (cond b σ₁ σ) (cond b (σ₁ :: eps) eps) ((ρ, v) :: log)) : TD E nt Rr ops ({ dst := dst, op := op, type := ty, pos := pos, after := after, guard := none } :: r) K ρ σ eps log :=
 Al3 (o := { dst := dst, op := op, type := ty, pos := pos, after := after, guard := none }) (fun _ _ => rfl) he hd h k
theorem K8 {o oj : Oper} {v : AV} {σ₁ : Sto} {j d : Nat} {b want e : Bool} (hg : o.guard = some (j, want)) (hj : ops[j]? = some oj) (hdj : oj.dst = some d) (hb : Al.at ρ d = some (.bool b)) (hw : cond b want (!want) = true)
  (he : Cw (B9 E o.op) = e) (hd : Df nt o.dst = true) (h : Bu E Rr o.op ρ σ v σ₁)
  (k : TD E nt Rr ops r K (Es o.dst v ρ) (cond e σ₁ σ) (cond e (σ₁ :: eps) eps) ((ρ, v) :: log)) : TD E nt Rr ops (o :: r) K ρ σ eps log :=
 Al3 (fun tm ht => by rw [Ga ht hg hj hdj hb, hw]) he hd h k
def Obl (E : Env) (eps : List Sto) : List Ann -> List Oper -> List (Al × AV) -> Prop
 | a :: az, o :: os, (ρ, v) :: l => (match a.cls with
  | .read => ∀ σ ∈ (eps.drop a.lo).take (a.hi + 1 - a.lo), ∃ σ', Bu E (fun _ _ _ => none) o.op ρ σ v σ'
  | _ => True) /\ Obl E eps az os l
 | _, _, _ => True
theorem Obl.get {E : Env} {eps : List Sto} : ∀ {az : List Ann} {os : List Oper} {l : List (Al × AV)}, Obl E eps az os l -> ∀ (j : Nat) (a : Ann) (o : Oper) (ρ : Al) (v : AV), az[j]? = some a -> os[j]? = some o -> l[j]? = some (ρ, v) -> a.cls = .read ->
  ∀ σ ∈ (eps.drop a.lo).take (a.hi + 1 - a.lo), ∃ σ', Bu E (fun _ _ _ => none) o.op ρ σ v σ'
 | a :: az, o :: os, (ρ, v) :: l, h, 0, a', o', ρ', v', ha, ho, hl, hc => by
  simp at ha ho hl; obtain ⟨rfl, rfl⟩ := hl; subst ha ho
  have := h.1; rw [hc] at this; exact this
 | a :: az, o :: os, (ρ, v) :: l, h, j + 1, a', o', ρ', v', ha, ho, hl, hc => Obl.get h.2 j a' o' ρ' v' (by simpa using ha) (by simpa using ho) (by simpa using hl) hc
 | [], _, _, _, _, _, _, _, _, h, _, _, _ => by simp at h
 | _ :: _, [], _, _, _, _, _, _, _, _, h, _, _ => by simp at h
 | _ :: _, _ :: _, [], _, _, _, _, _, _, _, _, h, _ => by simp at h
theorem Kc {ops : Array Oper} {anns : List Ann} (h : Mg E ops = some anns) : O4 ops (Region.before ops).toList = true /\ O5 ops = true /\ Mf (Region.before ops).toList (Ej E ops.toList 0) = true /\
  anns = Iy E (Region.before ops).toList (Ej E ops.toList 0) ops.toList 0 := by
 unfold Mg at h;simp only at h
 split at h
 ·rename_i hchk
  cases h;simp only [Bool.and_eq_true] at hchk;obtain ⟨⟨⟨c1, c2⟩, c3⟩, _⟩ := hchk;exact ⟨c1, c2, c3, rfl⟩
 ·cases h
theorem Al4 {id : Nat} {ops : Array Oper} {anns : List Ann} (hm : E.P.follows .mixedOrders = true) (hR : Bc E Rr) (ha : Mg E ops = some anns)
  (h : TD E nt Rr ops.toList ops.toList (fun ρ' σ' eps log => Obl E eps.reverse anns ops.toList log.reverse /\ Q .normal ρ' σ') ρ σ [σ] []) : T E nt df B (.region id ops true) Q ρ σ := by
 intro C w tm a ht st hB;obtain ⟨c1, c2, c3, c4⟩ := Kc ha;obtain ⟨d, k1, k2, k3, ρ', log', k4, k5, k6, k7⟩ := h tm df [] ht trivial;refine wp_mono (Aao hm hR st c1 c2 c3 k1 fun j o t v ho hl hc hg σk hσ => ?_) fun e a' w' he => ?_
 ·obtain ⟨ρj, q1, q2⟩ := k5.reverse.get j t v hl
  have hann := Hn (E := E) (b := (Region.before ops).toList) (effs := Ej E ops.toList 0) ops.toList 0 j o (by simpa using ho)
  rw [← c4] at hann;simp only [Nat.zero_add] at hann
  obtain ⟨σ', hto⟩ := k6.get j _ o ρj v hann (by simpa using ho) q1 hc σk (by simp only [Jv]; exact hσ)
  have := hto t q2;refine ⟨σ', ?_⟩
  have hne : Cw (B9 E o.op) = false := by rw [hc]; rfl
  rw [← J9 (Rr := fun _ _ _ => none) hne]; exact this
 ·obtain ⟨y, hy, C', h1, h2, h3⟩ := he;rw [List.mem_singleton] at hy;subst hy;obtain ⟨⟨tm', nt', df', σ'⟩, eps', dl'⟩ := d;simp only at k2 k3;subst k2 k3;exact ⟨.normal, tm', ρ', σ', C', h1, k4, k7, h2, Nat.le_trans hB h3.next, h3.base hB⟩
def Ao1 (E : Env) (ops : List Oper) : Bool := ops.all fun o => !Cw (B9 E o.op)
def KD0 (Q : Dh) (σ : Sto) : KD := fun ρ' σ' eps _ => σ' = σ /\ eps = [σ] /\ Q .normal ρ' σ
theorem Ht {id : Nat} {ops : Array Oper} {anns : List Ann} (hm : E.P.follows .mixedOrders = true) (ha : Mg E ops = some anns) (hc : Ao1 E ops.toList = true)
  (h : TD E nt (fun _ _ _ => none) ops.toList ops.toList (KD0 Q σ) ρ σ [σ] []) : T E nt df B (.region id ops true) Q ρ σ := by
 intro C w tm a ht st hB;obtain ⟨c1, c2, c3, c4⟩ := Kc ha;obtain ⟨d, k1, k2, k3, ρ', log', k4, k5, k6, k7, k8⟩ := h tm df [] ht trivial;refine wp_mono (Aao hm Bc.none st c1 c2 c3 k1 fun j o t v ho hl hcl hg σk hσ => ?_) fun e a' w' he => ?_
 ·rw [k7] at hσ
  have hσ' : σk = σ := by
   have := List.mem_of_mem_drop (List.mem_of_mem_take hσ)
   simpa using this
  subst hσ';obtain ⟨log, eps, lex, g2, g3, g4, g5⟩ := L0 k1;simp only [List.reverse_nil, List.nil_append, List.reverse_cons] at g2 g3;obtain ⟨x1, x2, x3, x4, x5⟩ := Xw lex
  obtain ⟨t', v', t₁, σ₀, σ₁, y1, y2, y3, y4, y5, y6⟩ := x5 j o (by simpa using ho)
  rw [g2] at hl;rw [hl] at y1; cases y1
  have heps : eps = [] := by
   rw [k7] at g3
   simpa using g3.symm
  rw [heps] at y3
  have hσ0 : σ₀ = σk := by
   have := (List.getElem?_eq_some_iff.1 y3).1;simp only [List.length_singleton] at this
   have h0 : cnt E ops.toList j = 0 := by omega
   rw [h0] at y3; simpa using y3.symm
  subst hσ0
  have hne : Cw (B9 E o.op) = false := by rw [hcl]; rfl
  rcases y5 with ⟨z1, z2⟩ | ⟨z1, z2⟩
  ·exact ⟨σ₁, by rw [← J9 (Rr := fun _ _ _ => none) hne]; exact z2⟩
  ·rw [z1] at hg; cases hg
 ·obtain ⟨y, hy, C', h1, h2, h3⟩ := he;rw [List.mem_singleton] at hy;subst hy;obtain ⟨⟨tm', nt', df', σ'⟩, eps', dl'⟩ := d;simp only at k2 k3 k6;subst k2 k3 k6;exact ⟨.normal, tm', ρ', σ', C', h1, k4, k8, h2, Nat.le_trans hB h3.next, h3.base hB⟩
def Tg (E : Env) : List Ann -> List Oper -> Nat -> Bool
 | a :: az, o :: os, c => (match a.cls with
  | .read => Nat.beq a.lo c && Nat.beq a.hi c
  | _ => true) && Tg E az os (cond (Cw (B9 E o.op)) (c + 1) c)
 | _, _, _ => true
theorem Vc {E : Env} : ∀ {az : List Ann} {os : List Oper} {c : Nat}, Tg E az os c = true -> ∀ (j : Nat) (a : Ann) (o : Oper), az[j]? = some a -> os[j]? = some o -> a.cls = .read -> a.lo = c + cnt E os j /\ a.hi = c + cnt E os j
 | a :: az, o :: os, c, h, 0, a', o', ha, ho, hc => by
  simp at ha ho; subst ha ho
  simp only [Tg, hc, Bool.and_eq_true] at h
  exact ⟨by simp only [cnt]; exact Nat.eq_of_beq_eq_true h.1.1, by simp only [cnt]; exact Nat.eq_of_beq_eq_true h.1.2⟩
 | a :: az, o :: os, c, h, j + 1, a', o', ha, ho, hc => by
  simp only [Tg, Bool.and_eq_true] at h
  have := Vc h.2 j a' o' (by simpa using ha) (by simpa using ho) hc
  simp only [cnt];cases he : Cw (B9 E o.op) with
  | true => rw [he] at this; simp only [cond_true] at this; rw [if_pos rfl]; omega
  | false => rw [he] at this; simp only [cond_false] at this; rw [if_neg (by simp)]; omega
 | [], _, _, _, _, _, _, h, _, _ => by simp at h
 | _ :: _, [], _, _, _, _, _, _, h, _ => by simp at h
def KDS (Q : Dh) : KD := fun ρ' σ' _ _ => Q .normal ρ' σ'
theorem Cq {id : Nat} {ops : Array Oper} {anns : List Ann} (hm : E.P.follows .mixedOrders = true) (hR : Bc E Rr) (ha : Mg E ops = some anns) (hp : Tg E anns ops.toList 0 = true)
  (h : TD E nt Rr ops.toList ops.toList (KDS Q) ρ σ [σ] []) : T E nt df B (.region id ops true) Q ρ σ := by
 intro C w tm a ht st hB;obtain ⟨c1, c2, c3, c4⟩ := Kc ha;obtain ⟨d, k1, k2, k3, ρ', log', k4, k5, k6⟩ := h tm df [] ht trivial;refine wp_mono (Aao hm hR st c1 c2 c3 k1 fun j o t v ho hl hcl hg σk hσ => ?_) fun e a' w' he => ?_
 ·have hann := Hn (E := E) (b := (Region.before ops).toList) (effs := Ej E ops.toList 0) ops.toList 0 j o (by simpa using ho)
  rw [← c4] at hann;simp only [Nat.zero_add] at hann
  obtain ⟨q1, q2⟩ := Vc hp j _ o hann (by simpa using ho) hcl
  simp only [Nat.zero_add, Jv] at q1 q2
  rw [q1, q2, show cnt E ops.toList j + 1 - cnt E ops.toList j = 1 by omega] at hσ
  obtain ⟨log, eps, lex, g2, g3, g4, g5⟩ := L0 k1;simp only [List.reverse_nil, List.nil_append, List.reverse_cons] at g2 g3;obtain ⟨x1, x2, x3, x4, x5⟩ := Xw lex
  obtain ⟨t', v', t₁, σ₀, σ₁, y1, y2, y3, y4, y5, y6⟩ := x5 j o (by simpa using ho)
  rw [g2] at hl;rw [hl] at y1; cases y1
  have hmem : σk = σ₀ := by
   rw [g3] at hσ;obtain ⟨i, hi⟩ := List.mem_iff_getElem?.1 hσ;rw [List.getElem?_take] at hi
   split at hi
   ·rename_i hlt
    have h0 : i = 0 := by omega
    subst h0;rw [List.getElem?_drop, Nat.add_zero] at hi;have e1 : ([σ] ++ eps)[cnt E ops.toList j]? = some σ₀ := y3;rw [e1] at hi; cases hi; rfl
   ·cases hi
  subst hmem
  have hne : Cw (B9 E o.op) = false := by rw [hcl]; rfl
  rcases y5 with ⟨z1, z2⟩ | ⟨z1, z2⟩
  ·rw [J9 hne] at z2; exact ⟨σ₁, z2⟩
  ·rw [z1] at hg; cases hg
 ·obtain ⟨y, hy, C', h1, h2, h3⟩ := he;rw [List.mem_singleton] at hy;subst hy;obtain ⟨⟨tm', nt', df', σ'⟩, eps', dl'⟩ := d;simp only at k2 k3;subst k2 k3;exact ⟨.normal, tm', ρ', σ', C', h1, k4, k6, h2, Nat.le_trans hB h3.next, h3.base hB⟩
theorem A7 {l : List (Nat × List AV × Sto × AV × Sto)} {f : Operand} {args : Array Operand} {tys : Array Nat} {k : Nat} {first cap vs : List AV} {v : AV} {σ' : Sto} (hf : A0 E ρ f = some (.fn (.func k) first cap)) (ha : K7 E ρ args.toList = some vs)
  (hr : Gf l k (first ++ vs ++ cap) σ = some (v, σ')) : Bu E (Gf l) (.call ⟨.value f, args, tys⟩) ρ σ v σ' := Aov hf ha rfl hr
theorem Ba {f : Nat} {a : List AV} {s : Sto} {v : AV} {s' : Sto} {r : List (Nat × List AV × Sto × AV × Sto)} : Gf ((f, a, s, v, s') :: r) f a s = some (v, s') := by
 simp only [Gf, and_self, if_true]
end
end Go.AM
