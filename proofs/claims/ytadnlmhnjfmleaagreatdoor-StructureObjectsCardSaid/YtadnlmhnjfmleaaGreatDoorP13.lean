/- A part of the proof; shortened by program. -/
import Derived.Test.YtadnlmhnjfmleaaGreatDoorP12
set_option maxRecDepth 100000
set_option maxHeartbeats 4000000
set_option linter.unusedSimpArgs false
set_option linter.unusedVariables false
namespace Go.AM
open Go
structure Base (E : Env) (ops : Array Oper) (nt : Nat) (df : List (Nat × List AV)) (tm₀ : Tr AV) (C₀ : Ctx) (N₀ : Nat) (w₀ : World)
  (U : Nat -> AV) (L : Nat -> Bool) (J : Sto) (C : Ctx) (w : World) (a : Act) : Prop where
 closed : Zw ops L
 sim : Sim E.P C w J
 glob : Fo C (nx J) w E
 slots : ∀ t x,Bz ops U tm₀ L ops.size t = some x -> R C (nx J) w x (a.tmps.getD t undef)
 size : a.tmps.size = nt
 dfs : DR C (nx J) w df a.defers
 ext : Ext C₀ N₀ w₀ C (nx J) w
def Conv (E : Env) (U : Nat -> AV) (J : Sto) (U' : Nat -> AV) (J' : Sto) : Prop :=
 ∀ C w,Sim E.P C w J -> ∃ C',Sim E.P C' w J' /\ Ext C (nx J) w C' (nx J') w /\ ∀ i x,R C (nx J) w (U i) x -> R C' (nx J') w (U' i) x
theorem Conv.refl {E : Env} {U U' : Nat -> AV} {J : Sto} (h : ∀ i,U i = U' i) : Conv E U J U' J := fun C _ hs => ⟨C,hs,bz_ _ _ _,fun i x hx => by rw [← h i]; exact hx⟩
abbrev gg_ := @Conv.refl
section
variable {E : Env} {ops : Array Oper} {Rr : Rec} {nt : Nat} {df : List (Nat × List AV)} {tm₀ : Tr AV} {V U U' : Nat -> AV} {C₀ C : Ctx} {N₀ : Nat} {w₀ w : World} {L : Nat -> Bool} {J J' : Sto} {a : Act}
theorem Mb {t : Nat} : ∀ {k : Nat},(∀ i,i < k -> (ops[i]?).bind (·.dst) = some t -> L i = true -> U i = U' i) -> Bz ops U tm₀ L k t = Bz ops U' tm₀ L k t
 | 0,_ => rfl
 | i + 1,h => by
  simp only [Bz];rw [Mb fun j hj => h j Om]
  by_cases hd : L i = true /\ (ops[i]?).bind (·.dst) = some t
  ·rw [if_pos hd,if_pos hd,h i Om hd.2 hd.1]
  ·rw [if_neg hd,if_neg hd]
theorem W7 {t : Nat} : ∀ (k : Nat),(∃ i,Bz ops U tm₀ L k t = some (U i) /\ Bz ops U' tm₀ L k t = some (U' i)) ∨ (Bz ops U tm₀ L k t = tm₀.get t /\ Bz ops U' tm₀ L k t = tm₀.get t)
 | 0 => .inr ⟨rfl,rfl⟩
 | i + 1 => by
  simp only [Bz]
  by_cases hd : L i = true /\ (ops[i]?).bind (·.dst) = some t
  ·rw [if_pos hd,if_pos hd]; exact .inl ⟨i,rfl,rfl⟩
  ·rw [if_neg hd,if_neg hd]; exact W7 i
theorem Base.conv (h : Base E ops nt df tm₀ C₀ N₀ w₀ U L J C w a) (hc : Conv E U J U' J') : ∃ C',Base E ops nt df tm₀ C₀ N₀ w₀ U' L J' C' w a := by
 obtain ⟨C',h1,h2,h3⟩ := hc C w h.sim;refine ⟨C',h.closed,h1,h.glob.ext h2,fun t x hx => ?_,h.size,h.dfs.ext h2,h.ext.trans h2⟩
 rcases W7 (ops := ops) (U := U) (U' := U') (tm₀ := tm₀) (L := L) (t := t) ops.size with ⟨i,e1,e2⟩ | ⟨e1,e2⟩
 ·rw [e2] at hx; cases hx;exact h3 i _ (h.slots t _ e1)
 ·rw [e2,← e1] at hx;exact R.ext h2 _ _ (h.slots t x hx)
theorem Base.congr (h : Base E ops nt df tm₀ C₀ N₀ w₀ U L J C w a) (hu : ∀ i,L i = true -> U i = U' i) : Base E ops nt df tm₀ C₀ N₀ w₀ U' L J C w a :=
 ⟨h.closed,h.sim,h.glob,fun t x hx => h.slots t x (by rw [Mb fun i _ _ hi => hu i hi]; exact hx),h.size,h.dfs,h.ext⟩
theorem Base.next (hsl : Hv ops (Region.before ops).toList = true) (iv : Base E ops nt df tm₀ C₀ N₀ w₀ U L J C w a) {j : Nat} {o : Oper} (ho : ops[j]? = some o) (hL : L j = false) (hr : ∀ i,((Region.before ops).getD j 0).testBit i = true -> L i = true)
  (hdn : ∀ d,o.dst = some d -> d < nt) {v : AV} {C' : Ctx} {w' : World} {x : Value} (hs : Sim E.P C' w' J') (he : Ext C (nx J) w C' (nx J') w') (hx : R C' (nx J') w' v x) :
  Base E ops nt df tm₀ C₀ N₀ w₀ (fun i => if i = j then v else U i) (fun i => L i || i == j) J' C' w' (a.put o.dst x) := by
 have hj := (at_.1 ho).1
 have hUL : ∀ i,L i = true -> U i = (if i = j then v else U i) := fun i hi => by
  rw [if_neg]; intro hh; subst hh; rw [hL] at hi; cases hi
 refine ⟨fun i hi k hk => ?_,hs,iv.glob.ext he,fun t y hy => ?_,?_,?_,iv.ext.trans he⟩
 ·rw [bh_] at hi ⊢
  rcases hi with hi | hi
  ·exact .inl (iv.closed i hi k hk)
  ·have : i = j := by simpa using hi
   subst this; exact .inl (hr k hk)
 ·by_cases hd : (ops[j]?).bind (·.dst) = some t
  ·have hd' : o.dst = some t := by rw [ho] at hd; exact hd
   rw [Ack hj iv.closed hL (M4 hsl ho (.inr hd')) hd] at hy;simp only [if_true] at hy;cases hy;have := hdn t hd';rw [hd']
   have : t < a.tmps.size := by rw [iv.size]; exact this
   simp [Act.put,this]; exact hx
  ·rw [Zx hd,← Mb (U := U) fun i _ _ hi => hUL i hi] at hy
   have h1 := R.ext he _ _ (iv.slots t y hy);cases hod : o.dst with
   | none => exact h1
   | some d =>
    have hne : d ≠ t := fun hh => hd (by rw [ho]; simp [hod,hh])
    simpa [Act.put,cm_ hne] using h1
 ·cases hod : o.dst <;> simp [Act.put,iv.size]
 ·have : (a.put o.dst x).defers = a.defers := by cases o.dst <;> rfl
  rw [this]; exact iv.dfs.ext he
theorem Base.step (hR : Ao E Rr) (hsl : Hv ops (Region.before ops).toList = true) (iv : Base E ops nt df tm₀ C₀ N₀ w₀ U L J C w a) {j : Nat} {o : Oper} (ho : ops[j]? = some o) (hL : L j = false) (hr : ∀ i,((Region.before ops).getD j 0).testBit i = true -> L i = true)
  (hdn : ∀ d,o.dst = some d -> d < nt) {Tj : Tr AV} (hT : ∀ t,Tj.get t = Bz ops V tm₀ (fun _ => true) j t) (hU : ∀ i,((Region.before ops).getD j 0).testBit i = true -> U i = V i) {v : AV} (h1 : Ago E ops.toList Rr o Tj J v J')
  {K : Act -> World -> Prop} {Q : Exit -> Act -> World -> Prop} (hK : ∀ C' w' a',Base E ops nt df tm₀ C₀ N₀ w₀ (fun i => if i = j then v else U i) (fun i => L i || i == j) J' C' w' a' -> K a' w') {ro : Option Nat} {n : Nat} : wpOpIn (B8 ro) n E.P ops Q j K a w := by
 have hj := (at_.1 ho).1
 have fc : ∀ t ∈ o.looksAt ops,Bz ops U tm₀ L ops.size t = Tj.get t := fun t ht => by
  have ku := M4 hsl ho (.inl ht);rw [hT,Agp Om iv.closed hL hr ku];exact Mb fun i hi hd _ => hU i ((ku i Om hd).1 hi)
 have st : SSt E C w ⟨only Tj (o.looksAt ops),nt,df,J⟩ a := ⟨iv.sim,iv.glob,fun t y hy => by
  obtain ⟨k1,k2⟩ := Pi hy
  exact iv.slots t y (by rw [fc t k1]; exact k2),iv.size,iv.dfs⟩
 have hgc : B7 ops.toList o (only Tj (o.looksAt ops)) = B7 ops.toList o Tj := Ua fun t ht => Qn ht
 have hoc : ∀ τ,opA E o.op Rr (only Tj (o.looksAt ops)) τ = opA E o.op Rr Tj τ := fun τ => Acd (Acm fun t ht => Qn ht)
 unfold wpOpIn;simp only [ho]
 rcases h1 with ⟨hg,hv⟩ | ⟨hg,hv,hJ⟩
 ·rw [← hgc] at hg;have hw := D5 (b := true) st.tmps hg;rw [if_pos hw]
  exact Qh hR st (by rw [hoc]; exact hv) fun C' w' x k1 k2 k3 => hK _ _ _ (iv.next hsl ho hL hr hdn k1 k2 k3)
 ·rw [← hgc] at hg;have hw := D5 (b := false) st.tmps hg
  rw [if_neg (by rw [hw]; simp)]
  refine ⟨fun _ _ => trivial,?_⟩
  subst hJ
  exact hK _ _ _ (iv.next hsl ho hL hr hdn iv.sim (bz_ _ _ _) (by rw [hv]; exact Pc))
theorem Arf {es D : List Nat} {k : Nat} (hc : Zw ops L) (hes : ∀ e ∈ es,L e = true ↔ e ∈ D) (hL : L k = false) (hr : ∀ i,((Region.before ops).getD k 0).testBit i = true -> L i = true) : Afy (Region.before ops).toList es D k = true := by
 unfold Afy;rw [br_];intro e he;rw [E9,E9];cases hd : D.contains e with
 | true =>
  simp only;rw [bl_];rw [bw_];intro hh
  have := hc e ((hes e he).2 (by simpa using hd)) k hh
  rw [hL] at this; cases this
 | false =>
  simp only;rw [bl_];rw [bw_];intro hh;have := (hes e he).1 (hr e hh);rw [← List.contains_iff_mem,hd] at this; cases this
structure Plan (E : Env) (ops : Array Oper) (Rr : Rec) (nt : Nat) (tm₀ : Tr AV) (es : List Nat) (V : Nat -> AV) (T : Nat -> Tr AV) (nds : List Nd) : Prop where
 slots : Hv ops (Region.before ops).toList = true
 edges : Jo ops = true
 effs : ∀ (k : Nat) (o : Oper),ops[k]? = some o -> (Bv (A5 E o.op) = true ↔ k ∈ es)
 get : ∀ k,k <= ops.size -> ∀ t,(T k).get t = Bz ops V tm₀ (fun _ => true) k t
 dst : ∀ (k : Nat) (o : Oper),ops[k]? = some o -> ∀ d,o.dst = some d -> d < nt
 sub : ∀ c ∈ nds,∀ k ∈ c.D,k ∈ es
 ov : ∀ c ∈ nds,∀ k,k ∉ c.D -> ovr c.U V k = V k
 seen : ∀ c ∈ nds,∀ k,k < ops.size -> k ∉ c.D -> Afy (Region.before ops).toList es c.D k = true -> ∀ i,((Region.before ops).getD k 0).testBit i = true -> ovr c.U V i = V i
 calm : ∀ c ∈ nds,∀ (k : Nat) (o : Oper),ops[k]? = some o -> k ∉ es -> Afy (Region.before ops).toList es c.D k = true -> Ago E ops.toList Rr o (T k) c.J (V k) c.J
 eff : ∀ c ∈ nds,∀ (k : Nat) (o : Oper),ops[k]? = some o -> k ∈ es -> k ∉ c.D -> Afy (Region.before ops).toList es c.D k = true ->
  ∃ v J' c',Ago E ops.toList Rr o (T k) c.J v J' /\ c' ∈ nds /\ (∀ e ∈ es,e ∈ c'.D ↔ e ∈ c.D ∨ e = k) /\ Conv E (fun i => if i = k then v else ovr c.U V i) J' (ovr c'.U V) c'.J
theorem Z4 {es : List Nat} {T : Nat -> Tr AV} {nds : List Nd} (hR : Ao E Rr) (pl : Plan E ops Rr nt tm₀ es V T nds) {Q : Exit -> Act -> World -> Prop}
  (hQ : ∀ c ∈ nds,∀ (L : Nat -> Bool) C w a,(∀ e ∈ es,L e = true ↔ e ∈ c.D) -> (∀ i,i < ops.size -> L i = true) -> Base E ops nt df tm₀ C₀ N₀ w₀ (ovr c.U V) L c.J C w a -> Q .normal a w) {ro : Option Nat} {n : Nat} :
  ∀ (fuel : Nat) (listed : Array Bool) (c : Nd) (C : Ctx) (w : World) (a : Act),c ∈ nds -> listed.size = ops.size -> Pj (fun i => listed.getD i false) ops.size = fuel -> (∀ e ∈ es,listed.getD e false = true ↔ e ∈ c.D) ->
   Base E ops nt df tm₀ C₀ N₀ w₀ (ovr c.U V) (fun i => listed.getD i false) c.J C w a -> wpAnyIn (B8 ro) n E.P .any ops Q fuel listed a w
 | 0,listed,c,C,w,a,hc,hs,ht,hes,iv => by
  have bt := Vt ht;refine ⟨?_,hQ c hc _ C w a hes bt iv⟩;rw [List.eq_nil_iff_forall_not_mem];intro j hj;obtain ⟨h1,o,ho,_⟩ := mem_ready.1 hj;have hlt := (at_.1 ho).1;have h2 := bt j hlt;simp only [ba_] at h1 h2
  rw [ce_ (by omega : j < listed.size)] at h1 h2
  simp only [ef_] at h1 h2;rw [h1] at h2; cases h2
 | fuel + 1,listed,c,C,w,a,hc,hs,ht,hes,iv => by
  refine ⟨fun h0 => hQ c hc _ C w a hes (Acl pl.edges hs h0) iv,fun j hj => ?_⟩
  obtain ⟨h1,o,ho,bt⟩ := mem_ready.1 hj;have hlt := (at_.1 ho).1
  have hL : listed.getD j false = false := by
   simp only [ba_] at h1 ⊢
   rw [ce_ (by omega : j < listed.size)] at h1 ⊢
   exact h1
  have hr : ∀ i,((Region.before ops).getD j 0).testBit i = true -> listed.getD i false = true := fun i hi => by
   obtain ⟨e,he,hb,h⟩ := Wz ho hi;have hon := bt e he hb
   rcases h with rfl | h
   ·exact hon
   ·exact iv.closed _ hon i h
  have hok := Arf (es := es) (D := c.D) iv.closed hes hL hr
  have hjD : j ∉ c.D := fun hh => by
   have := (hes j (pl.sub c hc j hh)).2 hh;rw [hL] at this; cases this
  have ff : (fun i => (listed.setIfInBounds j true).getD i false) = fun i => listed.getD i false || i == j := funext fun i => T9 hs hlt i
  have ie : Pj (fun i => listed.getD i false || i == j) ops.size = fuel := by
   have := Zy (L := fun i => listed.getD i false) hL hlt
   omega
  by_cases hje : j ∈ es
  ·obtain ⟨v,J',c',k1,k2,k3,k4⟩ := pl.eff c hc j o ho hje hjD hok;refine iv.step hR pl.slots ho hL hr (pl.dst j o ho) (pl.get j Om) (pl.seen c hc j hlt hjD hok) k1 fun C' w' a' iv' => ?_
   obtain ⟨C'',iv''⟩ := iv'.conv k4
   refine Z4 hR pl hQ fuel _ c' C'' w' a' k2 (by simp [hs]) (by rw [ff]; exact ie) (fun e he => ?_) (by rw [ff]; exact iv'')
   rw [T9 hs hlt,bh_,hes e he,k3 e he,beq_iff_eq]
  ·refine iv.step hR pl.slots ho hL hr (pl.dst j o ho) (pl.get j Om) (pl.seen c hc j hlt hjD hok) (pl.calm c hc j o ho hje hok) fun C' w' a' iv' => ?_
   refine Z4 hR pl hQ fuel _ c C' w' a' hc (by simp [hs]) (by rw [ff]; exact ie) (fun e he => ?_) (by
    rw [ff];refine iv'.congr fun i _ => ?_
    by_cases hij : i = j
    ·rw [if_pos hij,hij,pl.ov c hc j hjD]
    ·rw [if_neg hij])
   rw [T9 hs hlt,bh_,hes e he,beq_iff_eq]
   constructor
   ·rintro (h | h)
    ·exact h
    ·subst h; exact absurd he hje
   ·exact .inl
theorem Ag1 {es : List Nat} {T : Nat -> Tr AV} {nds : List Nd} {s s' : St} {id : Nat} (hm : E.P.follows .mixedOrders = true) (hR : Ao E Rr) (st : SSt E C w s a) (pl : Plan E ops Rr s.nt s.tm es V T nds)
  (h0 : (⟨[],s.sto,[]⟩ : Nd) ∈ nds) (hf : ∀ c ∈ nds,(∀ e ∈ es,e ∈ c.D) -> (∀ k,ovr c.U V k = V k) /\ c.J = s'.sto) (ht : s'.tm = T ops.size) (hn : s'.nt = s.nt) (hdf : s'.df = s.df) (ip : ∀ e ∈ es,e < ops.size) {ro : Option Nat} {n : Nat} :
  (Code.region id ops true).wpIn (B8 ro) n E.P (H7 E C (nx s.sto) w [(.normal,s')]) a w := by
 refine wpIn_region_any hm ?_;obtain ⟨t1,t2⟩ := st.sim.same (w' := { w with drawn := w.drawn + 1 }) nl (fun _ _ => rfl) ⟨rfl,rfl⟩
 have ct : ∀ i,(Array.replicate ops.size false).getD i false = false := fun i => by
  rw [ba_,Array.getElem?_replicate]; split <;> rfl
 refine Z4 (C₀ := C) (N₀ := nx s.sto) (w₀ := w) (df := s.df) hR pl (fun c hc L C' w' a' hes bt iv => ?_) ops.size _ ⟨[],s.sto,[]⟩ C _ a h0 (by simp) (Qo ct) (fun e _ => ?_) ?_
 ·obtain ⟨q1,q2⟩ := hf c hc fun e he => (hes e he).1 (bt e (ip e he))
  refine ⟨(.normal,s'),bj_ _,C',rfl,?_,by rw [← q2]; exact iv.ext⟩
  refine ⟨by rw [← q2]; exact iv.sim,by rw [← q2]; exact iv.glob,fun t x hx => ?_,by rw [hn]; exact iv.size,by rw [hdf,← q2]; exact iv.dfs⟩
  rw [← q2];refine iv.slots t x ?_;rw [← hx,ht,pl.get ops.size nl,Mb (U' := V) fun i _ _ _ => q1 i]
  exact Gw fun i hi _ => bt i hi
 ·rw [ct]; simp
 ·refine ⟨fun j hj => ?_,t1,st.glob.ext t2,fun t x hx => ?_,st.size,st.dfs.ext t2,t2⟩
  ·rw [ct] at hj; cases hj
  ·refine R.ext t2 _ _ (st.tmps t x ?_);rw [← hx,Ga (k := 0) (ca_ _) fun i _ _ _ => ct i]; rfl
end
section
variable {E : Env} {Rr : Rec} {J τ : Sto} {tm : Tr AV}
theorem Pn {t : Nat} {x y : Operand} {v : AV} {J' : Sto} (h : opA E (.makeSlice t x y) Rr tm J = some (v,J')) :
  ∃ sz l c A,v = .sr (nx J) 0 sz l c /\ J' = J.new (.cells A) /\ ∀ τ,opA E (.makeSlice t x y) Rr tm τ = some (.sr (nx τ) 0 sz l c,τ.new (.cells A)) := by
 simp only [opA,Ar] at h ⊢
 repeat' split at h
 all_goals try (cases h; done)
 all_goals
  unfold Mk at h ⊢
  split at h
  ·rename_i l c hl hc
   cases hb : (Nat.ble l c && Nat.ble (c * (_ + 1)) sizeLim) with
   | false => rw [hb] at h; cases h
   | true => rw [hb] at h; cases h; exact ⟨_,_,_,_,rfl,rfl,fun τ => by simp only [hb,cond_true]⟩
  ·cases h
def H3 (C : Ctx) (n a b : Nat) : Ctx := { C with loc := fun x => if x = n + 2 then C.loc a else if x = n + 3 then C.loc b else if x = n ∨ x = n + 1 then none else C.loc x }
theorem Conv.rename {A B : List AV} {a b : Nat} {U V : Nat -> AV} {ρ : Sto} (hab : (a = nx J /\ b = nx J + 1) ∨ (a = nx J + 1 /\ b = nx J)) (hn : nx τ = nx J + 2) (hr : nx ρ = nx J + 4)
  (ha : τ.get a = some (.cells A)) (hb : τ.get b = some (.cells B))
  (hg : ∀ x,ρ.get x = if x = nx J + 3 then some (.cells B) else if x = nx J + 2 then some (.cells A) else if x = nx J ∨ x = nx J + 1 then none else τ.get x)
  (hU : ∀ x,U x = V x ∨ (∃ sz l c,U x = .sr a 0 sz l c /\ V x = .sr (nx J + 2) 0 sz l c) ∨ (∃ sz l c,U x = .sr b 0 sz l c /\ V x = .sr (nx J + 3) 0 sz l c)) : Conv E U τ V ρ := by
 intro C w h
 have l2 : (H3 C (nx J) a b).loc (nx J + 2) = C.loc a := by simp [H3]
 have l3 : (H3 C (nx J) a b).loc (nx J + 3) = C.loc b := by simp [H3]
 have l0 : ∀ x,x = nx J ∨ x = nx J + 1 -> (H3 C (nx J) a b).loc x = none := fun x hx => by
  simp only [H3]; rw [if_neg Om,if_neg Om,if_pos hx]
 have lo : ∀ x,x ≠ nx J + 2 -> x ≠ nx J + 3 -> ¬ (x = nx J ∨ x = nx J + 1) -> (H3 C (nx J) a b).loc x = C.loc x := fun x h1 h2 h3 => by
  simp only [H3]; rw [if_neg h1,if_neg h2,if_neg h3]
 have back : ∀ x p,(H3 C (nx J) a b).loc x = some p -> ∃ y,C.loc y = some p := fun x p hx => by
  by_cases h1 : x = nx J + 2
  ·subst h1; rw [l2] at hx; exact ⟨a,hx⟩
  ·by_cases h2 : x = nx J + 3
   ·subst h2; rw [l3] at hx; exact ⟨b,hx⟩
   ·by_cases h3 : x = nx J ∨ x = nx J + 1
    ·rw [l0 x h3] at hx; cases hx
    ·rw [lo x h1 h2 h3] at hx; exact ⟨x,hx⟩
 have n8 : ∀ x p,nx τ <= x -> C.loc x = some p -> False := fun x p hx hl => by
  obtain ⟨O,h1,_⟩ := h.dom x p hl;have := h.bound x O h1; omega
 have e : Ext C (nx τ) w (H3 C (nx J) a b) (nx ρ) w := ⟨by omega,nl,
  fun q _ ho => ⟨fun hh => hh.elim (fun hr => ho (.inl hr)) fun ⟨x,o,hx⟩ => by
   obtain ⟨y,hy⟩ := back x _ hx;exact ho (.inr ⟨y,o,hy⟩),rfl⟩,
  fun x hx p hp => by
   by_cases h3 : x = nx J ∨ x = nx J + 1
   ·rw [l0 x h3] at hp; cases hp
   ·rw [lo x Om Om h3] at hp; exact hp,
  fun _ _ => rfl,fun _ _ => rfl,fun _ _ _ _ _ => rfl,⟨rfl,fun _ _ => rfl⟩,rfl,rfl⟩
 have cells : ∀ y D,τ.get y = some (.cells D) -> ∀ x,(H3 C (nx J) a b).loc x = C.loc y -> OR E.P (H3 C (nx J) a b) w ρ x (.cells D) := fun y D hy x hx => by
  obtain ⟨c,o,cs,T,h1,h2,h3⟩ := h.obj y _ hy
  exact ⟨c,o,cs,T,by rw [hx]; exact h1,h2,gd_ e c rfl D o h3⟩
 refine ⟨H3 C (nx J) a b,⟨fun x X hx => ?_,fun x X hx => ?_,fun x p hp => ?_,fun x y c o o' hx hy => ?_,fun x c o hx => ?_,h.rlt,fun x c o hx hr' => ?_⟩,e,fun i x hx => ?_⟩
 ·rw [hg] at hx
  by_cases h1 : x = nx J + 3
  ·rw [if_pos h1] at hx; cases hx; subst h1; exact cells b B hb _ l3
  ·rw [if_neg h1] at hx
   by_cases h2 : x = nx J + 2
   ·rw [if_pos h2] at hx; cases hx; subst h2; exact cells a A ha _ l2
   ·rw [if_neg h2] at hx
    by_cases h3 : x = nx J ∨ x = nx J + 1
    ·rw [if_pos h3] at hx; cases hx
    ·rw [if_neg h3] at hx;refine (h.obj x X hx).ext e (h.bound x X hx) (lo x h2 h1 h3) (fun _ _ _ => rfl) fun m hm kt es' v' hg' => ?_
     rw [hg,if_neg Om,if_neg Om] at hg'
     by_cases h4 : m = nx J ∨ m = nx J + 1
     ·rw [if_pos h4] at hg'; cases hg'
     ·rw [if_neg h4] at hg';exact ⟨kt,es',v',hg',nl,fun _ => ⟨lo m Om Om h4,fun _ _ _ => rfl⟩⟩
 ·rw [hg] at hx
  by_cases h1 : x = nx J + 3
  ·omega
  ·rw [if_neg h1] at hx
   by_cases h2 : x = nx J + 2
   ·omega
   ·rw [if_neg h2] at hx
    by_cases h3 : x = nx J ∨ x = nx J + 1
    ·rw [if_pos h3] at hx; cases hx
    ·rw [if_neg h3] at hx; have := h.bound x X hx; omega
 ·by_cases h1 : x = nx J + 3
  ·exact ⟨.cells B,by rw [hg,if_pos h1],rfl⟩
  ·by_cases h2 : x = nx J + 2
   ·exact ⟨.cells A,by rw [hg,if_neg h1,if_pos h2],rfl⟩
   ·by_cases h3 : x = nx J ∨ x = nx J + 1
    ·rw [l0 x h3] at hp; cases hp
    ·rw [lo x h2 h1 h3] at hp;obtain ⟨O,k1,k2⟩ := h.dom x p hp
     exact ⟨O,by rw [hg,if_neg h1,if_neg h2,if_neg h3]; exact k1,k2⟩
 ·have key : ∀ x p,(H3 C (nx J) a b).loc x = some p -> (x = nx J + 2 /\ C.loc a = some p) ∨ (x = nx J + 3 /\ C.loc b = some p) ∨ (C.loc x = some p /\ x < nx J) := fun x p hx => by
   by_cases h1 : x = nx J + 2
   ·subst h1; rw [l2] at hx; exact .inl ⟨rfl,hx⟩
   ·by_cases h2 : x = nx J + 3
    ·subst h2; rw [l3] at hx; exact .inr (.inl ⟨rfl,hx⟩)
    ·by_cases h3 : x = nx J ∨ x = nx J + 1
     ·rw [l0 x h3] at hx; cases hx
     ·rw [lo x h1 h2 h3] at hx;refine .inr (.inr ⟨hx,?_⟩)
      rcases Nat.lt_or_ge x (nx τ) with hlt | hge
      ·omega
      ·exact (n8 x p hge hx).elim
  rcases key x _ hx with ⟨e1,k1⟩ | ⟨e1,k1⟩ | ⟨k1,e1⟩ <;> rcases key y _ hy with ⟨e2,k2⟩ | ⟨e2,k2⟩ | ⟨k2,e2⟩ <;> have := h.inj _ _ _ _ _ k1 k2 <;> omega
 ·obtain ⟨y,hy⟩ := back x _ hx; exact h.lt y c o hy
 ·obtain ⟨y,hy⟩ := back x _ hx; exact h.rdis y c o hy hr'
 ·rcases hU i with h1 | ⟨sz,l,c,h1,h2⟩ | ⟨sz,l,c,h1,h2⟩
  ·rw [← h1]; exact R.ext e _ _ hx
  ·rw [h1] at hx; rw [h2];unfold R at hx ⊢;obtain ⟨ad,k,q1,q2,q3,q4,q5⟩ := hx
   exact ⟨ad,k,q1,by omega,q3,q4,fun c o hc => q5 c o (by rw [← l2]; exact hc)⟩
  ·rw [h1] at hx; rw [h2];unfold R at hx ⊢;obtain ⟨ad,k,q1,q2,q3,q4,q5⟩ := hx
   exact ⟨ad,k,q1,by omega,q3,q4,fun c o hc => q5 c o (by rw [← l3]; exact hc)⟩
theorem Tr.put_mkL {α : Type} {f k : Nat} {x : Option α} {v : Option α} {l r : Tr α} : Tr.mkL v l r = .n v l r := by cases l <;> rfl
theorem Tr.put_mkR {α : Type} {v : Option α} {l r : Tr α} : Tr.mkR v l r = .n v l r := by cases r <;> rfl
theorem Tr.put_comm {α : Type} : ∀ (f g : Nat) (t : Tr α) (a b : Nat) (x y : Option α),a ≠ b -> a < f -> b < g -> (t.put f a x).put g b y = (t.put g b y).put f a x
 | 0,_,_,_,_,_,_,_,h,_ => by omega
 | _ + 1,0,_,_,_,_,_,_,_,h => by omega
 | f + 1,g + 1,t,a,b,x,y,hne,ha,hb => by
  have kh : ∀ {c d : Nat},c + 1 < d + 1 -> c / 2 < d := fun h => by omega
  cases a with
  | zero =>
   cases b with
   | zero => exact absurd rfl hne
   | succ b =>
    cases hb2 : Nat.beq (b % 2) 0 <;> cases t <;> simp only [Tr.put,hb2,cond_true,cond_false,Tr.put_mkL (f := 0) (k := 0) (x := none),Tr.put_mkR]
  | succ a =>
   cases b with
   | zero =>
    cases ha2 : Nat.beq (a % 2) 0 <;> cases t <;> simp only [Tr.put,ha2,cond_true,cond_false,Tr.put_mkL (f := 0) (k := 0) (x := none),Tr.put_mkR]
   | succ b =>
    have hd : Nat.beq (a % 2) 0 = Nat.beq (b % 2) 0 -> a / 2 ≠ b / 2 := fun h he => by
     have h1 : a % 2 = 0 ↔ b % 2 = 0 := ⟨fun q => aa_ (by rw [← h,q]; rfl),fun q => aa_ (by rw [h,q]; rfl)⟩
     omega
    cases ha2 : Nat.beq (a % 2) 0 <;> cases hb2 : Nat.beq (b % 2) 0 <;> cases t <;> simp only [Tr.put,ha2,hb2,cond_true,cond_false,Tr.put_mkL (f := 0) (k := 0) (x := none),Tr.put_mkR]
    all_goals try rfl
    all_goals rw [Tr.put_comm f g _ _ _ x y (hd (by rw [ha2,hb2])) (kh ha) (kh hb)]
theorem Sto.set_comm {a b : Nat} {x y : AO} (h : a ≠ b) : (J.set a x).set b y = (J.set b y).set a x := by
 cases J;simp only [Sto.set,Dq];rw [Tr.put_comm _ _ _ _ _ _ _ h (bo_ _) (bo_ _)]
theorem Z5 {t : Nat} {x y : Operand} {v : AV} {J' : Sto} {a off : Nat} (hx : opd E tm x = .pr a off) (h : opA E (.store t x y) Rr tm J = some (v,J')) :
  v = An /\ ∃ vs D,J.get a = some (.cells vs) /\ J' = J.set a (.cells D) /\ ∀ τ,τ.get a = some (.cells vs) -> opA E (.store t x y) Rr tm τ = some (An,τ.set a (.cells D)) := by
 simp only [opA,Ar] at h ⊢
 split at h
 ·rename_i ti hti
  rw [hx] at h;unfold Uy at h
  split at h
  ·rename_i a' off' l hp hl
   cases hp
   split at h
   ·rename_i vs hvs
    split at h
    ·rename_i D hD
     cases h
     have hg : J.get a = some (.cells vs) := by
      unfold Sto.cells at hvs
      split at hvs
      ·rename_i us hus; cases hvs; exact hus
      ·cases hvs
     refine ⟨rfl,vs,D,hg,rfl,fun τ hτ => ?_⟩
     rw [hx];unfold Uy;simp only [hl,Sto.cells,hτ,hD]
    ·cases h
   ·cases h
  ·cases h
 ·cases h
end
section
variable {E : Env} {ops : List Oper} {Rr : Rec} {T : Nat -> Tr AV} {V : Nat -> AV}
theorem Ud {o : Oper} {tm : Tr AV} {J J' : Sto} {v : AV} (h : Al1 E ops Rr o tm J = some (v,J')) : B7 ops o tm = some true /\ opA E o.op Rr tm J = some (v,J') := by
 unfold Al1 at h
 split at h
 ·rename_i hg; exact ⟨hg,h⟩
 ·cases h
def Sh (E : Env) (ops : List Oper) (Rr : Rec) (T : Nat -> Tr AV) (V : Nat -> AV) (P : Nd -> Prop) (c : Nd) (next : List Nat) : Prop := ∀ e ∈ next,∃ o v J' c',ops[e]? = some o /\ Ago E ops Rr o (T e) c.J v J' /\ P c' /\
 (∀ x,x ∈ c'.D ↔ x ∈ c.D ∨ x = e) /\ Conv E (fun i => if i = e then v else ovr c.U V i) J' (ovr c'.U V) c'.J
theorem Sh.mono {P P' : Nd -> Prop} {c : Nd} {next : List Nat} (h : Sh E ops Rr T V P c next) (hp : ∀ c,P c -> P' c) : Sh E ops Rr T V P' c next := fun e he => by
 obtain ⟨o,v,J',c',h1,h2,h3,h4⟩ := h e he;exact ⟨o,v,J',c',h1,h2,hp _ h3,h4⟩
theorem Ag2 {e : Nat} {J J' : Sto} {D : List Nat} (h : Aee E ops Rr T V e J = some J') {P : Nd -> Prop} (hp : P ⟨e :: D,J',[]⟩) : Sh E ops Rr T V P ⟨D,J,[]⟩ [e] := by
 unfold Aee at h
 split at h
 ·rename_i o ho
  split at h
  ·rename_i v τ hv
   cases hb : AV.beq (V e) v with
   | false => rw [hb] at h; cases h
   | true =>
    rw [hb] at h; cases h;have := AV.beq_eq _ _ hb;obtain ⟨g1,g2⟩ := Ud hv;intro x hx;rw [an_] at hx; subst hx
    refine ⟨o,v,J',_,ho,.inl ⟨g1,g2⟩,hp,fun y => by simp [or_comm],gg_ fun i => ?_⟩
    by_cases hi : i = x
    ·rw [if_pos hi,← this,hi]; rfl
    ·rw [if_neg hi]
  ·cases h
 ·cases h
theorem Arg {i j : Nat} {J J' : Sto} {D : List Nat} {l : NL} (h : Aed E ops Rr T V i j D J = some (l,J')) {P : Nd -> Prop} (hp : P ⟨j :: i :: D,J',[]⟩) (hq : ∀ x ∈ l,P x.1) :
  (⟨D,J,[]⟩ : Nd) ∈ l.map (·.1) /\ (∀ x ∈ l,Sh E ops Rr T V P x.1 x.2) /\ ∀ x ∈ l,(∀ k ∈ x.1.D,k ∈ D ∨ k = i ∨ k = j) /\ (x.1.U = [] ∨ ∃ p v,x.1.U = [(p,v)] /\ p ∈ x.1.D) := by
 unfold Aed at h
 split at h
 ·rename_i oi oj hoi hoj
  split at h
  ·rename_i v1 Ji v3 Jj h1 h3
   obtain ⟨gi,h1⟩ := Ud h1;obtain ⟨gj,h3⟩ := Ud h3
   split at h
   ·rename_i ti xi yi tj xj yj ei ej
    rw [ei] at h1; rw [ej] at h3;obtain ⟨s1,l1,c1,A,rfl,rfl,k1⟩ := Pn h1;obtain ⟨s2,l2,c2,B,rfl,rfl,k2⟩ := Pn h3;simp only at h;rw [ab_,if_pos rfl,ab_,if_pos rfl] at h;simp only at h;cases hb : (!Nat.beq i j && AV.beq (V i) (.sr (nx J + 2) 0 s1 l1 c1) && AV.beq (V j) (.sr (nx J + 3) 0 s2 l2 c2)) with
    | false => rw [hb] at h; cases h
    | true =>
     rw [hb] at h; cases h;simp only [ae_,bl_] at hb;obtain ⟨⟨b0,b1⟩,b2⟩ := hb
     have hij : i ≠ j := fun hh => by rw [hh,bm_] at b0; cases b0
     have b1 := AV.beq_eq _ _ b1;have b2 := AV.beq_eq _ _ b2
     have g1 : ∀ (A B : List AV) x,((J.new (.cells A)).new (.cells B)).get x = if x = nx J + 1 then some (.cells B) else if x = nx J then some (.cells A) else J.get x := fun A B x => by rw [ab_,ab_,Ac]
     have hge : ∀ x,((((((J.new (.cells A)).new (.cells B)).kill (nx J)).kill (nx J + 1)).new (.cells A)).new (.cells B)).get x = if x = nx J + 3 then some (.cells B) else if x = nx J + 2 then some (.cells A) else if x = nx J ∨ x = nx J + 1 then none else J.get x := fun x => by
      rw [ab_,ab_,db_,db_,g1];simp only [Ac,By]
      by_cases q1 : x = nx J + 3
      ·rw [if_pos Om,if_pos q1]
      ·rw [if_neg Om,if_neg q1]
       by_cases q2 : x = nx J + 2
       ·rw [if_pos Om,if_pos q2]
       ·rw [if_neg Om,if_neg q2]
        by_cases q3 : x = nx J + 1
        ·rw [if_pos q3,if_pos (.inr q3)]
        ·rw [if_neg q3,if_neg q3]
         by_cases q4 : x = nx J
         ·rw [if_pos q4,if_pos (.inl q4)]
         ·rw [if_neg q4,if_neg q4,if_neg (by omega : ¬ (x = nx J ∨ x = nx J + 1))]
     have hnr : nx ((((((J.new (.cells A)).new (.cells B)).kill (nx J)).kill (nx J + 1)).new (.cells A)).new (.cells B)) = nx J + 4 := by simp only [Ac,By]
     refine ⟨by simp,fun x hx => ?_,fun x hx => ?_⟩
     ·simp only [ai_,d_,or_false] at hx
      rcases hx with rfl | rfl | rfl
      ·intro e he;simp only [ai_,d_,or_false] at he
       rcases he with rfl | rfl
       ·exact ⟨oi,_,_,⟨e :: D,J.new (.cells A),[(e,.sr (nx J) 0 s1 l1 c1)]⟩,hoi,.inl ⟨gi,by rw [ei]; exact h1⟩,hq (⟨e :: D,J.new (.cells A),[(e,.sr (nx J) 0 s1 l1 c1)]⟩,[j]) (by simp),fun y => by simp [or_comm],gg_ fun _ => rfl⟩
       ·exact ⟨oj,_,_,⟨e :: D,J.new (.cells B),[(e,.sr (nx J) 0 s2 l2 c2)]⟩,hoj,.inl ⟨gj,by rw [ej]; exact h3⟩,hq (⟨e :: D,J.new (.cells B),[(e,.sr (nx J) 0 s2 l2 c2)]⟩,[i]) (by simp),fun y => by simp [or_comm],gg_ fun _ => rfl⟩
      ·intro e he;rw [an_] at he; subst he
       refine ⟨oj,_,_,_,hoj,.inl ⟨gj,by rw [ej]; exact k2 _⟩,hp,fun y => by simp [or_comm],Conv.rename (J := J) (A := A) (B := B) (a := nx J) (b := nx J + 1) (.inl ⟨rfl,rfl⟩) (by simp only [Ac]) hnr (by rw [g1,if_neg Om,if_pos rfl]) (by rw [g1,if_pos rfl]) (fun x => ?_) fun x => ?_⟩
       ·rw [hge]
        by_cases q : x = nx J ∨ x = nx J + 1
        ·rw [if_pos q,if_pos q]
        ·rw [if_neg q,if_neg q,show ((J.new (.cells A)).new (.cells B)).get x = J.get x from by rw [g1,if_neg Om,if_neg Om]]
       ·show (if x = e then _ else ovr [(i,_)] V x) = V x ∨ _
        by_cases q1 : x = e
        ·rw [if_pos q1]; refine .inr (.inr ⟨s2,l2,c2,by rw [Ac],?_⟩); rw [q1]; exact b2
        ·rw [if_neg q1]
         by_cases q2 : x = i
         ·refine .inr (.inl ⟨s1,l1,c1,?_,?_⟩)
          ·show (if x = i then _ else _) = _; rw [if_pos q2]
          ·rw [q2]; exact b1
         ·left; show (if x = i then _ else _) = _; rw [if_neg q2]
      ·intro e he;rw [an_] at he; subst he
       refine ⟨oi,_,_,_,hoi,.inl ⟨gi,by rw [ei]; exact k1 _⟩,hp,fun y => by simp [or_left_comm,or_comm],Conv.rename (J := J) (A := A) (B := B) (a := nx J + 1) (b := nx J) (.inr ⟨rfl,rfl⟩) (by simp only [Ac]) hnr (by rw [g1,if_pos rfl]) (by rw [g1,if_neg Om,if_pos rfl]) (fun x => ?_) fun x => ?_⟩
       ·rw [hge]
        by_cases q : x = nx J ∨ x = nx J + 1
        ·rw [if_pos q,if_pos q]
        ·rw [if_neg q,if_neg q,show ((J.new (.cells B)).new (.cells A)).get x = J.get x from by rw [g1,if_neg Om,if_neg Om]]
       ·show (if x = e then _ else ovr [(j,_)] V x) = V x ∨ _
        by_cases q1 : x = e
        ·rw [if_pos q1]; refine .inr (.inl ⟨s1,l1,c1,by rw [Ac],?_⟩); rw [q1]; exact b1
        ·rw [if_neg q1]
         by_cases q2 : x = j
         ·refine .inr (.inr ⟨s2,l2,c2,?_,?_⟩)
          ·show (if x = j then _ else _) = _; rw [if_pos q2]
          ·rw [q2]; exact b2
         ·left; show (if x = j then _ else _) = _; rw [if_neg q2]
     ·simp only [ai_,d_,or_false] at hx
      rcases hx with rfl | rfl | rfl
      ·exact ⟨fun k hk => .inl hk,.inl rfl⟩
      ·exact ⟨fun k hk => by rcases ai_.1 hk with h | h; exact .inr (.inl h); exact .inl h,.inr ⟨i,_,rfl,by simp⟩⟩
      ·exact ⟨fun k hk => by rcases ai_.1 hk with h | h; exact .inr (.inr h); exact .inl h,.inr ⟨j,_,rfl,by simp⟩⟩
   ·rename_i ti xi yi tj xj yj ei ej
    rw [ei] at h1; rw [ej] at h3
    split at h
    ·rename_i a oa b ob ha hb'
     cases hb : (!Nat.beq i j && !Nat.beq a b && AV.beq (V i) An && AV.beq (V j) An) with
     | false => rw [hb] at h; cases h
     | true =>
      rw [hb] at h;simp only [cond_true] at h;simp only [ae_,bl_] at hb;obtain ⟨⟨⟨b0,b3⟩,b1⟩,b2⟩ := hb
      have hab : a ≠ b := fun hh => by rw [hh,bm_] at b3; cases b3
      have b1 := AV.beq_eq _ _ b1;have b2 := AV.beq_eq _ _ b2
      split at h
      ·rename_i v2 Jij h2
       cases h;obtain ⟨_,h2⟩ := Ud h2;rw [ej] at h2;obtain ⟨rfl,vs,X,p1,rfl,p2⟩ := Z5 ha h1;obtain ⟨rfl,us,Y,r1,rfl,r2⟩ := Z5 hb' h3
       have h2' := r2 (J.set a (.cells X)) (by rw [a_,if_neg (go_ hab)]; exact r1)
       rw [h2'] at h2;cases h2
       have hcv : ∀ (k : Nat) (hk : V k = An),Conv E (fun x => if x = k then An else ovr [] V x) ((J.set a (.cells X)).set b (.cells Y)) (ovr [] V) ((J.set a (.cells X)).set b (.cells Y)) := fun k hk => gg_ fun x => by
        by_cases q : x = k
        ·rw [if_pos q,q]; exact hk.symm
        ·rw [if_neg q]
       have iq : ∀ (k : Nat) (hk : V k = An) (τ : Sto),Conv E (fun x => if x = k then An else ovr [] V x) τ (ovr [] V) τ := fun k hk τ => gg_ fun x => by
        by_cases q : x = k
        ·rw [if_pos q,q]; exact hk.symm
        ·rw [if_neg q]
       refine ⟨by simp,fun x hx => ?_,fun x hx => ?_⟩
       ·simp only [ai_,d_,or_false] at hx
        rcases hx with rfl | rfl | rfl
        ·intro e he;simp only [ai_,d_,or_false] at he
         rcases he with rfl | rfl
         ·exact ⟨oi,_,_,⟨e :: D,J.set a (.cells X),[]⟩,hoi,.inl ⟨gi,by rw [ei]; exact h1⟩,hq (⟨e :: D,J.set a (.cells X),[]⟩,[j]) (by simp),fun y => by simp [or_comm],iq _ b1 _⟩
         ·exact ⟨oj,_,_,⟨e :: D,J.set b (.cells Y),[]⟩,hoj,.inl ⟨gj,by rw [ej]; exact h3⟩,hq (⟨e :: D,J.set b (.cells Y),[]⟩,[i]) (by simp),fun y => by simp [or_comm],iq _ b2 _⟩
        ·intro e he;rw [an_] at he; subst he
         exact ⟨oj,_,_,_,hoj,.inl ⟨gj,by rw [ej]; exact h2'⟩,hp,fun y => by simp [or_comm],iq _ b2 _⟩
        ·intro e he;rw [an_] at he; subst he
         refine ⟨oi,An,_,_,hoi,.inl ⟨gi,by rw [ei]; exact p2 (J.set b (.cells Y)) (by rw [a_,if_neg hab]; exact p1)⟩,hp,fun y => by simp [or_left_comm,or_comm],?_⟩
         rw [← Sto.set_comm hab];exact iq _ b1 _
       ·simp only [ai_,d_,or_false] at hx
        rcases hx with rfl | rfl | rfl
        ·exact ⟨fun k hk => .inl hk,.inl rfl⟩
        ·exact ⟨fun k hk => by rcases ai_.1 hk with h | h; exact .inr (.inl h); exact .inl h,.inl rfl⟩
        ·exact ⟨fun k hk => by rcases ai_.1 hk with h | h; exact .inr (.inr h); exact .inl h,.inl rfl⟩
      ·cases h
    ·cases h
   ·cases h
  ·cases h
 ·cases h
end
section
variable {E : Env} {ops : List Oper} {Rr : Rec} {T : Nat -> Tr AV} {V : Nat -> AV} {b : List Nat}
structure As7 (E : Env) (ops : List Oper) (Rr : Rec) (T : Nat -> Tr AV) (V : Nat -> AV) (es D : List Nat) (J : Sto) (nl : NL) (nf : Nd) : Prop where
 hd : (⟨D,J,[]⟩ : Nd) ∈ nl.map (·.1) ++ [nf]
 ok : ∀ x ∈ nl,Sh E ops Rr T V (· ∈ nl.map (·.1) ++ [nf]) x.1 x.2
 sub : ∀ c ∈ nl.map (·.1) ++ [nf],(∀ k ∈ c.D,k ∈ D ∨ k ∈ es) /\ (c.U = [] ∨ ∃ p v,c.U = [(p,v)] /\ p ∈ c.D)
 fin : nf.U = []
theorem Z6 : ∀ (es D : List Nat) (J : Sto) (nl : NL) (nf : Nd),Ym E ops Rr T V b es D J = some (nl,nf) -> As7 E ops Rr T V es D J nl nf
 | [],D,J,nl,nf,h => by
  simp only [Ym,ac_,ax_] at h;obtain ⟨rfl,rfl⟩ := h
  exact ⟨by simp,fun x hx => (by cases hx),fun c hc => by simp at hc; subst hc; exact ⟨fun k hk => .inl hk,.inl rfl⟩,rfl⟩
 | [e],D,J,nl,nf,h => by
  simp only [Ym] at h
  split at h
  ·rename_i J' hc
   simp only [ac_,ax_] at h;obtain ⟨rfl,rfl⟩ := h
   refine ⟨by simp,fun x hx => ?_,fun c hc => ?_,rfl⟩
   ·rw [an_] at hx; subst hx
    exact Ag2 hc (by simp)
   ·simp only [cd_,f_,av_,bt_,ai_,d_,or_false] at hc
    rcases hc with rfl | rfl
    ·exact ⟨fun k hk => .inl hk,.inl rfl⟩
    ·exact ⟨fun k hk => by rcases ai_.1 hk with h | h; exact .inr (by rw [h]; simp); exact .inl h,.inl rfl⟩
  ·cases h
 | e :: j :: r,D,J,nl,nf,h => by
  rw [Ym] at h
  split at h
  ·split at h
   ·rename_i J' hc
    split at h
    ·rename_i m nf' hm
     simp only [ac_,ax_] at h;obtain ⟨rfl,rfl⟩ := h;have w := Z6 (j :: r) (e :: D) J' m nf' hm
     refine ⟨by simp,fun x hx => ?_,fun c hc => ?_,w.fin⟩
     ·rcases ai_.1 hx with rfl | hx
      ·exact Ag2 hc (by simp only [cd_,av_]; exact am_ _ w.hd)
      ·exact (w.ok x hx).mono fun c hc => by simp only [cd_,av_]; exact am_ _ hc
     ·simp only [cd_,av_] at hc
      rcases ai_.1 hc with rfl | hc
      ·exact ⟨fun k hk => .inl hk,.inl rfl⟩
      ·obtain ⟨h1,h2⟩ := w.sub c hc;refine ⟨fun k hk => ?_,h2⟩
       rcases h1 k hk with h | h
       ·rcases ai_.1 h with h | h
        ·exact .inr (by rw [h]; simp)
        ·exact .inl h
       ·exact .inr (am_ _ h)
    ·cases h
   ·cases h
  ·split at h
   ·rename_i l J' hp
    split at h
    ·rename_i m nf' hm
     simp only [ac_,ax_] at h;obtain ⟨rfl,rfl⟩ := h;have w := Z6 r (j :: e :: D) J' m nf' hm
     obtain ⟨p1,p2,p3⟩ := Arg (P := (· ∈ (l ++ m).map (·.1) ++ [nf'])) hp (by rw [ci_,bu_]; exact dz_ _ w.hd) (fun x hx => by
      rw [ci_,bu_]; exact cu_ _ (ck_ hx))
     refine ⟨by rw [ci_,bu_]; exact cu_ _ p1,fun x hx => ?_,fun c hc => ?_,w.fin⟩
     ·rcases bq_.1 hx with hx | hx
      ·exact p2 x hx
      ·exact (w.ok x hx).mono fun c hc => by rw [ci_,bu_]; exact dz_ _ hc
     ·rw [ci_,bu_] at hc
      rcases bq_.1 hc with hc | hc
      ·obtain ⟨x,hx,rfl⟩ := cf_.1 hc;obtain ⟨h1,h2⟩ := p3 x hx;refine ⟨fun k hk => ?_,h2⟩
       rcases h1 k hk with h | h | h
       ·exact .inl h
       ·exact .inr (by rw [h]; simp)
       ·exact .inr (by rw [h]; simp)
      ·obtain ⟨h1,h2⟩ := w.sub c hc;refine ⟨fun k hk => ?_,h2⟩
       rcases h1 k hk with h | h
       ·rcases ai_.1 h with h | h
        ·exact .inr (by rw [h]; simp)
        ·rcases ai_.1 h with h | h
         ·exact .inr (by rw [h]; simp)
         ·exact .inl h
       ·exact .inr (am_ _ (am_ _ h))
    ·cases h
   ·cases h
end
theorem Acw {nt : Nat} : ∀ {ops : List Oper} {vl : List AV} {tm : Tr AV} {tl : List (Tr AV)},Aim nt ops vl tm = some tl -> tl.getD 0 .e = tm /\
  ∀ k o,ops[k]? = some o -> Hu o.dst (tl.getD k .e) nt (vl.getD k .any) = some (tl.getD (k + 1) .e)
 | [],[],tm,tl,h => by simp only [Aim,ac_] at h; subst h; exact ⟨rfl,fun k o h => by simp at h⟩
 | o :: r,v :: vs,tm,tl,h => by
  simp only [Aim] at h
  split at h
  ·rename_i tm' hp
   split at h
   ·rename_i l hl
    cases h;obtain ⟨h1,h2⟩ := Acw hl;refine ⟨rfl,fun k o' ho => ?_⟩
    cases k with
    | zero => simp at ho; subst ho; simp only [List.getD_cons_zero,List.getD_cons_succ]; rw [h1]; exact hp
    | succ k => simp at ho; simp only [List.getD_cons_succ]; exact h2 k o' ho
   ·cases h
  ·cases h
 | [],_ :: _,_,_,h => by simp [Aim] at h
 | _ :: _,[],_,_,h => by simp [Aim] at h
section
variable {E : Env} {ops : Array Oper} {Rr : Rec}
theorem Z7 {k : Nat} {o : Oper} (ho : ops[k]? = some o) : Bv (A5 E o.op) = true ↔ k ∈ Bw E ops.toList 0 := by
 have hol : ops.toList[k]? = some o := by simpa using ho
 obtain ⟨e1,e2⟩ := I1 (E := E) ops.toList 0
 constructor
 ·intro h;have := e1 k o hol h;rw [be_] at this;exact af_ this
 ·intro h;obtain ⟨m,hm⟩ := cr_.1 h;obtain ⟨k',o',q1,q2,q3,_⟩ := e2 m k hm;rw [be_] at q1;subst q1;rw [hol] at q2; cases q2; exact q3
theorem Abx (hm : E.P.follows .mixedOrders = true) (hR : Ao E Rr) {s s' : St} {vl : List AV} {C : Ctx} {w : World} {a : Act} (st : SSt E C w s a) (h : Aef E ops Rr s vl = some s') {id : Nat} {ro : Option Nat} {n : Nat} :
  (Code.region id ops true).wpIn (B8 ro) n E.P (H7 E C (nx s.sto) w [(.normal,s')]) a w := by
 unfold Aef at h
 split at h
 ·cases h
 ·rename_i tl htl
  obtain ⟨t0,tk⟩ := Acw htl
  split at h
  ·cases h
  ·rename_i hse
   simp only [ae_] at hse
   split at h
   ·cases h
   ·rename_i nl nf hst
    have W := Z6 _ _ _ _ _ hst;cases hck : ((nl ++ [(nf,[])]).all (Yn E ops.toList Rr (fun k => tl.getD k .e) (fun k => vl.getD k .any) (Region.before ops).toList (Bw E ops.toList 0)) && nl.all fun x => (Bw E ops.toList 0).any fun e => !x.1.D.contains e) with
    | false => rw [hck] at h; cases h
    | true =>
     rw [hck] at h;cases h;simp only [ae_] at hck;obtain ⟨n9,oc⟩ := hck
     have bt : ∀ c ∈ nl.map (·.1) ++ [nf],∃ nx,(c,nx) ∈ nl ++ [(nf,[])] /\ Sh E ops.toList Rr (fun k => tl.getD k .e) (fun k => vl.getD k .any) (· ∈ nl.map (·.1) ++ [nf]) c nx := fun c hc => by
      rcases bq_.1 hc with hc | hc
      ·obtain ⟨x,hx,rfl⟩ := cf_.1 hc;exact ⟨x.2,cu_ _ hx,W.ok x hx⟩
      ·rw [an_] at hc; subst hc
       exact ⟨[],by simp,fun e he => by cases he⟩
     have ec : ∀ c nx,(c,nx) ∈ nl ++ [(nf,[])] -> Yn E ops.toList Rr (fun k => tl.getD k .e) (fun k => vl.getD k .any) (Region.before ops).toList (Bw E ops.toList 0) (c,nx) = true := fun c nx hc => br_.1 n9 _ hc
     have bn : ops.toList.length = ops.size := by simp
     have ke : ∀ c ∈ nl.map (·.1) ++ [nf],∀ k,k < ops.size -> k ∉ c.D -> Afy (Region.before ops).toList (Bw E ops.toList 0) c.D k = true ->
       Anr (Region.before ops).toList c.U k = true /\ (k ∈ Bw E ops.toList 0 ∨ Ain E ops.toList Rr (fun k => tl.getD k .e) (fun k => vl.getD k .any) c.J k = true) := fun c hc k hk hD hok => by
      obtain ⟨nx,h1,_⟩ := bt c hc;have h2 := ec c nx h1;unfold Yn at h2;simp only [ae_] at h2
      have h3 := br_.1 h2.2 k (e_.2 (by rw [bn]; exact hk))
      have hD' : c.D.contains k = false := by
       cases hh : c.D.contains k with
       | false => rfl
       | true => exact absurd (List.contains_iff_mem.1 hh) hD
      rw [hD',hok] at h3;simp only [Bool.not_true,Bool.false_or,ae_,bh_] at h3;refine ⟨h3.1,?_⟩
      rcases h3.2 with h4 | h4
      ·exact .inl (List.contains_iff_mem.1 h4)
      ·exact .inr h4
     refine Ag1 (s' := ⟨tl.getD ops.size .e,s.nt,s.df,nf.J⟩) (es := Bw E ops.toList 0) (V := fun k => vl.getD k .any) (T := fun k => tl.getD k .e) (nds := nl.map (·.1) ++ [nf]) hm hR st ⟨hse.1,hse.2,fun k o ho => Z7 ho,fun k hk t => ?_,fun k o ho d hd => ?_,fun c hc k hk => ?_,fun c hc k hk => ?_,fun c hc k hk hD hok i hi => ?_,fun c hc k o ho he hok => ?_,fun c hc k o ho he hD hok => ?_⟩ W.hd (fun c hc hD => ?_) rfl rfl rfl (fun e he => ?_)
     ·exact Qm (n := ops.size) (T := fun k => tl.getD k .e) (V := fun k => vl.getD k .any) t0 (fun k hk => ⟨ops[k],by simp [hk],tk k _ (by simp [hk])⟩) k hk t
     ·have := tk k o (by simpa using ho)
      rw [hd] at this;simp only [Hu] at this;cases hb : Nat.blt d s.nt
      ·simp [hb] at this
      ·exact ak_ hb
     ·rcases (W.sub c hc).1 k hk with h | h
      ·cases h
      ·exact h
     ·rcases (W.sub c hc).2 with h | ⟨p,v,h,hp⟩
      ·rw [h]; rfl
      ·rw [h]; show (if k = p then _ else _) = _; rw [if_neg (fun hh : k = p => hk (by rw [hh]; exact hp))]
     ·have h1 := (ke c hc k hk hD hok).1
      rcases (W.sub c hc).2 with h | ⟨p,v,h,hp⟩
      ·rw [h]; rfl
      ·rw [h] at h1 ⊢
       show (if i = p then _ else _) = _
       rw [if_neg];intro hh;subst hh;unfold Anr at h1;simp only [E9] at h1;rw [hi] at h1; cases h1
     ·have hk := (at_.1 ho).1
      have hD : k ∉ c.D := fun hh => by
       rcases (W.sub c hc).1 k hh with h | h
       ·cases h
       ·exact he h
      rcases (ke c hc k hk hD hok).2 with h1 | h1
      ·exact absurd h1 he
      ·have hne : Bv (A5 E o.op) = false := by
        cases hh : Bv (A5 E o.op) with
        | false => rfl
        | true => exact absurd ((Z7 ho).1 hh) he
       unfold Ain at h1
       rw [show ops.toList[k]? = some o by simpa using ho] at h1
       simp only at h1
       split at h1
       ·rename_i hg
        split at h1
        ·rename_i v τ hv
         have := AV.beq_eq _ _ h1;subst this;refine .inl ⟨hg,?_⟩
         have hτ : τ = c.J := by
          cases hcl : A5 E o.op with
          | eff => rw [hcl] at hne; cases hne
          | pure => exact (Agr hR hcl _ _ _ _ hv).1
          | read => rw [I2 hcl] at hv; exact Zg hcl hv
         rw [← hτ] at hv ⊢; exact hv
        ·cases h1
       ·rename_i hg
        exact .inr ⟨hg,AV.beq_eq _ _ h1,rfl⟩
       ·cases h1
     ·obtain ⟨nx,h1,h2⟩ := bt c hc;have h3 := ec c nx h1;unfold Yn at h3;simp only [ae_] at h3;have h4 := br_.1 h3.1 k he
      have hD' : c.D.contains k = false := by
       cases hh : c.D.contains k with
       | false => rfl
       | true => exact absurd (List.contains_iff_mem.1 hh) hD
      rw [hD',hok] at h4;simp only [Bool.not_true,Bool.false_or] at h4;obtain ⟨o',v,J',c',q1,q2,q3,q4,q5⟩ := h2 k (List.contains_iff_mem.1 h4)
      rw [show ops.toList[k]? = some o by simpa using ho] at q1
      cases q1;exact ⟨v,J',c',q2,q3,fun e _ => q4 e,q5⟩
     ·rcases bq_.1 hc with hc | hc
      ·obtain ⟨x,hx,rfl⟩ := cf_.1 hc;obtain ⟨e,h1,h2⟩ := ev_.1 (br_.1 oc x hx);have := hD e h1;rw [← List.contains_iff_mem] at this;rw [this] at h2; cases h2
      ·rw [an_] at hc; subst hc
       exact ⟨fun k => by rw [W.fin]; rfl,rfl⟩
     ·obtain ⟨m,hm'⟩ := cr_.1 he;obtain ⟨k',o',q1,q2,_⟩ := (I1 (E := E) ops.toList 0).2 m e hm';have := (ad_.1 q2).1;omega
end
theorem Ag3 {E : Env} {Rr : Rec} (hm : E.P.follows .mixedOrders = true) (hR : Ao E Rr) (ops : Array Oper) (s s' : St) (C : Ctx) (w : World) (a : Act) (id : Nat) (ro : Option Nat) (n : Nat) (st : SSt E C w s a) (h : Ant E ops Rr s = some s') :
  (Code.region id ops true).wpIn (B8 ro) n E.P (H7 E C (nx s.sto) w [(.normal,s')]) a w := by
 unfold Ant at h
 split at h
 ·exact Abx hm hR st h
 ·cases h
theorem Il {E : Env} {Rr : Rec} (hm : E.P.follows .mixedOrders = true) (hR : Ao E Rr) : F7 E Rr := by
 intro ops s s' C w a id ro n st h;unfold Oy at h
 split at h
 ·exact Ag3 hm hR ops s s' C w a id ro n st h
 ·rename_i anns ef
  split at h
  ·rename_i d hd
   cases hb : F5 E ops.toList d.eps.reverse anns ops.toList d.log.reverse
   ·simp [hb] at h
   ·simp only [hb,cond_true,ac_] at h;subst h;unfold Id at ef;simp only at ef
    split at ef
    ·rename_i ec
     cases ef;simp only [ae_] at ec;obtain ⟨⟨⟨c1,c2⟩,c3⟩,_⟩ := ec;refine Acp hm hR st c1 c2 c3 hd fun j o t v ho hl hc => ?_
     have := Rk hb j _ o t v (Gb ops.toList 0 j o (by simpa using ho)) (by simpa using ho) hl hc
     simp only [be_,E9] at this;exact Agq this
    ·cases ef
  ·cases h
mutual
theorem As.ind' {P : As -> Prop} (h : ∀ l ks,(∀ t ∈ ks,P t) -> P (.node l ks)) : ∀ t,P t
 | .node l ks => h l ks (As.indL' h ks)
theorem As.indL' {P : As -> Prop} (h : ∀ l ks,(∀ t ∈ ks,P t) -> P (.node l ks)) : ∀ (ks : List As),∀ t ∈ ks,P t
 | [],t,ht => by simp at ht
 | k :: r,t,ht => by
  have h1 := As.ind' h k;have h2 := As.indL' h r
  rcases ai_.1 ht with hh | hh
  ·rw [hh]; exact h1
  ·exact h2 t hh
end
mutual
def Ls : As -> Int -> Int
 | .node _ ks,n => M7 ks (n - 1)
def M7 : List As -> Int -> Int
 | [],n => n
 | t :: r,n => if 0 <= n then M7 r (Ls t n) else n
end
theorem Amo (t : As) (r : List As) (n : Int) : M7 (t :: r) n = if 0 <= n then M7 r (Ls t n) else n := by rw [M7]
mutual
theorem Ak0 : ∀ (t : As) (n : Int),0 <= n -> -1 <= Ls t n /\ Ls t n <= n - 1
 | .node _ ks,n,h => by unfold Ls; have := Ak1 ks (n - 1) Om; omega
theorem Ak1 : ∀ (l : List As) (n : Int),-1 <= n -> -1 <= M7 l n /\ M7 l n <= n
 | [],n,h => by unfold M7; omega
 | t :: r,n,h => by
  unfold M7
  split
  ·have h1 := Ak0 t n (by assumption)
   have h2 := Ak1 r (Ls t n) h1.1;omega
  ·omega
end
theorem Ag4 {l : List As} {n : Int} (h : n < 0) : M7 l n = n := by
 cases l with
 | nil => unfold M7; rfl
 | cons t r => unfold M7; rw [if_neg Om]
theorem Ag5 {N : Nat} : ∀ {l m : List AV},AV.unds N l = true -> AV.unds N m = true -> AV.unds N (l ++ m) = true
 | [],m,_,h => h
 | x :: l,m,h,k => by simp only [av_,AV.unds,ae_] at h ⊢; exact ⟨h.1,Ag5 h.2 k⟩
mutual
theorem Qt {N : Nat} : ∀ t : As,AV.unds N (eT t) = true
 | .node l ks => by simp only [eT,AV.unds,AV.und,sV,Z8 ks,cy_]
theorem Z8 {N : Nat} : ∀ l : List As,AV.unds N (eTs l) = true
 | [] => rfl
 | t :: r => by simp only [eTs]; exact Ag5 (Qt t) (Z8 r)
end
theorem Ue {N : Nat} (t : As) : AV.und N (Bp t) = true := Qt t
section
variable {E : Env} {nt B : Nat} {df : List (Nat × List AV)} {Q : Cz} {ρ : Ad} {J : Sto}
theorem Aor {id : Nat} {ops : Array Oper} {r : List Oper} {x : Operand} {d ty : Nat} {pos : String} {after : Array Edge} {a ver : Nat} {m : Option Nat} {left : List (Key × AV)} {cur : Option (Key × AV)}
  (c9 : ops.toList = { dst := some d,op := .next x false,type := ty,pos := pos,after := after,guard := none } :: r) (hd : Nat.blt d nt = true)
  (hx : Ai E ρ x = some (.it a)) (hg : J.get a = some (.iter m ver left cur)) (hv : Xz J m ver = true)
  (h0 : left = [] -> TO E nt df B ops.toList r (fun ρ J => Q .normal ρ J) ((d,.tup [.bool false]) :: ρ) (J.set a (.iter m ver [] none)))
  (h1 : ∀ p,p ∈ Fm left -> TO E nt df B ops.toList r (fun ρ J => Q .normal ρ J) ((d,.tup [.bool true,Rb p.1.1,p.1.2]) :: ρ) (J.set a (.iter m ver p.2 (some p.1)))) : T E nt df B (.region id ops false) Q ρ J := by
 intro ro n hn C w tm act ht st hB
 obtain ⟨hn1,hn2⟩ := Ko (by rw [← c9]; exact hn)
 have hX := Bc st.glob st.tmps x;rw [ht.opd hx] at hX
 have ho : ops[0]? = some { dst := some d,op := .next x false,type := ty,pos := pos,after := after,guard := none } := by rw [← bg_,c9]; rfl
 have hsz : ops.size = r.length + 1 := by rw [← bv_,c9]; rfl
 obtain ⟨y,w₁,bl,b7,d7⟩ := Za (P := E.P) (ty := ty) st.sim hX hg hv
 have f0 : (execOp act.eval { dst := some d,op := .next x false,type := ty,pos := pos,after := after,guard := none }).run E.P w = .ok (.value y) w₁ := by
  simp [execOp,bl]
 refine wpIn_region ?_;rw [hsz,dn_,cl_];simp only [wpOpsIn,ho]
 rw [if_pos (by unfold Region.wanted; rfl)]
 refine Dm hn1 ?_;unfold Oper.wp;rw [f0,Oper.upon_value]
 have hr : ∀ j,j < r.length -> r[j]? = ops[0 + 1 + j]? := fun j _ => by
  rw [← bg_,c9,show 0 + 1 + j = j + 1 by omega]; rfl
 have fin : ∀ (v : AV) (left' : List (Key × AV)) (cur' : Option (Key × AV)),TO E nt df B ops.toList r (fun ρ J => Q .normal ρ J) ((d,v) :: ρ) (J.set a (.iter m ver left' cur')) -> Sim E.P C w₁ (J.set a (.iter m ver left' cur')) -> R C (nx J) w₁ v y ->
   wpOpsIn (B8 ro) n E.P ops (Km E nt df B Q C w) (List.range' (0 + 1) r.length) (act.put (some d) y) w₁ := by
  intro v left' cur' hto hs' hv'
  obtain ⟨tm',htm,cg⟩ := C8 (nt := nt) (dst := some d) (by exact hd) ht v
  have d8 : Ext C (nx J) w C (nx (J.set a (.iter m ver left' cur'))) w₁ := by rw [Ae]; exact b7
  have st' := st.put (x := y) hs' d8 (by rw [Ae]; exact hv') htm
  have := hto ro n hn2 C w₁ tm' _ cg st' (by rw [Ae]; exact hB) ops (0 + 1) (Km E nt df B Q C w) [] rfl hr fun C' w' a' tm'' ρ' J' q1 q2 q3 q4 q5 =>
   ⟨.normal,tm'',ρ',J',C',rfl,q1,q2,q3,q4,(d8.base hB).trans q5⟩
  rwa [cn_] at this
 rcases d7 with ⟨h,hs',hv'⟩ | ⟨p,hp,hs',hv'⟩
 ·exact fin _ _ _ (h0 h) hs' hv'
 ·exact fin _ _ _ (h1 p hp) hs' hv'
variable {Rr : Rec}
theorem Ag6 {t r kt kt' sz ver : Nat} {agg : Bool} {z : AV} {x : Operand} {es : List (Key × AV)} (hi : mpI E.P t = some (kt',z,sz,agg)) (hx : Ai E ρ x = some (.mp r)) (hm : J.get r = some (.map kt es ver)) :
  A0 E Rr (.range t x) ρ J (.it (nx J)) (J.new (.iter (some r) ver es none)) := fun tm h => by
 obtain ⟨ti,et,h1,h2⟩ := Aok hi;simp only [opA,Ar,h1,h2,h.opd hx,Ad8,hm]
theorem Ag7 {x : Operand} {a r ver kt : Nat} {left es : List (Key × AV)} {k : Key} {v : AV} (hx : Ai E ρ x = some (.it a)) (hg : J.get a = some (.iter (some r) ver left (some (k,v)))) (hm : J.get r = some (.map kt es ver)) :
  A0 E Rr (.entry x) ρ J (.tup [Rb k,v]) J := fun tm h => by
 simp only [opA,Ar,h.opd hx,Yk,hg,hm,bm_,cond_true]
end
theorem Si {α : Type} {enc : α -> AV} : ∀ {m : SM α} {p : (Key × AV) × List (Key × AV)},p ∈ Fm (B1 enc m) -> ∃ q,q ∈ Fm m /\ p = ((kS q.1.1,enc q.1.2),B1 enc q.2)
 | [],p,h => by simp [B1,Fm] at h
 | x :: m,p,h => by
  simp only [B1,cd_,Fm,ai_,cf_] at h
  rcases h with rfl | ⟨y,hy,rfl⟩
  ·exact ⟨(x,m),by simp [Fm],rfl⟩
  ·obtain ⟨q,h1,rfl⟩ := Si (m := m) hy
   exact ⟨(q.1,x :: q.2),by simp only [Fm,ai_,cf_]; exact .inr ⟨q,h1,rfl⟩,rfl⟩
theorem Qu {α : Type} : ∀ {l : List α} {p : α × List α},p ∈ Fm l -> p.1 ∈ l /\ (∀ x,x ∈ l ↔ x = p.1 ∨ x ∈ p.2) /\ p.2.length + 1 = l.length
 | [],p,h => by simp [Fm] at h
 | x :: m,p,h => by
  simp only [Fm,ai_,cf_] at h
  rcases h with rfl | ⟨q,hq,rfl⟩
  ·exact ⟨bn_ ..,fun y => ai_,rfl⟩
  ·obtain ⟨h1,h2,h3⟩ := Qu hq
   refine ⟨am_ _ h1,fun y => ?_,by simp only [ap_]; omega⟩
   simp only [ai_,h2]
   constructor
   ·rintro (h | h | h)
    ·exact .inr (.inl h)
    ·exact .inl h
    ·exact .inr (.inr h)
   ·rintro (h | h | h)
    ·exact .inr (.inl h)
    ·exact .inl h
    ·exact .inr (.inr h)
end Go.AM
