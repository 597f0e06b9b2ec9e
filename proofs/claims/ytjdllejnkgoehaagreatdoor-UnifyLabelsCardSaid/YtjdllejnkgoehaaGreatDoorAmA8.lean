/- A call made on its own, at an empty store, tells what it does at any store: what it made is laid behind the objects that are there. -/
import Derived.RangeFuncRecord
import Derived.RangeFuncIn
import Derived.RangeFuncLeaves
import Derived.TacticsIn
import Derived.Test.YtjdllejnkgoehaaGreatDoorAmA5
import Derived.Test.YtjdllejnkgoehaaGreatDoorAmA7
namespace Go.AM
open Go

/- the place of a number in a list -/
def findN : List Nat → Nat → Option Nat
  | [], _ => none
  | x :: r, a => cond (Nat.beq x a) (some 0) (match findN r a with | some i => some (i + 1) | none => none)

mutual
def AV.ren (L : List Nat) (b : Nat) : AV → AV
  | .pr a off => match findN L a with | some i => forceN (b + i) fun n => .pr n off | none => .any
  | .sr a off sz len cap => match findN L a with | some i => forceN (b + i) fun n => .sr n off sz len cap | none => .any
  | .mp a => match findN L a with | some i => forceN (b + i) fun n => .mp n | none => .any
  | .it _ => .any
  | .stp _ => .any
  | .yl _ => .any
  | .pv cs => .pv (AV.rens L b cs)
  | .sv cs sz len cap => .sv (AV.rens L b cs) sz len cap
  | .fn f p q => .fn f (AV.rens L b p) (AV.rens L b q)
  | .ifc t x => .ifc t (AV.ren L b x)
  | .agg cs => .agg (AV.rens L b cs)
  | .tup vs => .tup (AV.rens L b vs)
  | .any => .any
  | .bool x => .bool x
  | .int k n => .int k n
  | .str l => .str l
  | .nil v => .nil v
def AV.rens (L : List Nat) (b : Nat) : List AV → List AV
  | [] => []
  | x :: r => AV.ren L b x :: AV.rens L b r
end

def renEs (L : List Nat) (b : Nat) : List (Key × AV) → List (Key × AV)
  | [] => []
  | (k, v) :: r => (k, AV.ren L b v) :: renEs L b r

def AO.ren (L : List Nat) (b : Nat) : AO → Option AO
  | .cells vs => some (.cells (AV.rens L b vs))
  | .map kt es ver => some (.map kt (renEs L b es) ver)
  | _ => none

def renObjs (L : List Nat) (b : Nat) (σ : Sto) : List Nat → Option (List AO)
  | [] => some []
  | a :: r => match σ.get a with
    | some o => match o.ren L b, renObjs L b σ r with
      | some o', some l => some (o' :: l)
      | _, _ => none
    | none => none

def addAll : List AO → Sto → Sto
  | [], σ => σ
  | o :: r, σ => addAll r (σ.new o)

theorem findN_get : ∀ {L : List Nat} {a i : Nat}, findN L a = some i → L[i]? = some a
  | [], a, i, h => by simp [findN] at h
  | x :: r, a, i, h => by
    simp only [findN] at h
    cases hb : Nat.beq x a with
    | true =>
      have hxa := Nat.eq_of_beq_eq_true hb
      simp [hb] at h; subst h; simp [hxa]
    | false =>
      simp only [hb, cond_false] at h
      split at h
      · rename_i j hj; cases h; simpa using findN_get hj
      · cases h

theorem nx_addAll : ∀ (l : List AO) (σ : Sto), nx (addAll l σ) = nx σ + l.length
  | [], σ => rfl
  | o :: r, σ => by simp only [addAll, nx_addAll r, nx_new, List.length_cons]; omega

theorem get_addAll : ∀ (l : List AO) (σ : Sto) (a : Nat), (addAll l σ).get a = if a < nx σ then σ.get a else match l[a - nx σ]? with | some o => some o | none => σ.get a
  | [], σ, a => by simp [addAll]
  | o :: r, σ, a => by
    simp only [addAll]
    rw [get_addAll r, nx_new, Sto.get_new]
    by_cases h : a < nx σ
    · rw [if_pos (by omega), if_neg (by omega), if_pos h]
    · rw [if_neg h]
      by_cases h2 : a = nx σ
      · subst h2; rw [if_pos (by omega), if_pos rfl]; simp
      · rw [if_neg (by omega), if_neg h2]
        have : a - nx σ = (a - (nx σ + 1)) + 1 := by omega
        rw [this, List.getElem?_cons_succ]

section
variable {C₁ C' : Ctx} {N₁ N' b : Nat} {w : World} {L : List Nat}

/- what the new context knows of the old one -/
structure Moves (L : List Nat) (b : Nat) (C₁ C' : Ctx) (N' : Nat) : Prop where
  at' : ∀ a i, findN L a = some i → b + i < N' ∧ C'.loc (b + i) = C₁.loc a
  own : ∀ c, C'.own c → C₁.own c

mutual
theorem R.ren (h : Moves L b C₁ C' N') : ∀ (x : AV) (v : Value), R C₁ N₁ w x v → R C' N' w (x.ren L b) v
  | .pr a off, v, hr => by
    unfold AV.ren
    split
    · rename_i i hi
      obtain ⟨k1, k2⟩ := h.at' a i hi
      rw [forceN_eq]
      unfold R at *
      obtain ⟨ad, h1, h2, h3⟩ := hr
      exact ⟨ad, h1, k1, fun c o hc => h3 c o (by rw [← k2]; exact hc)⟩
    · unfold R; trivial
  | .sr a off sz len cap, v, hr => by
    unfold AV.ren
    split
    · rename_i i hi
      obtain ⟨k1, k2⟩ := h.at' a i hi
      rw [forceN_eq]
      unfold R at *
      obtain ⟨ad, k, h1, h2, h3, h4, h5⟩ := hr
      exact ⟨ad, k, h1, k1, h3, h4, fun c o hc => h5 c o (by rw [← k2]; exact hc)⟩
    · unfold R; trivial
  | .mp a, v, hr => by
    unfold AV.ren
    split
    · rename_i i hi
      obtain ⟨k1, k2⟩ := h.at' a i hi
      rw [forceN_eq]
      unfold R at *
      obtain ⟨c, h1, h2, h3⟩ := hr
      exact ⟨c, h1, k1, fun c' o hc => h3 c' o (by rw [← k2]; exact hc)⟩
    · unfold R; trivial
  | .it _, v, hr => by unfold AV.ren R; trivial
  | .stp _, v, hr => by unfold AV.ren R; trivial
  | .yl _, v, hr => by unfold AV.ren R; trivial
  | .pv cs, v, hr => by
    unfold AV.ren
    unfold R at *
    obtain ⟨c, o, h1, h2, h3⟩ := hr
    exact ⟨c, o, h1, fun hne ho => h2 (fun he => hne (by rw [he]; rfl)) (h.own c ho), RC.ren h cs c o h3⟩
  | .sv cs sz len cap, v, hr => by
    unfold AV.ren
    unfold R at *
    obtain ⟨ad, k, h1, h2, h3, h4, h5, h6, h7⟩ := hr
    exact ⟨ad, k, h1, h2, h3, by rw [rens_length, h4], h5, fun hne ho => h6 (fun he => hne (by rw [he]; rfl)) (h.own _ ho), RC.ren h cs ad.block ad.off h7⟩
  | .fn f p q, v, hr => by
    unfold AV.ren
    unfold R at *
    obtain ⟨a, c, h1, h2, h3⟩ := hr
    exact ⟨a, c, h1, RL.ren h p _ h2, RL.ren h q _ h3⟩
  | .ifc t x, v, hr => by
    unfold AV.ren
    unfold R at *
    obtain ⟨y, h1, h2⟩ := hr
    exact ⟨y, h1, R.ren h x y h2⟩
  | .agg cs, v, hr => by
    unfold AV.ren
    unfold R at *
    obtain ⟨a, h1, h2, h3⟩ := hr
    exact ⟨a, h1, RL.ren h cs _ h2, h3⟩
  | .tup vs, v, hr => by
    unfold AV.ren
    unfold R at *
    obtain ⟨a, h1, h2⟩ := hr
    exact ⟨a, h1, RL.ren h vs _ h2⟩
  | .any, v, hr => by unfold AV.ren R; trivial
  | .bool x, v, hr => by unfold AV.ren; unfold R at *; exact hr
  | .int k n, v, hr => by unfold AV.ren; unfold R at *; exact hr
  | .str l, v, hr => by unfold AV.ren; unfold R at *; exact hr
  | .nil y, v, hr => by unfold AV.ren; unfold R at *; exact hr
theorem RC.ren (h : Moves L b C₁ C' N') : ∀ (cs : List AV) (c o : Nat), RC C₁ N₁ w c cs o → RC C' N' w c (AV.rens L b cs) o
  | [], c, o, _ => by unfold AV.rens RC; trivial
  | x :: r, c, o, hr => by
    unfold AV.rens
    unfold RC at *
    obtain ⟨⟨v, h1, h2, h3⟩, h4⟩ := hr
    exact ⟨⟨v, h1, h2, R.ren h x v h3⟩, RC.ren h r c (o + 1) h4⟩
theorem RL.ren (h : Moves L b C₁ C' N') : ∀ (l : List AV) (vs : List Value), RL C₁ N₁ w l vs → RL C' N' w (AV.rens L b l) vs
  | [], [], _ => by unfold AV.rens RL; trivial
  | x :: r, v :: s, hr => by
    unfold AV.rens
    unfold RL at *
    exact ⟨R.ren h x v hr.1, RL.ren h r s hr.2⟩
  | [], _ :: _, hr => by unfold RL at hr; exact hr.elim
  | _ :: _, [], hr => by unfold RL at hr; exact hr.elim
theorem rens_length {L : List Nat} {b : Nat} : ∀ (l : List AV), (AV.rens L b l).length = l.length
  | [] => rfl
  | x :: r => by unfold AV.rens; simp [rens_length r]
end

theorem ER.ren (h : Moves L b C₁ C' N') : ∀ (l : List (Key × AV)) (E : List MapEntry), ER C₁ N₁ w l E → ER C' N' w (renEs L b l) E
  | [], [], _ => by unfold renEs ER; trivial
  | (k, v) :: r, e :: s, hr => by
    unfold renEs
    unfold ER at *
    exact ⟨⟨hr.1.1, R.ren h v _ hr.1.2⟩, ER.ren h r s hr.2⟩
  | [], _ :: _, hr => by unfold ER at hr; exact hr.elim
  | _ :: _, [], hr => by unfold ER at hr; exact hr.elim
end

theorem renObjs_spec {L : List Nat} {b : Nat} {σ : Sto} : ∀ {M : List Nat} {l : List AO}, renObjs L b σ M = some l → l.length = M.length ∧ ∀ (i a : Nat), M[i]? = some a → ∃ o o', σ.get a = some o ∧ o.ren L b = some o' ∧ l[i]? = some o'
  | [], l, h => by simp [renObjs] at h; subst h; simp
  | a :: M, l, h => by
    simp only [renObjs] at h
    split at h
    · rename_i o ho
      split at h
      · rename_i o' l' h1 h2
        cases h
        obtain ⟨k1, k2⟩ := renObjs_spec h2
        refine ⟨by simp [k1], fun i x hx => ?_⟩
        cases i with
        | zero => simp at hx; subst hx; exact ⟨o, o', ho, h1, rfl⟩
        | succ i => exact k2 i x (by simpa using hx)
      · cases h
    · cases h

/- the context of a call that is made on its own: what the caller owns is somebody else's -/
def Ctx.iso (C : Ctx) : Ctx := ⟨fun _ => none, C.stm, C.own⟩

theorem Ctx.iso_own (C : Ctx) : C.iso.own = C.own := by
  funext c
  simp [Ctx.own, Ctx.iso]

theorem Sim.iso {P : Program} {C : Ctx} {w : World} {σ : Sto} (h : Sim P C w σ) : Sim P C.iso w ⟨.e, 0⟩ where
  obj a O hg := by simp [Sto.get, Tr.get] at hg
  bound a O hg := by simp [Sto.get, Tr.get] at hg
  dom a p hp := by simp [Ctx.iso] at hp
  inj a b c o o' ha := by simp [Ctx.iso] at ha
  lt a c o ha := by simp [Ctx.iso] at ha
  rlt b hb := h.own_lt hb
  rdis a c o ha := by simp [Ctx.iso] at ha

/- what the new context is -/
def Ctx.lay (C : Ctx) (b : Nat) (C₁ : Ctx) (L : List Nat) : Ctx :=
  { C with loc := fun a => if a < b then C.loc a else match L[a - b]? with | some x => C₁.loc x | none => none }

theorem nodup_get {L : List Nat} (h : L.Nodup) {i j a : Nat} (hi : L[i]? = some a) (hj : L[j]? = some a) : i = j := by
  obtain ⟨h1, h2⟩ := List.getElem?_eq_some_iff.1 hi
  obtain ⟨h3, h4⟩ := List.getElem?_eq_some_iff.1 hj
  exact (List.getElem_inj h).1 (h2.trans h4.symm)

theorem reloc {P : Program} {C Cs C₁ : Ctx} {w w' : World} {σ σ₁ : Sto} {v : AV} {x : Value} {L : List Nat} {objs : List AO}
    (hs : Sim P C w σ) (h1 : Sim P C₁ w' σ₁) (hres : Cs.res = C.own) (hloc : Cs.loc = fun _ => none) (he : Ext Cs 0 w C₁ (nx σ₁) w') (hr : R C₁ (nx σ₁) w' v x)
    (hn : L.Nodup) (ho : renObjs L (nx σ) σ₁ L = some objs) :
    ∃ C', Sim P C' w' (addAll objs σ) ∧ Ext C (nx σ) w C' (nx (addAll objs σ)) w' ∧ R C' (nx (addAll objs σ)) w' (v.ren L (nx σ)) x := by
  obtain ⟨hlen, hobj⟩ := renObjs_spec ho
  have hC₁res : C₁.res = C.own := he.res.1.trans hres
  have hkeepOwn : ∀ c, C.own c → w'.heap[c]? = w.heap[c]? := fun c hc => he.res.2 c (by rw [hres]; exact hc)
  have hCsOwn : ∀ c, Cs.own c ↔ C.own c := fun c => by
    unfold Ctx.own
    rw [hres, hloc]
    simp [Ctx.own]
  have hnx : nx (addAll objs σ) = nx σ + L.length := by rw [nx_addAll, hlen]
  have hlocLt : ∀ a, a < nx σ → (C.lay (nx σ) C₁ L).loc a = C.loc a := fun a ha => by simp [Ctx.lay, ha]
  have hlocGe : ∀ (i a : Nat), L[i]? = some a → (C.lay (nx σ) C₁ L).loc (nx σ + i) = C₁.loc a := fun i a hi => by
    simp only [Ctx.lay]
    rw [if_neg (by omega), show nx σ + i - nx σ = i by omega, hi]
  have hlocInv : ∀ a p, (C.lay (nx σ) C₁ L).loc a = some p → (a < nx σ ∧ C.loc a = some p) ∨ ∃ i x, a = nx σ + i ∧ L[i]? = some x ∧ C₁.loc x = some p := fun a p hp => by
    by_cases ha : a < nx σ
    · rw [hlocLt a ha] at hp; exact .inl ⟨ha, hp⟩
    · simp only [Ctx.lay, if_neg ha] at hp
      split at hp
      · rename_i y hy; exact .inr ⟨a - nx σ, y, by omega, hy, hp⟩
      · cases hp
  have hown : ∀ c, (C.lay (nx σ) C₁ L).own c → C₁.own c := fun c hc => by
    rcases hc with hc | ⟨a, o, hc⟩
    · exact .inl (by rw [hC₁res]; exact .inl hc)
    · rcases hlocInv a _ hc with ⟨_, h2⟩ | ⟨i, y, _, _, h4⟩
      · exact .inl (by rw [hC₁res]; exact .inr ⟨a, o, h2⟩)
      · exact .inr ⟨y, o, h4⟩
  have hmv : Moves L (nx σ) C₁ (C.lay (nx σ) C₁ L) (nx (addAll objs σ)) := ⟨fun a i hi => by
    have hi' := findN_get hi
    have := (List.getElem?_eq_some_iff.1 hi').1
    exact ⟨by rw [hnx]; omega, hlocGe i a hi'⟩, hown⟩
  have e : Ext C (nx σ) w (C.lay (nx σ) C₁ L) (nx (addAll objs σ)) w' := ⟨by omega, he.size,
    fun c hc ho => by
      obtain ⟨k1, k2⟩ := he.keep c hc (fun hh => ho ((hCsOwn c).1 hh))
      exact ⟨fun hh => k1 (hown c hh), k2⟩,
    fun a ha p hp => by rwa [hlocLt a ha] at hp, fun _ _ => rfl,
    fun a ha c o hc => by
      rw [hlocLt a ha] at hc
      unfold csize
      rw [hkeepOwn c (.inr ⟨a, o, hc⟩)],
    ⟨rfl, fun c hc => hkeepOwn c (.inl hc)⟩, he.os⟩
  refine ⟨C.lay (nx σ) C₁ L, ⟨fun a O hg => ?_, fun a O hg => ?_, fun a p hp => ?_, fun a d c o o' ha hd => ?_, fun a c o ha => ?_, fun c hc => ?_, fun a c o ha hc => ?_⟩, e, R.ren hmv v x hr⟩
  · rw [get_addAll] at hg
    by_cases ha : a < nx σ
    · rw [if_pos ha] at hg
      refine (hs.obj a O hg).ext e ha (hlocLt a ha) (fun c o hc => hkeepOwn c (.inr ⟨a, o, hc⟩)) fun m hm kt es' v' hg' => ?_
      rw [get_addAll, if_pos hm] at hg'
      exact ⟨kt, es', v', hg', Nat.le_refl _, fun _ => ⟨hlocLt m hm, fun c o hc => hkeepOwn c (.inr ⟨m, o, hc⟩)⟩⟩
    · rw [if_neg ha] at hg
      split at hg
      · rename_i o' ho'
        cases hg
        have hi : a - nx σ < L.length := by
          have := (List.getElem?_eq_some_iff.1 ho').1; omega
        have hLi : L[a - nx σ]? = some L[a - nx σ] := List.getElem?_eq_getElem hi
        obtain ⟨o₁, o₂, g1, g2, g3⟩ := hobj _ _ hLi
        rw [ho'] at g3; cases g3
        have hl := hlocGe _ _ hLi
        rw [show nx σ + (a - nx σ) = a by omega] at hl
        have hor := h1.obj _ _ g1
        cases o₁ with
        | cells vs =>
          simp only [AO.ren, Option.some.injEq] at g2; subst g2
          obtain ⟨c, o, cs, T, q1, q2, q3⟩ := hor
          exact ⟨c, o, cs, T, hl.trans q1, q2, RC.ren hmv vs c o q3⟩
        | map kt es ver =>
          simp only [AO.ren, Option.some.injEq] at g2; subst g2
          obtain ⟨c, E, clock, q1, q2, q3⟩ := hor
          obtain ⟨P1, p2, p3⟩ := q3.perm
          exact ⟨c, E, clock, hl.trans q1, q2, q3.typed, ⟨P1, p2, ER.ren hmv es P1 p3⟩, q3.keys, q3.born, q3.apart⟩
        | iter _ _ _ _ => simp [AO.ren] at g2
        | stamp _ _ _ => simp [AO.ren] at g2
      · exact absurd (hs.bound a O hg) ha
  · rw [hnx]
    rw [get_addAll] at hg
    by_cases ha : a < nx σ
    · omega
    · rw [if_neg ha] at hg
      split at hg
      · rename_i o' ho'
        have := (List.getElem?_eq_some_iff.1 ho').1; omega
      · have := hs.bound a O hg; omega
  · rw [get_addAll]
    rcases hlocInv a p hp with ⟨ha, hc⟩ | ⟨i, y, rfl, hi, hc⟩
    · rw [if_pos ha]; exact hs.dom a p hc
    · obtain ⟨o₁, o₂, g1, g2, g3⟩ := hobj i y hi
      rw [if_neg (by omega), show nx σ + i - nx σ = i by omega, g3]
      refine ⟨o₂, rfl, ?_⟩
      cases o₁ with
      | cells vs => simp only [AO.ren, Option.some.injEq] at g2; subst g2; rfl
      | map kt es ver => simp only [AO.ren, Option.some.injEq] at g2; subst g2; rfl
      | iter _ _ _ _ => simp [AO.ren] at g2
      | stamp _ _ _ => simp [AO.ren] at g2
  · rcases hlocInv a _ ha with ⟨ha1, hc⟩ | ⟨i, y, rfl, hi, hc⟩ <;> rcases hlocInv d _ hd with ⟨hd1, kc⟩ | ⟨j, z, rfl, hj, kc⟩
    · exact hs.inj a d c o o' hc kc
    · exact absurd (show C₁.res c by rw [hC₁res]; exact .inr ⟨a, o, hc⟩) (h1.rdis z c o' kc)
    · exact absurd (show C₁.res c by rw [hC₁res]; exact .inr ⟨d, o', kc⟩) (h1.rdis y c o hc)
    · have := h1.inj y z c o o' hc kc
      subst this
      rw [nodup_get hn hi hj]
  · rcases hlocInv a _ ha with ⟨_, hc⟩ | ⟨i, y, _, _, hc⟩
    · exact Nat.lt_of_lt_of_le (hs.lt a c o hc) he.size
    · exact h1.lt y c o hc
  · exact Nat.lt_of_lt_of_le (hs.rlt c hc) he.size
  · rcases hlocInv a _ ha with ⟨_, hk⟩ | ⟨i, y, _, _, hk⟩
    · exact hs.rdis a c o hk hc
    · exact h1.rdis y c o hk (by rw [hC₁res]; exact .inl hc)

/- ===== values that speak of no object ===== -/
mutual
def AV.closed : AV → Bool
  | .pr _ _ => false
  | .sr _ _ _ _ _ => false
  | .mp _ => false
  | .it _ => false
  | .stp _ => false
  | .yl _ => false
  | .pv cs => AV.closeds cs
  | .sv cs _ _ _ => AV.closeds cs
  | .fn _ p q => AV.closeds p && AV.closeds q
  | .ifc _ x => AV.closed x
  | .agg cs => AV.closeds cs
  | .tup vs => AV.closeds vs
  | _ => true
def AV.closeds : List AV → Bool
  | [] => true
  | x :: r => AV.closed x && AV.closeds r
end

section
variable {C C' : Ctx} {N N' : Nat} {w : World}
mutual
theorem R.closed (h : ∀ c, C'.own c → C.own c) : ∀ (x : AV) (v : Value), x.closed = true → R C N w x v → R C' N' w x v
  | .pr _ _, _, k, _ => by simp [AV.closed] at k
  | .sr _ _ _ _ _, _, k, _ => by simp [AV.closed] at k
  | .mp _, _, k, _ => by simp [AV.closed] at k
  | .it _, _, k, _ => by simp [AV.closed] at k
  | .stp _, _, k, _ => by simp [AV.closed] at k
  | .yl _, _, k, _ => by simp [AV.closed] at k
  | .pv cs, v, k, hr => by
    simp only [AV.closed] at k
    unfold R at *
    obtain ⟨c, o, h1, h2, h3⟩ := hr
    exact ⟨c, o, h1, fun hne ho => h2 hne (h c ho), RC.closed h cs c o k h3⟩
  | .sv cs sz len cap, v, k, hr => by
    simp only [AV.closed] at k
    unfold R at *
    obtain ⟨ad, q, h1, h2, h3, h4, h5, h6, h7⟩ := hr
    exact ⟨ad, q, h1, h2, h3, h4, h5, fun hne ho => h6 hne (h _ ho), RC.closed h cs ad.block ad.off k h7⟩
  | .fn f p q, v, k, hr => by
    simp only [AV.closed, Bool.and_eq_true] at k
    unfold R at *
    obtain ⟨a, c, h1, h2, h3⟩ := hr
    exact ⟨a, c, h1, RL.closed h p _ k.1 h2, RL.closed h q _ k.2 h3⟩
  | .ifc t x, v, k, hr => by
    simp only [AV.closed] at k
    unfold R at *
    obtain ⟨y, h1, h2⟩ := hr
    exact ⟨y, h1, R.closed h x y k h2⟩
  | .agg cs, v, k, hr => by
    simp only [AV.closed] at k
    unfold R at *
    obtain ⟨a, h1, h2, h3⟩ := hr
    exact ⟨a, h1, RL.closed h cs _ k h2, h3⟩
  | .tup vs, v, k, hr => by
    simp only [AV.closed] at k
    unfold R at *
    obtain ⟨a, h1, h2⟩ := hr
    exact ⟨a, h1, RL.closed h vs _ k h2⟩
  | .any, v, k, hr => by unfold R; trivial
  | .bool x, v, k, hr => by unfold R at *; exact hr
  | .int k' n, v, k, hr => by unfold R at *; exact hr
  | .str l, v, k, hr => by unfold R at *; exact hr
  | .nil y, v, k, hr => by unfold R at *; exact hr
theorem RC.closed (h : ∀ c, C'.own c → C.own c) : ∀ (cs : List AV) (c o : Nat), AV.closeds cs = true → RC C N w c cs o → RC C' N' w c cs o
  | [], c, o, _, _ => by unfold RC; trivial
  | x :: r, c, o, k, hr => by
    simp only [AV.closeds, Bool.and_eq_true] at k
    unfold RC at *
    obtain ⟨⟨v, h1, h2, h3⟩, h4⟩ := hr
    exact ⟨⟨v, h1, h2, R.closed h x v k.1 h3⟩, RC.closed h r c (o + 1) k.2 h4⟩
theorem RL.closed (h : ∀ c, C'.own c → C.own c) : ∀ (l : List AV) (vs : List Value), AV.closeds l = true → RL C N w l vs → RL C' N' w l vs
  | [], [], _, _ => by unfold RL; trivial
  | x :: r, v :: s, k, hr => by
    simp only [AV.closeds, Bool.and_eq_true] at k
    unfold RL at *
    exact ⟨R.closed h x v k.1 hr.1, RL.closed h r s k.2 hr.2⟩
  | [], _ :: _, _, hr => by unfold RL at hr; exact hr.elim
  | _ :: _, [], _, hr => by unfold RL at hr; exact hr.elim
end
end

/- ===== a call made once ===== -/
def renOs (L : List Nat) (b : Nat) : List AO → Option (List AO)
  | [] => some []
  | o :: r => match o.ren L b, renOs L b r with
    | some o', some l => some (o' :: l)
    | _, _ => none

theorem renObjs_eq {L : List Nat} {b : Nat} {σ : Sto} : ∀ (M : List Nat) (l : List AO), M.length = l.length → (∀ (i a : Nat), M[i]? = some a → σ.get a = l[i]?) → renObjs L b σ M = renOs L b l
  | [], [], _, _ => rfl
  | a :: M, o :: l, hl, h => by
    have h0 := h 0 a rfl
    simp only [renObjs, renOs]
    rw [h0]
    simp only [List.getElem?_cons_zero]
    rw [renObjs_eq M l (by simpa using hl) fun i x hx => by simpa using h (i + 1) x (by simpa using hx)]
  | [], _ :: _, hl, _ => by simp at hl
  | _ :: _, [], hl, _ => by simp at hl

/- what a call came to, its objects under the numbers 0, 1 .. in the order of the list -/
def relR (L : List Nat) (r : Res) : Option (AV × List AO) :=
  match r with
  | some (v, σ) => match renObjs L 0 σ L with
    | some l => some (v.ren L 0, l)
    | none => none
  | none => none

def memoG (a₀ : List AV) (v₀ : AV) (o₀ : List AO) (args : List AV) (σ : Sto) : Res :=
  match AV.beqs args a₀ with
  | true => match renOs (List.range o₀.length) (nx σ) o₀ with
    | some l => some (v₀.ren (List.range o₀.length) (nx σ), addAll l σ)
    | none => none
  | false => none

theorem renObjs_len {L : List Nat} {b : Nat} {σ : Sto} {M : List Nat} {l : List AO} (h : renObjs L b σ M = some l) : l.length = M.length := (renObjs_spec h).1

theorem memo_sound {E : Env} {lf n f : Nat} {a₀ : List AV} {L : List Nat} {v₀ : AV} {o₀ : List AO} (hrec : RecSound E (callA E lf n)) (hgl : ∀ g, E.gl g = none) (hcl : AV.closeds a₀ = true) (hL : L.Nodup)
    (hrun : relR L (callA E lf n f a₀ ⟨.e, 0⟩) = some (v₀, o₀)) : FSound E f (memoG a₀ v₀ o₀) := by
  intro C w σ args vs v σ' hs hg hargs h
  unfold memoG at h
  split at h
  · rename_i hb
    have := AV.beqs_eq _ _ hb
    subst this
    split at h
    · rename_i l hl
      cases h
      unfold relR at hrun
      split at hrun
      · rename_i v₁ σ₁ hcall
        split at hrun
        · rename_i l₀ hl₀
          cases hrun
          obtain ⟨hent, hc⟩ := hrec f C.iso w ⟨.e, 0⟩ args vs v₁ σ₁ hs.iso (fun g cs hh => by rw [hgl g] at hh; cases hh)
            (RL.closed (fun c hc => by rwa [C.iso_own] at hc) _ _ hcl hargs) hcall
          refine ⟨hent, hc.mono fun e w' he => ?_⟩
          cases e with
          | returned x =>
            obtain ⟨C₁, h1, h2, h3⟩ := he
            obtain ⟨C₂, k1, k2, k3⟩ := reloc hs.iso h1 (C.iso_own).symm rfl h2 h3 hL hl₀
            have hlen := renObjs_len hl₀
            have hl2 : renObjs (List.range o₀.length) (nx σ) (addAll o₀ ⟨.e, 0⟩) (List.range o₀.length) = some l := by
              rw [renObjs_eq _ o₀ (by simp) fun i a ha => ?_]
              · exact hl
              · obtain ⟨g1, g2⟩ := List.getElem?_eq_some_iff.1 ha
                simp at g1 g2
                subst g2
                rw [get_addAll, if_neg (by simp [nx])]
                simp only [nx, Nat.sub_zero]
                rw [List.getElem?_eq_getElem g1]
            exact reloc hs k1 rfl rfl k2 k3 List.nodup_range hl2
          | panicked _ => exact he.elim
          | outgrown => exact he.elim
        · cases hrun
      · cases hrun
    · cases h
  · cases h

/- the same, where what comes back speaks of no object -/
def memoC (a₀ : List AV) (v₀ : AV) (args : List AV) (σ : Sto) : Res :=
  match AV.beqs args a₀ with
  | true => some (v₀, σ)
  | false => none

mutual
theorem ren_closed {L : List Nat} {b : Nat} : ∀ (x : AV), x.closed = true → x.ren L b = x
  | .pr _ _, k => by simp [AV.closed] at k
  | .sr _ _ _ _ _, k => by simp [AV.closed] at k
  | .mp _, k => by simp [AV.closed] at k
  | .it _, k => by simp [AV.closed] at k
  | .stp _, k => by simp [AV.closed] at k
  | .yl _, k => by simp [AV.closed] at k
  | .pv cs, k => by simp only [AV.closed] at k; unfold AV.ren; rw [rens_closed cs k]
  | .sv cs _ _ _, k => by simp only [AV.closed] at k; unfold AV.ren; rw [rens_closed cs k]
  | .fn f p q, k => by simp only [AV.closed, Bool.and_eq_true] at k; unfold AV.ren; rw [rens_closed p k.1, rens_closed q k.2]
  | .ifc t x, k => by simp only [AV.closed] at k; unfold AV.ren; rw [ren_closed x k]
  | .agg cs, k => by simp only [AV.closed] at k; unfold AV.ren; rw [rens_closed cs k]
  | .tup cs, k => by simp only [AV.closed] at k; unfold AV.ren; rw [rens_closed cs k]
  | .any, _ => by unfold AV.ren; rfl
  | .bool _, _ => by unfold AV.ren; rfl
  | .int _ _, _ => by unfold AV.ren; rfl
  | .str _, _ => by unfold AV.ren; rfl
  | .nil _, _ => by unfold AV.ren; rfl
theorem rens_closed {L : List Nat} {b : Nat} : ∀ (l : List AV), AV.closeds l = true → AV.rens L b l = l
  | [], _ => by unfold AV.rens; rfl
  | x :: r, k => by
    simp only [AV.closeds, Bool.and_eq_true] at k
    unfold AV.rens
    rw [ren_closed x k.1, rens_closed r k.2]
end

theorem memoC_sound {E : Env} {lf n f : Nat} {a₀ : List AV} {v₀ : AV} (hrec : RecSound E (callA E lf n)) (hgl : ∀ g, E.gl g = none) (hcl : AV.closeds a₀ = true) (hv : v₀.closed = true)
    (hrun : relR [] (callA E lf n f a₀ ⟨.e, 0⟩) = some (v₀, [])) : FSound E f (memoC a₀ v₀) := by
  intro C w σ args vs v σ' hs hg hargs h
  refine memo_sound hrec hgl hcl List.nodup_nil hrun C w σ args vs v σ' hs hg hargs ?_
  unfold memoC at h
  unfold memoG
  split at h
  · rename_i hb
    cases h
    rw [ren_closed _ hv]
    rfl
  · cases h

theorem FSound.env {E E' : Env} (hP : E.P = E'.P) (hg : E.gl = E'.gl) {f : Nat} {g : List AV → Sto → Res} (h : FSound E f g) : FSound E' f g := by
  obtain ⟨P, gl, s, d, b⟩ := E
  obtain ⟨P', gl', s', d', b'⟩ := E'
  simp only at hP hg
  subst hP hg
  exact h
theorem DSound.env {E E' : Env} (hP : E.P = E'.P) (hg : E.gl = E'.gl) {f : Nat} {g : List AV → Sto → Option Sto} (h : DSound E f g) : DSound E' f g := by
  obtain ⟨P, gl, s, d, b⟩ := E
  obtain ⟨P', gl', s', d', b'⟩ := E'
  simp only at hP hg
  subst hP hg
  exact h

end Go.AM

/- A block that is nobody's and holds no cells may turn; a number may be laid aside. -/
namespace Go.AM
open Go

def noCells : Obj → Bool
  | .cells .. => false
  | _ => true

/- block l turns; it holds no cells -/
structure Turns (w w' : World) (l : Nat) : Prop where
  size : w'.heap.size = w.heap.size
  other : ∀ b, b ≠ l → w'.heap[b]? = w.heap[b]?
  was : ∃ o, w.heap[l]? = some o ∧ noCells o = true
  is : ∃ o, w'.heap[l]? = some o ∧ noCells o = true
  os : w'.os = w.os ∧ w'.output = w.output

theorem Turns.put {w : World} {l : Nat} {o o' : Obj} (h : w.heap[l]? = some o) (h1 : noCells o = true) (h2 : noCells o' = true) : Turns w (w.putObj l o') l :=
  ⟨World.putObj_size, fun b hb => World.putObj_heap_other hb, ⟨o, h, h1⟩, ⟨o', World.putObj_heap_same (Array.getElem?_eq_some_iff.1 h).1, h2⟩, rfl, rfl⟩

section
variable {C : Ctx} {N : Nat} {w w' : World} {l : Nat}

theorem Turns.cell (t : Turns w w' l) {a : Addr} {v : Value} (h : w.cell? a = some v) : w'.cell? a = some v := by
  by_cases hb : a.block = l
  · obtain ⟨o, h1, h2⟩ := t.was
    unfold World.cell? at h
    rw [hb, h1] at h
    cases o <;> simp [noCells] at h2 <;> simp at h
  · unfold World.cell? at *
    rw [t.other _ hb]; exact h

theorem Turns.csize (t : Turns w w' l) (c : Nat) : csize w' c = csize w c := by
  unfold AM.csize
  by_cases hb : c = l
  · subst hb
    obtain ⟨o, h1, h2⟩ := t.was
    obtain ⟨o', k1, k2⟩ := t.is
    rw [h1, k1]
    cases o <;> simp [noCells] at h2 <;> cases o' <;> simp [noCells] at k2 <;> rfl
  · rw [t.other _ hb]

mutual
theorem R.turn (t : Turns w w' l) : ∀ (x : AV) (v : Value), R C N w x v → R C N w' x v
  | .pr _ _, v, hr => by unfold R at *; exact hr
  | .sr a off sz len cap, v, hr => by
    unfold R at *
    obtain ⟨ad, k, h1, h2, h3, h4, h5⟩ := hr
    exact ⟨ad, k, h1, h2, h3, h4, fun c o hc => by rw [t.csize]; exact h5 c o hc⟩
  | .mp _, v, hr => by unfold R at *; exact hr
  | .it _, v, hr => by unfold R at *; exact hr
  | .stp _, v, hr => by unfold R at *; exact hr
  | .yl _, v, hr => by unfold R at *; exact hr
  | .pv cs, v, hr => by
    unfold R at *
    obtain ⟨c, o, h1, h2, h3⟩ := hr
    exact ⟨c, o, h1, h2, RC.turn t cs c o h3⟩
  | .sv cs sz len cap, v, hr => by
    unfold R at *
    obtain ⟨ad, q, h1, h2, h3, h4, h5, h6, h7⟩ := hr
    exact ⟨ad, q, h1, h2, h3, h4, h5, h6, RC.turn t cs ad.block ad.off h7⟩
  | .fn f p q, v, hr => by
    unfold R at *
    obtain ⟨a, c, h1, h2, h3⟩ := hr
    exact ⟨a, c, h1, RL.turn t p _ h2, RL.turn t q _ h3⟩
  | .ifc ty x, v, hr => by
    unfold R at *
    obtain ⟨y, h1, h2⟩ := hr
    exact ⟨y, h1, R.turn t x y h2⟩
  | .agg cs, v, hr => by
    unfold R at *
    obtain ⟨a, h1, h2, h3⟩ := hr
    exact ⟨a, h1, RL.turn t cs _ h2, h3⟩
  | .tup vs, v, hr => by
    unfold R at *
    obtain ⟨a, h1, h2⟩ := hr
    exact ⟨a, h1, RL.turn t vs _ h2⟩
  | .any, v, hr => by unfold R; trivial
  | .bool x, v, hr => by unfold R at *; exact hr
  | .int k' n, v, hr => by unfold R at *; exact hr
  | .str l, v, hr => by unfold R at *; exact hr
  | .nil y, v, hr => by unfold R at *; exact hr
theorem RC.turn (t : Turns w w' l) : ∀ (cs : List AV) (c o : Nat), RC C N w c cs o → RC C N w' c cs o
  | [], c, o, _ => by unfold RC; trivial
  | x :: r, c, o, hr => by
    unfold RC at *
    obtain ⟨⟨v, h1, h2, h3⟩, h4⟩ := hr
    exact ⟨⟨v, t.cell h1, h2, R.turn t x v h3⟩, RC.turn t r c (o + 1) h4⟩
theorem RL.turn (t : Turns w w' l) : ∀ (l : List AV) (vs : List Value), RL C N w l vs → RL C N w' l vs
  | [], [], _ => by unfold RL; trivial
  | x :: r, v :: s, hr => by
    unfold RL at *
    exact ⟨R.turn t x v hr.1, RL.turn t r s hr.2⟩
  | [], _ :: _, hr => by unfold RL at hr; exact hr.elim
  | _ :: _, [], hr => by unfold RL at hr; exact hr.elim
end

theorem ER.turn (t : Turns w w' l) : ∀ {l : List (Key × AV)} {L : List MapEntry}, ER C N w l L → ER C N w' l L
  | [], [], _ => by unfold ER; trivial
  | x :: r, f :: s, h => by unfold ER at *; exact ⟨⟨h.1.1, R.turn t _ _ h.1.2⟩, ER.turn t h.2⟩
  | [], _ :: _, h => by unfold ER at h; exact h.elim
  | _ :: _, [], h => by unfold ER at h; exact h.elim

theorem OR.turn {P : Program} {σ : Sto} {a : Nat} {O : AO} (h : OR P C w σ a O) (t : Turns w w' l) (hl : ¬ C.own l) : OR P C w' σ a O := by
  have hh : ∀ {a c o}, C.loc a = some (c, o) → w'.heap[c]? = w.heap[c]? := fun {a c o} hc => t.other c (fun e => hl (.inr ⟨a, o, e ▸ hc⟩))
  cases O with
  | cells vs =>
    obtain ⟨c, o, cs, T, h1, h2, h3⟩ := h
    exact ⟨c, o, cs, T, h1, (hh h1).trans h2, RC.turn t _ _ _ h3⟩
  | map kt es ver =>
    obtain ⟨c, E, clock, h1, h2, h3⟩ := h
    obtain ⟨L, k1, k2⟩ := h3.perm
    exact ⟨c, E, clock, h1, (hh h1).trans h2, h3.typed, ⟨L, k1, ER.turn t k2⟩, h3.keys, h3.born, h3.apart⟩
  | iter m ver left cur =>
    cases m with
    | none =>
      obtain ⟨c, since, seen, last, h1, h2, h3⟩ := h
      exact ⟨c, since, seen, last, h1, (hh h1).trans h2, h3⟩
    | some m =>
      obtain ⟨h0, c, cm, since, seen, last, h1, h2, h3⟩ := h
      refine ⟨h0, c, cm, since, seen, last, h1, (hh h1).trans h2, fun kt es' v' hg => ?_⟩
      obtain ⟨k1, k2⟩ := h3 kt es' v' hg
      refine ⟨k1, fun hv => ?_⟩
      obtain ⟨E, q1, q2, q3, ⟨L, q4, q5⟩, q6⟩ := k2 hv
      exact ⟨E, q1, (hh q1).trans q2, q3, ⟨L, q4, ER.turn t q5⟩, fun k x hk => let ⟨f, f1, f2, f3, f4⟩ := q6 k x hk; ⟨f, f1, f2, f3, R.turn t _ _ f4⟩⟩
  | stamp m ver k =>
    obtain ⟨h0, h3⟩ := h
    refine ⟨h0, fun kt es' v' hg => ?_⟩
    obtain ⟨k1, k2⟩ := h3 kt es' v' hg
    refine ⟨k1, fun hv => ?_⟩
    obtain ⟨cm, E, clock, q1, q2, f⟩ := k2 hv
    exact ⟨cm, E, clock, q1, (hh q1).trans q2, f⟩

theorem Sim.turn {P : Program} {σ : Sto} (h : Sim P C w σ) (t : Turns w w' l) (hl : ¬ C.own l) : Sim P C w' σ :=
  ⟨fun a O hg => (h.obj a O hg).turn t hl, h.bound, h.dom, h.inj, fun a c o hc => by rw [t.size]; exact h.lt a c o hc, fun b hb => by rw [t.size]; exact h.rlt b hb, h.rdis⟩

/- a number is laid aside -/
def Sto.bump (σ : Sto) : Sto := match σ with | ⟨t, n⟩ => forceN (n + 1) fun n => ⟨t, n⟩
theorem nx_bump (σ : Sto) : nx σ.bump = nx σ + 1 := by cases σ; simp only [Sto.bump, forceN_eq, nx]
theorem get_bump (σ : Sto) (a : Nat) : σ.bump.get a = σ.get a := by cases σ; simp only [Sto.bump, forceN_eq, Sto.get]

theorem Sim.bump {P : Program} {σ : Sto} (h : Sim P C w σ) (n : Int) :
    Sim P (C.addStm (nx σ) n) w σ.bump ∧ Ext C (nx σ) w (C.addStm (nx σ) n) (nx σ + 1) w := by
  have hne : ∀ {a}, a < nx σ → ¬ a = nx σ := fun h => by omega
  have e : Ext C (nx σ) w (C.addStm (nx σ) n) (nx σ + 1) w := ⟨by omega, Nat.le_refl _, fun b _ ho => ⟨ho, rfl⟩, fun _ _ _ h => h,
    fun a ha => by simp [Ctx.addStm, hne ha], fun _ _ _ _ _ => rfl, ⟨rfl, fun _ _ => rfl⟩, rfl, rfl⟩
  refine ⟨⟨fun a X hg => ?_, fun a X hg => ?_, fun a q hq => ?_, h.inj, h.lt, h.rlt, h.rdis⟩, e⟩
  · rw [get_bump] at hg
    refine (h.obj a X hg).ext (by rw [nx_bump]; exact e) (h.bound a X hg) rfl (fun _ _ _ => rfl) fun x hx kt es' v' hg' => ?_
    rw [get_bump] at hg'
    exact ⟨kt, es', v', hg', Nat.le_refl _, fun _ => ⟨rfl, fun _ _ _ => rfl⟩⟩
  · rw [nx_bump]; rw [get_bump] at hg; have := h.bound a X hg; omega
  · rw [get_bump]; exact h.dom a q hq
end

end Go.AM

/- Code run with hooks: a region, or a range over a function, may be run in another way. -/
namespace Go.AM
open Go

structure Hooks where
  reg : Nat → Option (Array Oper → St → Out)
  rng : Operand → Array Tmp → Code → Code → St → Out

def codeH (E : Env) (lf : Nat) (R : Rec) (H : Hooks) : Code → St → Out
  | .region id ops draw, s => match H.reg id with
    | some g => match draw with | false => g ops s | true => none
    | none => codeA E lf R (.region id ops draw) s
  | .rangeFunc f ps a b, s => H.rng f ps a b s
  | .seq a b, s => match codeH E lf R H a s with
    | some l => bindL (codeH E lf R H b) l
    | none => none
  | .cond c a b, s => match opd E s.tm c with
    | .bool true => codeH E lf R H a s
    | .bool false => codeH E lf R H b s
    | _ => none
  | .block id a, s => match codeH E lf R H a s with | some l => some (unExit id l) | none => none
  | .loop a, s => match iterL (codeH E lf R H a) lf s with
    | some l => joinAll l
    | none => none
  | .skip, s => some [(.normal, s)]
  | .exit id, s => some [(.exit id, s)]
  | .ret, s => some [(.ret, s)]
  | _, _ => none

def SoundHook (E : Env) (Inv : Ctx → Nat → World → Prop) (g : St → Out) (c : Code) : Prop :=
  ∀ (C : Ctx) (w : World) (s : St) (a : Act) (l : List (XE × St)), Inv C (nx s.sto) w → SSt E C w s a → g s = some l → c.wp E.P (Lands E C (nx s.sto) w l) a w

structure HooksOk (E : Env) (Inv : Ctx → Nat → World → Prop) (H : Hooks) : Prop where
  reg : ∀ id g, H.reg id = some g → ∀ ops, SoundHook E Inv (g ops) (.region id ops false)
  rng : ∀ f ps a b, SoundHook E Inv (H.rng f ps a b) (.rangeFunc f ps a b)

section
variable {E : Env} {Rr : Rec} {Inv : Ctx → Nat → World → Prop} {H : Hooks}

theorem wp_iterH (hInv : ∀ {C N w C' N' w'}, Inv C N w → Ext C N w C' N' w' → Inv C' N' w') {c : Code} {body : St → Out} (hbody : SoundHook E Inv body c) :
    ∀ (n : Nat) (C : Ctx) (w : World) (s : St) (a : Act) (l : List (XE × St)), Inv C (nx s.sto) w → SSt E C w s a → iterL body n s = some l → ∀ (b : Frame) (k : List Item) (cs : List Frame),
      ∃ e a' w', Lands E C (nx s.sto) w l e a' w' ∧ Arrives E.P (lone (b.at a (.code c :: .inLoop c :: k)) cs w) b k cs e a' w'
  | 0, _, _, _, _, _, _, _, h, _, _, _ => by simp [iterL] at h
  | n + 1, C, w, s, a, l, hi, st, h, b, k, cs => by
    simp only [iterL] at h
    split at h
    · rename_i m hm
      obtain ⟨e, a₁, w₁, hq, harr⟩ := hbody C w s a m hi st hm b (.inLoop c :: k) cs
      obtain ⟨y, hy, C₁, hye, hst, hext⟩ := hq
      obtain ⟨b1, b2⟩ := bindL_spec h y hy
      obtain ⟨x, s₁⟩ := y
      cases x with
      | normal =>
        obtain ⟨m₁, h1, h2⟩ := b1 rfl
        subst hye
        obtain ⟨e₂, a₂, w₂, hq₂, harr₂⟩ := wp_iterH hInv hbody n C₁ w₁ s₁ a₁ m₁ (hInv hi hext) hst h1 b k cs
        exact ⟨e₂, a₂, w₂, hq₂.mono h2 hext, .of_steps (Steps.trans harr (.one step_inLoop)) harr₂⟩
      | exit id =>
        subst hye
        exact ⟨.exit id, a₁, w₁, ⟨_, b2 (by simp), C₁, rfl, hst, hext⟩, .pass (x := .inLoop c) rfl (fun _ _ => .inl (by simp)) harr⟩
      | ret =>
        subst hye
        exact ⟨.ret, a₁, w₁, ⟨_, b2 (by simp), C₁, rfl, hst, hext⟩, .pass (x := .inLoop c) rfl (fun _ _ => .inl (by simp)) harr⟩
    · cases h

theorem codeH_sound (hR : RecSound E Rr) (hD : DrawSound E Rr) (hInv : ∀ {C N w C' N' w'}, Inv C N w → Ext C N w C' N' w' → Inv C' N' w') (lf : Nat)
    (ho : HooksOk E Inv H) : ∀ (c : Code), SoundHook E Inv (codeH E lf Rr H c) c := by
  intro c
  induction c with
  | skip => intro C w s a l hi st h; simp only [codeH, Option.some.injEq] at h; subst h; exact wp_skip ⟨_, List.mem_singleton_self _, C, rfl, st, Ext.refl _ _ _⟩
  | exit id => intro C w s a l hi st h; simp only [codeH, Option.some.injEq] at h; subst h; exact wp_exit ⟨_, List.mem_singleton_self _, C, rfl, st, Ext.refl _ _ _⟩
  | ret => intro C w s a l hi st h; simp only [codeH, Option.some.injEq] at h; subst h; exact wp_ret ⟨_, List.mem_singleton_self _, C, rfl, st, Ext.refl _ _ _⟩
  | region id ops draw =>
    intro C w s a l hi st h
    simp only [codeH] at h
    split at h
    · rename_i g hg
      split at h
      · exact ho.reg id g hg ops C w s a l hi st h
      · cases h
    · exact codeA_sound hR hD lf _ C w s a l st h
  | rangeFunc f ps x y ihx ihy =>
    intro C w s a l hi st h
    simp only [codeH] at h
    exact ho.rng f ps x y C w s a l hi st h
  | seq x y ihx ihy =>
    intro C w s a l hi st h
    simp only [codeH] at h
    split at h
    · rename_i m hm
      refine wp_seq (wp_mono (ihx C w s a m hi st hm) fun e a₁ w₁ hq => ?_)
      obtain ⟨z, hz, C₁, hze, hst, hext⟩ := hq
      obtain ⟨b1, b2⟩ := bindL_spec h z hz
      obtain ⟨x', s₁⟩ := z
      subst hze
      cases x' with
      | normal =>
        obtain ⟨m₁, h1, h2⟩ := b1 rfl
        exact wp_mono (ihy C₁ w₁ s₁ a₁ m₁ (hInv hi hext) hst h1) fun e a₂ w₂ hq₂ => hq₂.mono h2 hext
      | exit id => exact ⟨_, b2 (by simp), C₁, rfl, hst, hext⟩
      | ret => exact ⟨_, b2 (by simp), C₁, rfl, hst, hext⟩
    · cases h
  | cond c x y ihx ihy =>
    intro C w s a l hi st h
    simp only [codeH] at h
    have hc := opd_sound st.glob st.tmps c
    split at h
    · rename_i heq; rw [heq] at hc; unfold R at hc
      exact wp_cond_true hc (ihx C w s a l hi st h)
    · rename_i heq; rw [heq] at hc; unfold R at hc
      exact wp_cond_false hc (ihy C w s a l hi st h)
    · cases h
  | block id x ih =>
    intro C w s a l hi st h
    simp only [codeH] at h
    split at h
    · rename_i m hm
      cases h
      refine wp_block (wp_mono (ih C w s a m hi st hm) fun e a₁ w₁ hq => ?_)
      obtain ⟨z, hz, C₁, hze, hst, hext⟩ := hq
      obtain ⟨x', s₁⟩ := z
      subst hze
      rcases unExit_spec (id := id) hz with ⟨h1, h2⟩ | ⟨h1, h2⟩
      · simp only at h1; subst h1
        simp only [exitOf, Exit.inBlock, if_true]
        exact ⟨_, h2, C₁, rfl, hst, hext⟩
      · cases x' with
        | normal => exact ⟨_, h2, C₁, rfl, hst, hext⟩
        | ret => exact ⟨_, h2, C₁, rfl, hst, hext⟩
        | exit j =>
          have hj : j ≠ id := fun hh => h1 (by rw [hh])
          simp only [exitOf, Exit.inBlock, if_neg hj]
          exact ⟨_, h2, C₁, rfl, hst, hext⟩
    · cases h
  | loop x ih =>
    intro C w s a l hi st h
    simp only [codeH] at h
    split at h
    · rename_i m hm
      intro b k cs
      obtain ⟨e, a', w', ⟨y, hy, C₁, hye, hst, hext⟩, harr⟩ := wp_iterH hInv ih lf C w s a m hi st hm b k cs
      obtain ⟨z, hz, hze, hzs⟩ := joinAll_spec (E := E) h y hy
      obtain ⟨C₂, q1, q2⟩ := hzs hst
      exact ⟨e, a', w', ⟨z, hz, C₂, by rw [hze]; exact hye, q1, hext.trans q2⟩, .of_steps (Steps.one step_loop) harr⟩
    · cases h
  | _ => intro C w s a l hi st h; simp [codeH] at h

/- a call, out of its body's run -/
def endsH (E : Env) (fn : Func) (l : List (XE × St)) : Res :=
  match optAll (l.map (finA E fn.results.toList)) with
  | some rs => joinR rs
  | none => none

theorem start_st {C : Ctx} {w : World} {σ : Sto} {args : List AV} {vs : Array Value} {fn : Func} (hs : Sim E.P C w σ) (hg : Glob C (nx σ) w E) (hargs : RL C (nx σ) w args vs.toList) (hle : args.length ≤ fn.ntmps) :
    SSt E C w ⟨startTm args 0 .e, fn.ntmps, [], σ⟩ { tmps := vs ++ Array.replicate (fn.ntmps - vs.size) undef, defers := [] } := by
  have hlen := hargs.length
  simp only [Array.length_toList] at hlen
  refine ⟨hs, hg, fun i y hy => ?_, by simp; omega, by unfold DR; trivial⟩
  simp only at hy
  rw [startTm_get] at hy
  split at hy
  · rename_i hi
    rw [Nat.sub_zero] at hy
    obtain ⟨x, k1, k2⟩ := hargs.get i y hy
    have : (vs ++ Array.replicate (fn.ntmps - vs.size) undef).getD i undef = x := by
      rw [Array.getD_eq_getD_getElem?, Array.getElem?_append_left (by omega), ← Array.getElem?_toList, k1]; rfl
    rw [this]; exact k2
  · simp [Tr.get] at hy

theorem calls_of_lands (hmk : E.dsum markN = none) (hdsum : ∀ f d, E.dsum f = some d → DSound E f d) {f : FuncId} {fn : Func} {c : Code} (hfn : E.P.funcs[f]? = some fn) (hc : fn.body = some c)
    {C : Ctx} {w : World} {σ σ' : Sto} {vs : Array Value} {v : AV} {l : List (XE × St)} (h : endsH E fn l = some (v, σ'))
    (hwp : c.wp E.P (Lands E C (nx σ) w l) { tmps := vs ++ Array.replicate (fn.ntmps - vs.size) undef, defers := [] } w) : Calls E.P f vs w (Gives E.P C (nx σ) w v σ') := by
  unfold endsH at h
  split at h
  · rename_i rs hrs
    refine calls_of_wp_defers hfn hc ?_
    refine wp_mono hwp fun e a' w' hq => ?_
    obtain ⟨y, hy, C₁, hye, hst, hext⟩ := hq
    obtain ⟨z, hz, hfin⟩ := optAll_spec hrs _ (List.mem_map_of_mem hy)
    have fin : y.1 = .normal ∨ y.1 = .ret → Leaves E.P fn a'.tmps (Gives E.P C (nx σ) w v σ') a'.defers .returning w' := by
      intro hx
      have hfin' : (match deferA E y.2.df y.2.sto with
        | some σ => match resA E.P y.2.tm σ fn.results.toList with
          | some vs => some (tupA vs, σ)
          | none => none
        | none => none) = some z := by
        obtain ⟨x, s⟩ := y
        simp only at hx
        rcases hx with rfl | rfl <;> exact hfin
      split at hfin'
      · rename_i σ₁ hσ₁
        split at hfin'
        · rename_i vs₁ hvs₁
          cases hfin'
          refine leaves_sound hmk hdsum y.2.df C₁ w' y.2.sto a'.defers _ hst.sim hst.glob hst.tmps hst.dfs hσ₁ hvs₁ fun x w₂ C₂ q1 q2 q3 => ?_
          obtain ⟨C₃, k1, k2, k3⟩ := joinR_spec h _ hz q1 q3
          exact ⟨C₃, k1, hext.trans (q2.trans k2), k3⟩
        · cases hfin'
      · cases hfin'
    obtain ⟨x, s⟩ := y
    subst hye
    cases x with
    | normal => exact fin (.inl rfl)
    | ret => exact fin (.inr rfl)
    | exit id => simp [finA] at hfin
  · cases h
end
end Go.AM

/- Regions within a round of a range over a function; regions that call the loop's yield. -/
namespace Go.AM
open Go

def isDefer : Op → Bool
  | .defer _ => true
  | _ => false

def wideR (ro : Option Nat) : Fence := { Fence.wide with round := ro }

theorem callsR {ro : Option Nat} {n : Nat} {P : Program} {f : FuncId} {args : Array Value} {w : World} {R : Ending → World → Prop} (h : Calls P f args w R) : CallsIn (wideR ro) n P f args w R :=
  (callsIn_wide (n := n)).2 h

theorem rowsR {ro : Option Nat} {n : Nat} {P : Program} {row : String} {args : Array Value} {w : World} {R : Value → World → Prop} (h : Rows P row args w R) : RowsIn (wideR ro) n P row args w R :=
  fun c cs _ => let ⟨v, w', r, s⟩ := h c cs; ⟨v, w', r, stepsIn_wide.2 s⟩

theorem wpInR_of_wp {ro : Option Nat} {n : Nat} {P : Program} {o : Oper} {a : Act} {w : World} {next : Act → World → Prop} {Q : Exit → Act → World → Prop} (hd : isDefer o.op = false) (h : o.wp P a w next Q) :
    o.wpIn (wideR ro) n P a w next Q := by
  refine ⟨fun _ _ => trivial, ?_⟩
  rw [Oper.semAt_eq _ _ _ (fun c hc => by rw [hc] at hd; cases hd)]
  unfold Oper.wp at h
  generalize (execOp a.eval o).run P w = r at h
  cases r with
  | ok x w' =>
    cases x with
    | value v => exact h
    | skip => exact h
    | defer d => exact h
    | enter f args => exact ⟨fun hh => (by cases hh), callsR h⟩
    | row row args => exact ⟨fun hh => (by cases hh), rowsR h⟩
    | round _ _ _ _ _ => exact h.elim
    | _ => exact h.elim
  | halt x w' =>
    cases x with
    | panic v => exact h
    | _ => exact h.elim

def noDefers (l : List Oper) : Bool := l.all fun o => !isDefer o.op

section
variable {E : Env} {Rr : Rec} {C : Ctx} {w : World}

theorem regionIn_sound (hR : RecSound E Rr) {ro : Option Nat} {n : Nat} {ops : Array Oper} {Q : Exit → Act → World → Prop} {s' : St} : ∀ (r : List Oper) (i : Nat) (C : Ctx) (w : World) (s : St) (a : Act), noDefers r = true → (∀ j, r[j]? = ops[i + j]?) → SSt E C w s a → regionA E ops.toList Rr r s = some s' →
    (∀ C' w' a', SSt E C' w' s' a' → Ext C (nx s.sto) w C' (nx s'.sto) w' → Q .normal a' w') → wpOpsIn (wideR ro) n E.P ops Q (List.range' i r.length) a w
  | [], i, C, w, s, a, _, _, st, h, hQ => by
    simp only [regionA, Option.some.injEq] at h; subst h
    simp only [List.length_nil, List.range'_zero, wpOpsIn]
    exact hQ C w a st (Ext.refl _ _ _)
  | o :: r, i, C, w, s, a, hn, hr, st, h, hQ => by
    simp only [regionA] at h
    simp only [noDefers, List.all_cons, Bool.and_eq_true] at hn
    split at h
    · rename_i s1 h1
      have ho : ops[i]? = some o := by have := hr 0; simpa using this.symm
      simp only [List.length_cons, List.range'_succ, wpOpsIn, ho]
      have := oneA_sound (K := wpOpsIn (wideR ro) n E.P ops Q (List.range' (i + 1) r.length)) (Q := Q) hR st h1 fun C' w' a' st' e' =>
        regionIn_sound hR r (i + 1) C' w' s1 a' hn.2 (fun j => by have := hr (j + 1); simp only [List.getElem?_cons_succ] at this; rw [this]; congr 1; omega) st' h fun C2 w2 a2 st2 e2 => hQ C2 w2 a2 st2 (e'.trans e2)
      rcases this with ⟨h2, h3⟩ | ⟨h2, h3⟩
      · rw [if_pos h2]; exact wpInR_of_wp (by simpa using hn.1) h3
      · rw [if_neg (by rw [h2]; simp)]; exact ⟨fun _ _ => trivial, h3⟩
    · cases h
end

/- ===== calls of yield ===== -/
def yieldOf (E : Env) (tm : Tr AV) (aY : Nat) (op : Op) : Option (List AV) := match op with
  | .call c => match c.callee with
    | .value v => match opd E tm v with
      | .yl a => cond (Nat.beq a aY) (some (opds E tm c.args.toList)) none
      | _ => none
    | _ => none
  | _ => none

def oneY (E : Env) (ops : List Oper) (Hy : List AV → Sto → Option Sto) (aY : Nat) (o : Oper) (R : Rec) (s : St) : Option St :=
  match guardA ops o s.tm with
  | some true => match yieldOf E s.tm aY o.op with
    | some args => match Hy args s.sto with
      | some σ => match putA o.dst s.tm s.nt (.bool true) with
        | some tm => some ⟨tm, s.nt, s.df, σ⟩
        | none => none
      | none => none
    | none => oneA E ops o R s
  | _ => oneA E ops o R s

def regionY (E : Env) (ops : List Oper) (Hy : List AV → Sto → Option Sto) (aY : Nat) (R : Rec) : List Oper → St → Option St
  | [], s => some s
  | o :: r, s => match oneY E ops Hy aY o R s with
    | some s' => regionY E ops Hy aY R r s'
    | none => none

/- the loop's record lies ready, and is nobody's -/
def LoopInv (aY : Nat) (tm : Tr AV) (r : Loop) (C : Ctx) (N : Nat) (w : World) : Prop :=
  (aY < N ∧ TR C N w tm r.tmps) ∧ ¬ C.own (C.stm aY).toNat ∧ w.heap[(C.stm aY).toNat]? = some (.loop r)

theorem LoopInv.ext {aY : Nat} {tm : Tr AV} {r : Loop} {C : Ctx} {N : Nat} {w : World} {C' : Ctx} {N' : Nat} {w' : World} (h : LoopInv aY tm r C N w) (e : Ext C N w C' N' w') : LoopInv aY tm r C' N' w' := by
  obtain ⟨⟨h1, h4⟩, h2, h3⟩ := h
  unfold LoopInv
  rw [e.stm aY h1]
  obtain ⟨k1, k2⟩ := e.keep _ (Array.getElem?_eq_some_iff.1 h3).1 h2
  exact ⟨⟨Nat.lt_of_lt_of_le h1 e.next, h4.ext e⟩, k1, k2.trans h3⟩

def YSound (E : Env) (aY : Nat) (tm : Tr AV) (r : Loop) (Hy : List AV → Sto → Option Sto) : Prop :=
  ∀ (C : Ctx) (w : World) (σ : Sto) (args : List AV) (vs : Array Value) (σ' : Sto), LoopInv aY tm r C (nx σ) w → Sim E.P C w σ → Glob C (nx σ) w E → RL C (nx σ) w args vs.toList → Hy args σ = some σ' →
    vs.size = r.params.size ∧ ∀ n, RoundIn Fence.wide n E.P (C.stm aY).toNat r.fn ((r.params.zip vs).foldl (fun tmps (t, a) => tmps.setIfInBounds t a) r.tmps) r.assign r.body w fun e w' =>
      e = .returned (.bool true) ∧ ∃ C', Sim E.P C' w' σ' ∧ Ext C (nx σ) w C' (nx σ') w'

section
variable {E : Env} {Rr : Rec} {C : Ctx} {w : World} {aY : Nat} {tm₀ : Tr AV} {rc : Loop} {Hy : List AV → Sto → Option Sto}

theorem oneY_sound (hR : RecSound E Rr) (hY : YSound E aY tm₀ rc Hy) {s s' : St} {a : Act} (hi : LoopInv aY tm₀ rc C (nx s.sto) w) (st : SSt E C w s a) {ops : Array Oper} {o : Oper} (hnd : isDefer o.op = false) (h : oneY E ops.toList Hy aY o Rr s = some s')
    {n : Nat} {K : Act → World → Prop} {Q : Exit → Act → World → Prop} (hK : ∀ C' w' a', SSt E C' w' s' a' → Ext C (nx s.sto) w C' (nx s'.sto) w' → K a' w') :
    (Region.wanted o (yielded ops a.tmps) = true ∧ o.wpIn Fence.wide n E.P a w K Q) ∨ (Region.wanted o (yielded ops a.tmps) = false ∧ K (a.put o.dst undef) w) := by
  have plain : oneA E ops.toList o Rr s = some s' → (Region.wanted o (yielded ops a.tmps) = true ∧ o.wpIn Fence.wide n E.P a w K Q) ∨ (Region.wanted o (yielded ops a.tmps) = false ∧ K (a.put o.dst undef) w) := fun h1 => by
    rcases oneA_sound (Q := Q) hR st h1 hK with ⟨h2, h3⟩ | h2
    · exact .inl ⟨h2, wpInR_of_wp (ro := none) hnd h3⟩
    · exact .inr h2
  unfold oneY at h
  split at h
  · rename_i hg
    split at h
    · rename_i args hargs
      refine .inl ⟨guardA_sound st.tmps hg, ?_⟩
      split at h
      · rename_i σ₁ hσ₁
        split at h
        · rename_i tm htm
          cases h
          unfold yieldOf at hargs
          split at hargs
          · rename_i c hop
            split at hargs
            · rename_i v hc
              split at hargs
              · rename_i a' hv
                cases hb : Nat.beq a' aY
                · simp [hb] at hargs
                · simp only [hb, cond_true, Option.some.injEq] at hargs
                  subst hargs
                  have ha := Nat.eq_of_beq_eq_true hb
                  subst ha
                  have hV := opd_sound st.glob st.tmps v
                  rw [hv] at hV
                  unfold R at hV
                  obtain ⟨hV, _⟩ := hV
                  have hA := opds_sound st.glob st.tmps c.args.toList
                  have hA' : RL C (nx s.sto) w (opds E s.tm c.args.toList) (c.args.map a.eval).toList := by
                    simp only [Array.toList_map]; exact hA
                  obtain ⟨hsz, hround⟩ := hY C w s.sto _ _ σ₁ hi st.sim st.glob hA' hσ₁
                  obtain ⟨_, _, hrec⟩ := hi
                  have hy := run_yield (P := E.P) (args := c.args.map a.eval) hrec hsz
                  have hrun : (execOp a.eval o).run E.P w = .ok (.round (C.stm a').toNat rc.fn ((rc.params.zip (c.args.map a.eval)).foldl (fun tmps (t, a) => tmps.setIfInBounds t a) rc.tmps) rc.assign rc.body) w := by
                    simp [execOp, hop, resolve, hc, hV, Deferred.ofValue, invoke]
                    simpa using hy
                  refine ⟨fun _ _ => trivial, ?_⟩
                  rw [Oper.semAt_eq _ _ _ (fun c hc => by rw [hc] at hnd; cases hnd), hrun, Oper.uponIn_round]
                  refine ⟨fun hh => (by cases hh), (hround (n - 1)).mono fun e w' he => ?_⟩
                  obtain ⟨rfl, C', k1, k2⟩ := he
                  exact hK C' w' _ (st.put k1 k2 (by unfold R; rfl) htm) k2
              · cases hargs
            · cases hargs
          · cases hargs
        · cases h
      · cases h
    · exact plain h
  · exact plain h

theorem regionY_sound (hR : RecSound E Rr) (hY : YSound E aY tm₀ rc Hy) {n : Nat} {ops : Array Oper} {Q : Exit → Act → World → Prop} {s' : St} : ∀ (r : List Oper) (i : Nat) (C : Ctx) (w : World) (s : St) (a : Act), noDefers r = true → (∀ j, r[j]? = ops[i + j]?) → LoopInv aY tm₀ rc C (nx s.sto) w → SSt E C w s a → regionY E ops.toList Hy aY Rr r s = some s' →
    (∀ C' w' a', SSt E C' w' s' a' → Ext C (nx s.sto) w C' (nx s'.sto) w' → Q .normal a' w') → wpOpsIn Fence.wide n E.P ops Q (List.range' i r.length) a w
  | [], i, C, w, s, a, _, _, _, st, h, hQ => by
    simp only [regionY, Option.some.injEq] at h; subst h
    simp only [List.length_nil, List.range'_zero, wpOpsIn]
    exact hQ C w a st (Ext.refl _ _ _)
  | o :: r, i, C, w, s, a, hn, hr, hi, st, h, hQ => by
    simp only [regionY] at h
    simp only [noDefers, List.all_cons, Bool.and_eq_true] at hn
    split at h
    · rename_i s1 h1
      have ho : ops[i]? = some o := by have := hr 0; simpa using this.symm
      simp only [List.length_cons, List.range'_succ, wpOpsIn, ho]
      have := oneY_sound (n := n) (K := wpOpsIn Fence.wide n E.P ops Q (List.range' (i + 1) r.length)) (Q := Q) hR hY hi st (by simpa using hn.1) h1 fun C' w' a' st' e' =>
        regionY_sound hR hY r (i + 1) C' w' s1 a' hn.2 (fun j => by have := hr (j + 1); simp only [List.getElem?_cons_succ] at this; rw [this]; congr 1; omega) (hi.ext e') st' h fun C2 w2 a2 st2 e2 => hQ C2 w2 a2 st2 (e'.trans e2)
      rcases this with ⟨h2, h3⟩ | ⟨h2, h3⟩
      · rw [if_pos h2]; exact h3
      · rw [if_neg (by rw [h2]; simp)]; exact ⟨fun _ _ => trivial, h3⟩
    · cases h

/- the hook for a region that calls yield -/
def hookY (E : Env) (R : Rec) (Hy : List AV → Sto → Option Sto) (aY : Nat) (ops : List Oper) (s : St) : Out :=
  match noDefers ops with
  | true => match regionY E ops Hy aY R ops s with
    | some s' => some [(.normal, s')]
    | none => none
  | false => none

theorem hookY_sound (hR : RecSound E Rr) (hY : YSound E aY tm₀ rc Hy) (id : Nat) (ops : Array Oper) : SoundHook E (LoopInv aY tm₀ rc) (hookY E Rr Hy aY ops.toList) (.region id ops false) := by
  intro C w s a l hi st h
  unfold hookY at h
  split at h
  · rename_i hn
    split at h
    · rename_i s' hs'
      cases h
      refine (wpIn_wide (n := 0)).1 (wpIn_region ?_)
      rw [List.range_eq_range', ← Array.length_toList]
      exact regionY_sound hR hY ops.toList 0 C w s a hn (fun j => by simp) hi st hs' fun C₂ w₂ a₂ st₂ e₂ => ⟨_, List.mem_singleton_self _, C₂, rfl, st₂, e₂⟩
    · cases h
  · cases h
end
end Go.AM

/- A range over a function: its rounds, the iterator's call, the statement, and the function that holds it. -/
namespace Go.AM
open Go

section
variable {E : Env} {C C' C₁ C₂ : Ctx} {N N' N₁ N₂ : Nat} {w w' w₁ w₂ w₃ w₄ : World} {l : Nat}

theorem DR.turn (t : Turns w w' l) (hne : w.heap[l]? ≠ some (.deferred (some []))) : ∀ {df : List (Nat × List AV)} {ds : List Deferred}, DR C N w df ds → DR C N w' df ds
  | [], [], _ => by unfold DR; trivial
  | x :: r, d :: s, h => by
    unfold DR at *
    obtain ⟨h, h3⟩ := h
    refine ⟨?_, DR.turn t hne h3⟩
    rcases h with ⟨h0, cap, h1, h2⟩ | ⟨h0, a, b, h1, h2, h3, h4, h5⟩
    · exact .inl ⟨h0, cap, h1, RL.turn t _ _ h2⟩
    · refine .inr ⟨h0, a, b, h1, h2, h3, h4, ?_⟩
      rw [t.other _ (fun e => hne (e ▸ h5))]; exact h5
  | [], _ :: _, h => by unfold DR at h; exact h.elim
  | _ :: _, [], h => by unfold DR at h; exact h.elim

theorem SSt.turn {s : St} {a : Act} (st : SSt E C w s a) (t : Turns w w' l) (hl : ¬ C.own l) (hne : w.heap[l]? ≠ some (.deferred (some []))) : SSt E C w' s a :=
  ⟨st.sim.turn t hl, fun g cs hg => R.turn t _ _ (st.glob g cs hg), fun i v hv => R.turn t _ _ (st.tmps i v hv), st.size, st.dfs.turn t hne⟩

/- out, a turn, back -/
theorem Ext.around (e₁ : Ext C N w C₁ N₁ w₁) (t₁ : Turns w₁ w₂ l) (e₂ : Ext C₁ N₁ w₂ C₂ N₂ w₃) (t₂ : Turns w₃ w₄ l) (hl : ¬ C₁.own l) (hlt : l < w₁.heap.size) (back : w₄.heap[l]? = w₁.heap[l]?) :
    Ext C N w C₂ N₂ w₄ where
  next := Nat.le_trans e₁.next e₂.next
  size := by rw [t₂.size]; exact Nat.le_trans e₁.size (by have := e₂.size; rw [t₁.size] at this; exact this)
  keep b hb ho := by
    obtain ⟨k1, k2⟩ := e₁.keep b hb ho
    have hb1 : b < w₂.heap.size := by rw [t₁.size]; exact Nat.lt_of_lt_of_le hb e₁.size
    obtain ⟨k3, k4⟩ := e₂.keep b hb1 k1
    refine ⟨k3, ?_⟩
    by_cases h : b = l
    · subst h; rw [back, k2]
    · rw [t₂.other b h, k4, t₁.other b h, k2]
  loc a ha p hp := e₁.loc a ha p (e₂.loc a (Nat.lt_of_lt_of_le ha e₁.next) p hp)
  stm a ha := (e₂.stm a (Nat.lt_of_lt_of_le ha e₁.next)).trans (e₁.stm a ha)
  bsz a ha c o hc := by
    have ha' := Nat.lt_of_lt_of_le ha e₁.next
    rw [t₂.csize, e₂.bsz a ha' c o hc, t₁.csize]
    exact e₁.bsz a ha c o (e₂.loc a ha' _ hc)
  res := ⟨e₂.res.1.trans e₁.res.1, fun b hb => by
    have hb1 : C₁.res b := by rw [e₁.res.1]; exact hb
    have h : b ≠ l := fun e => hl (.inl (e ▸ hb1))
    rw [t₂.other b h, e₂.res.2 b hb1, t₁.other b h, e₁.res.2 b hb]⟩
  os := ⟨t₂.os.1.trans (e₂.os.1.trans (t₁.os.1.trans e₁.os.1)), t₂.os.2.trans (e₂.os.2.trans (t₁.os.2.trans e₁.os.2))⟩

/- a new block turns -/
theorem Ext.turnNew (e : Ext C N w C₁ N₁ w₁) (t : Turns w₁ w₂ l) (hl : ¬ C₁.own l) (hge : w.heap.size ≤ l) : Ext C N w C₁ N₁ w₂ where
  next := e.next
  size := by rw [t.size]; exact e.size
  keep b hb ho := by
    obtain ⟨k1, k2⟩ := e.keep b hb ho
    exact ⟨k1, by rw [t.other b (by omega), k2]⟩
  loc := e.loc
  stm := e.stm
  bsz a ha c o hc := by rw [t.csize]; exact e.bsz a ha c o hc
  res := ⟨e.res.1, fun b hb => by rw [t.other b (fun he => hl (.inl (by rw [e.res.1]; exact he ▸ hb))), e.res.2 b hb]⟩
  os := ⟨t.os.1.trans e.os.1, t.os.2.trans e.os.2⟩
end

/- one round -/
def roundA (E : Env) (R : Rec) (tm : Tr AV) (nt p : Nat) (opsA opsB : List Oper) (args : List AV) (σ : Sto) : Option Sto :=
  match args with
  | [x] => match noDefers opsA && noDefers opsB with
    | true => match putA (some p) tm nt x with
      | some tm' => match regionA E opsA R opsA ⟨tm', nt, [], σ⟩ with
        | some s₁ => match regionA E opsB R opsB s₁ with
          | some s₂ => some s₂.sto
          | none => none
        | none => none
      | none => none
    | false => none
  | _ => none

section
variable {E : Env} {Rr : Rec}

theorem rl_one {C : Ctx} {N : Nat} {w : World} {x : AV} {vs : Array Value} (h : RL C N w [x] vs.toList) : ∃ v, vs = #[v] ∧ R C N w x v := by
  obtain ⟨l⟩ := vs
  match l, h with
  | [], h => unfold RL at h; exact h.elim
  | [v], h => unfold RL at h; exact ⟨v, rfl, h.1⟩
  | _ :: _ :: _, h => unfold RL at h; have := h.2; unfold RL at this; exact this.elim

theorem roundA_sound (hR : RecSound E Rr) {aY : Nat} {tm : Tr AV} {nt p : Nat} {opsA opsB : Array Oper} {ia ib ic : Nat} {rc : Loop} (h1 : rc.state = .ready) (h2 : rc.pending = none) (hp : rc.params = #[p])
    (ha : rc.assign = .region ia opsA false) (hb : rc.body = .block ib (.region ic opsB false)) (hsz : rc.tmps.size = nt) : YSound E aY tm rc (roundA E Rr tm nt p opsA.toList opsB.toList) := by
  intro C w σ args vs σ' hi hs hg hargs h
  unfold roundA at h
  split at h
  · rename_i x
    obtain ⟨v, rfl, hx⟩ := rl_one hargs
    refine ⟨by simp [hp], fun n => ?_⟩
    split at h
    · rename_i hn
      simp only [Bool.and_eq_true] at hn
      split at h
      · rename_i tm' htm
        split at h
        · rename_i s₁ hs₁
          split at h
          · rename_i s₂ hs₂
            cases h
            have hi' := hi
            obtain ⟨⟨hY1, hTR⟩, hown, hrec⟩ := hi
            refine roundIn_of_wpIn (F := Fence.wide) trivial ?_
            rw [ha, hb, hp]
            have st0 : SSt E C w ⟨tm', nt, [], σ⟩ (({ tmps := rc.tmps, defers := [] } : Act).put (some p) v) := by
              obtain ⟨k1, k2, k3⟩ := TR.put (a := { tmps := rc.tmps, defers := [] }) hTR hsz htm hx
              exact ⟨hs, hg, k1, k2, by rw [k3]; unfold DR; trivial⟩
            have hact : ({ tmps := (#[p].zip #[v]).foldl (fun tmps (t, a) => tmps.setIfInBounds t a) rc.tmps, defers := [] } : Act) = ({ tmps := rc.tmps, defers := [] } : Act).put (some p) v := by
              simp [Act.put]
            rw [hact]
            refine wpIn_region ?_
            rw [List.range_eq_range', ← Array.length_toList]
            refine regionIn_sound (ro := some (C.stm aY).toNat) hR opsA.toList 0 C w _ _ hn.1 (fun j => by simp) st0 hs₁ fun C₁ w₁ a₁ st₁ e₁ => ?_
            obtain ⟨_, hown₁, hrec₁⟩ := hi'.ext e₁
            rw [e₁.stm aY hY1] at hown₁ hrec₁
            have hlt := (Array.getElem?_eq_some_iff.1 hrec₁).1
            have t₁ : Turns w₁ (w₁.putObj (C.stm aY).toNat (.loop { rc with state := .busy })) (C.stm aY).toNat := Turns.put hrec₁ rfl rfl
            refine ⟨_, run_beginRound hrec₁ h1, ?_⟩
            have st₂ := st₁.turn t₁ hown₁ (by rw [hrec₁]; simp)
            refine wpIn_block (wpIn_region ?_)
            rw [List.range_eq_range', ← Array.length_toList]
            refine regionIn_sound (ro := some (C.stm aY).toNat) hR opsB.toList 0 C₁ _ _ _ hn.2 (fun j => by simp) st₂ hs₂ fun C₂ w₃ a₃ st₃ e₂ => ?_
            have hbusy : (w₁.putObj (C.stm aY).toNat (.loop { rc with state := .busy })).heap[(C.stm aY).toNat]? = some (.loop { rc with state := .busy }) := World.putObj_heap_same hlt
            obtain ⟨hown₃, hk₃⟩ := e₂.keep (C.stm aY).toNat (by rw [t₁.size]; exact hlt) hown₁
            have hrec₃ := hk₃.trans hbusy
            have hend := run_endRound (P := E.P) none hrec₃
            have hback : ({ { rc with state := LoopState.busy } with state := if (none : Option Code).isNone then LoopState.ready else LoopState.done, pending := none } : Loop) = rc := by
              obtain ⟨s, pd, f, tt, ps, as, bo, d⟩ := rc
              simp only at h1 h2
              subst h1 h2
              rfl
            rw [hback] at hend
            have t₂ : Turns w₃ (w₃.putObj (C.stm aY).toNat (.loop rc)) (C.stm aY).toNat := Turns.put hrec₃ rfl rfl
            refine ⟨_, _, hend, rfl, C₂, st₃.sim.turn t₂ hown₃, ?_⟩
            refine Ext.around e₁ t₁ e₂ t₂ hown₁ hlt ?_
            rw [World.putObj_heap_same (Array.getElem?_eq_some_iff.1 hrec₃).1, hrec₁]
          · cases h
        · cases h
      · cases h
    · cases h
  · cases h
end
end Go.AM

/- The statement 'for x := range f', and the function that holds it. -/
namespace Go.AM
open Go

/- the iterator is called with yield -/
def callY (E : Env) (lf : Nat) (R : Rec) (fn : Func) (Hy : List AV → Sto → Option Sto) (aY : Nat) (args : List AV) (σ : Sto) : Res :=
  match fn.body with
  | some c => match Nat.ble args.length fn.ntmps with
    | true => match codeH E lf R ⟨fun _ => some (fun ops => hookY E R Hy aY ops.toList), fun _ _ _ _ _ => none⟩ c ⟨startTm args 0 .e, fn.ntmps, [], σ⟩ with
      | some l => endsH E fn l
      | none => none
    | false => none
  | none => none

def rangeA (E : Env) (lf : Nat) (R : Rec) (b : Nat) (f : Operand) (ps : Array Tmp) (assign body : Code) (s : St) : Out :=
  match ps.toList, assign, body with
  | [p], .region _ opsA false, .block _ (.region _ opsB false) => match opd E s.tm f with
    | .fn (.func k) [] cap => match E.P.funcs[k]? with
      | some fn => forceN (nx s.sto) fun aD => forceN (aD + 1) fun aY =>
        match callY E lf R fn (roundA E R s.tm s.nt p opsA.toList opsB.toList) aY (.yl aY :: cap) s.sto.bump.bump with
        | some (_, σ) => some [(.normal, ⟨s.tm, s.nt, (markN, [.yl aD, .yl b]) :: s.df, σ⟩)]
        | none => none
      | none => none
    | _ => none
  | _, _, _ => none

def finM (E : Env) (b : Nat) (rs : List ResultVar) (x : XE × St) : Res :=
  match x with
  | (.exit _, _) => none
  | (_, s) => match resA E.P s.tm s.sto rs with
    | some vs => match s.df with
      | [] => some (tupA vs, s.sto)
      | [(k, [.yl _, .yl b'])] => cond (Nat.beq k markN && Nat.beq b' b) (some (tupA vs, s.sto)) none
      | _ => none
    | none => none

def endsM (E : Env) (b : Nat) (fn : Func) (l : List (XE × St)) : Res :=
  match optAll (l.map (finM E b fn.results.toList)) with
  | some rs => joinR rs
  | none => none

/- a function that holds a range over a function -/
def bodyM (E : Env) (lf : Nat) (R : Rec) (fn : Func) (args : List AV) (σ : Sto) : Res :=
  match fn.body with
  | some c => match Nat.ble args.length fn.ntmps with
    | true => forceN (nx σ) fun b => match codeH E lf R ⟨fun _ => none, rangeA E lf R b⟩ c ⟨startTm args 0 .e, fn.ntmps, [], σ.bump⟩ with
      | some l => endsM E b fn l
      | none => none
    | false => none
  | none => none

/- the number b tells where the function's own blocks begin -/
def BaseInv (b B : Nat) (C : Ctx) (N : Nat) (w : World) : Prop := b < N ∧ (C.stm b).toNat = B ∧ B ≤ w.heap.size

theorem BaseInv.ext {b B : Nat} {C : Ctx} {N : Nat} {w : World} {C' : Ctx} {N' : Nat} {w' : World} (h : BaseInv b B C N w) (e : Ext C N w C' N' w') : BaseInv b B C' N' w' :=
  ⟨Nat.lt_of_lt_of_le h.1 e.next, by rw [e.stm b h.1]; exact h.2.1, Nat.le_trans h.2.2 e.size⟩

section
variable {E : Env} {Rr : Rec}

theorem callY_sound (hR : RecSound E Rr) (hD : DrawSound E Rr) (hmk : E.dsum markN = none) (hdsum : ∀ f d, E.dsum f = some d → DSound E f d) {lf k : Nat} {fn : Func} (hfn : E.P.funcs[k]? = some fn)
    {Hy : List AV → Sto → Option Sto} {aY : Nat} {tm : Tr AV} {rc : Loop} (hY : YSound E aY tm rc Hy) {C : Ctx} {w : World} {σ σ' : Sto} {args : List AV} {vs : Array Value} {v : AV}
    (hi : LoopInv aY tm rc C (nx σ) w) (hs : Sim E.P C w σ) (hg : Glob C (nx σ) w E) (hargs : RL C (nx σ) w args vs.toList) (h : callY E lf Rr fn Hy aY args σ = some (v, σ')) :
    fn.body.isNone = false ∧ Calls E.P k vs w (Gives E.P C (nx σ) w v σ') := by
  unfold callY at h
  split at h
  · rename_i c hc
    refine ⟨by rw [hc]; rfl, ?_⟩
    split at h
    · rename_i hle
      split at h
      · rename_i l hl
        refine calls_of_lands hmk hdsum hfn hc h ?_
        exact codeH_sound (Inv := LoopInv aY tm rc) hR hD (fun h e => h.ext e) lf ⟨fun id g hg' ops => by
            simp only [Option.some.injEq] at hg'; subst hg'
            exact hookY_sound hR hY id ops, fun _ _ _ _ _ _ _ _ _ _ _ h => by cases h⟩ c C w _ _ l hi (start_st hs hg hargs (Nat.le_of_ble_eq_true hle)) hl
      · cases h
    · cases h
  · cases h

theorem rangeA_sound (hR : RecSound E Rr) (hD : DrawSound E Rr) (hnum : ∀ (f : Nat) (fn : Func), E.P.funcs[f]? = some fn → (fn.name == "runtime.NumGoroutine") = false) (hmk : E.dsum markN = none) (hdsum : ∀ f d, E.dsum f = some d → DSound E f d)
    (lf b B : Nat) (f : Operand) (ps : Array Tmp) (assign body : Code) : SoundHook E (BaseInv b B) (rangeA E lf Rr b f ps assign body) (.rangeFunc f ps assign body) := by
  intro C w s a l hi st h
  unfold rangeA at h
  split at h
  · rename_i p ia opsA ib ic opsB hps
    split at h
    · rename_i k cap hf
      split at h
      · rename_i kfn hkfn
        simp only [forceN_eq] at h
        split at h
        · rename_i v σ' hcall
          cases h
          have hps' : ps = #[p] := by rw [← Array.toArray_toList (xs := ps), hps]
          subst hps'
          have hV := opd_sound st.glob st.tmps f
          rw [hf] at hV
          unfold R at hV
          obtain ⟨p0, lb, hV, hp0, hlb⟩ := hV
          have hp0' : p0 = #[] := by
            have := hp0.length
            simp at this
            exact Array.eq_empty_of_size_eq_zero this.symm
          subst hp0'
          refine (wpIn_wide (n := 1)).1 (wpIn_rangeFunc fun fn _ => ?_)
          obtain ⟨rc, hrc⟩ : ∃ rc : Loop, rc = { state := .ready, pending := none, fn, tmps := a.tmps, params := #[p], assign := .region ia opsA false, body := .block ib (.region ic opsB false), defers := w.heap.size } := ⟨_, rfl⟩
          obtain ⟨W0, hW0⟩ : ∃ W0, w.alloc (.deferred (some [])) = W0 := ⟨_, rfl⟩
          obtain ⟨W1, hW1⟩ : ∃ W1, W0.alloc (.loop rc) = W1 := ⟨_, rfl⟩
          have hp1 : Pu w W0 (.deferred (some [])) := by rw [← hW0]; exact Pu.of_push rfl ⟨rfl, rfl⟩
          have hp2 : Pu W0 W1 (.loop rc) := by rw [← hW1]; exact Pu.of_push rfl ⟨rfl, rfl⟩
          obtain ⟨s1, e1⟩ := st.sim.push hp1
          obtain ⟨s2, e2⟩ := s1.push hp2
          obtain ⟨s3, e3⟩ := s2.bump (w.heap.size : Int)
          obtain ⟨s4, e4⟩ := s3.bump ((w.heap.size + 1 : Nat) : Int)
          rw [nx_bump] at s4 e4
          have e5 := ((e1.trans e2).trans e3).trans e4
          have hsz0 := hp1.size
          have hsz1 := hp2.size
          have hnD : ¬ C.own w.heap.size := fun hh => by have := st.sim.own_lt hh; omega
          have hnL : ¬ C.own (w.heap.size + 1) := fun hh => by have := st.sim.own_lt hh; omega
          have hstmD : (((C.addStm (nx s.sto) (w.heap.size : Int)).addStm (nx s.sto + 1) ((w.heap.size + 1 : Nat) : Int)).stm (nx s.sto)) = (w.heap.size : Int) := by simp [Ctx.addStm]
          have hstmY : (((C.addStm (nx s.sto) (w.heap.size : Int)).addStm (nx s.sto + 1) ((w.heap.size + 1 : Nat) : Int)).stm (nx s.sto + 1)) = ((w.heap.size + 1 : Nat) : Int) := by simp [Ctx.addStm]
          have hheapL : W1.heap[w.heap.size + 1]? = some (.loop rc) := by rw [← hsz0]; exact hp2.here
          have hheapD : W1.heap[w.heap.size]? = some (.deferred (some [])) := by rw [hp2.other _ (by omega)]; exact hp1.here
          have hnx : nx s.sto.bump.bump = nx s.sto + 1 + 1 := by rw [nx_bump, nx_bump]
          have hownEq : ∀ x, ((C.addStm (nx s.sto) (w.heap.size : Int)).addStm (nx s.sto + 1) ((w.heap.size + 1 : Nat) : Int)).own x ↔ C.own x := fun x => Iff.rfl
          have hY := roundA_sound (E := E) (aY := nx s.sto + 1) (tm := s.tm) (nt := s.nt) (p := p) (opsA := opsA) (opsB := opsB) (ia := ia) (ib := ib) (ic := ic) (rc := rc) hR (by rw [hrc]) (by rw [hrc]) (by rw [hrc]) (by rw [hrc]) (by rw [hrc]) (by rw [hrc]; exact st.size)
          have hli : LoopInv (nx s.sto + 1) s.tm rc ((C.addStm (nx s.sto) (w.heap.size : Int)).addStm (nx s.sto + 1) ((w.heap.size + 1 : Nat) : Int)) (nx s.sto.bump.bump) W1 := by
            refine ⟨⟨by omega, ?_⟩, ?_, ?_⟩
            · rw [hnx]
              have : TR C (nx s.sto) w s.tm rc.tmps := by rw [hrc]; exact st.tmps
              exact this.ext e5
            · rw [hstmY]; exact fun hh => hnL ((hownEq _).1 hh)
            · rw [hstmY]; exact hheapL
          have hargs : RL ((C.addStm (nx s.sto) (w.heap.size : Int)).addStm (nx s.sto + 1) ((w.heap.size + 1 : Nat) : Int)) (nx s.sto.bump.bump) W1 (.yl (nx s.sto + 1) :: cap) (#[Value.func (.yield (w.heap.size + 1)) #[] #[]] ++ lb).toList := by
            simp only [Array.toList_append, List.cons_append, List.nil_append]
            unfold RL
            rw [hnx]
            refine ⟨?_, RL.ext e5 _ _ hlb⟩
            unfold R
            rw [hstmY]
            exact ⟨rfl, by omega⟩
          obtain ⟨hbody, hcalls⟩ := callY_sound hR hD hmk hdsum hkfn hY hli s4 (by rw [hnx]; exact st.glob.ext e5) hargs hcall
          have henter : ∀ args w, (callFunc k args).run E.P w = .ok (.enter k args) w := fun args w => by
            have g2' : kfn.name ≠ "runtime.NumGoroutine" := by simpa using hnum k kfn hkfn
            have g3' : kfn.body ≠ none := fun hh => by rw [hh] at hbody; cases hbody
            simp [callFunc, hkfn, g2', g3']
          refine ⟨w.heap.size + 1, [{ target := .collected w.heap.size, args := #[] }], W1, { target := .fn (.func k) lb, args := #[.func (.yield (w.heap.size + 1)) #[] #[]] }, W1, k,
            #[.func (.yield (w.heap.size + 1)) #[] #[]] ++ lb, W1, ?_, ?_, fun _ _ => trivial, ?_, fun hh => (by cases hh), ?_⟩
          · rw [← hW1, ← hW0, hrc]; exact run_enterLoop_outer _ _ _ _ _
          · simp only [resolve, hV]
            simp [go_sem]
          · simp [invoke, go_sem, henter]
          · refine (callsIn_wide).2 (hcalls.mono fun e w₃ he => ?_)
            cases e with
            | returned x =>
              obtain ⟨C₃, k1, k2, k3⟩ := he
              have hstmY3 := k2.stm (nx s.sto + 1) (by omega)
              rw [hstmY] at hstmY3
              have hstmD3 := k2.stm (nx s.sto) (by omega)
              rw [hstmD] at hstmD3
              obtain ⟨hn3, hk3⟩ := k2.keep (w.heap.size + 1) (by omega) (fun hh => hnL ((hownEq _).1 hh))
              obtain ⟨hn4, hk4⟩ := k2.keep w.heap.size (by omega) (fun hh => hnD ((hownEq _).1 hh))
              have hl3 := hk3.trans hheapL
              have hd3 := hk4.trans hheapD
              have hend := run_endLoop (P := E.P) hl3 (by rw [hrc]; simp)
              have t : Turns w₃ (w₃.putObj (w.heap.size + 1) (.loop { rc with state := .exhausted })) (w.heap.size + 1) := Turns.put hl3 rfl rfl
              have hpend : rc.pending = none := by rw [hrc]
              rw [hnx] at k2
              have e6 := (e5.trans k2).turnNew t hn3 (by omega)
              obtain ⟨W4, hW4⟩ : ∃ W4, w₃.putObj (w.heap.size + 1) (.loop { rc with state := .exhausted }) = W4 := ⟨_, rfl⟩
              rw [hW4] at hend t e6
              refine ⟨rc.pending, W4, hend, ?_⟩
              rw [hpend]
              refine ⟨_, List.mem_singleton_self _, C₃, rfl, ⟨k1.turn t hn3, st.glob.ext e6, st.tmps.ext e6, st.size, ?_⟩, e6⟩
              show DR _ _ _ _ ({ target := Target.collected w.heap.size, args := #[] } :: a.defers)
              unfold DR
              refine ⟨.inr ⟨rfl, nx s.sto, b, rfl, ⟨?_, ?_, ?_⟩, ?_, ?_, ?_⟩, st.dfs.ext e6⟩
              · show nx s.sto < nx σ'; have := k2.next; omega
              · show b < nx σ'; have := k2.next; have := hi.1; omega
              · rw [hstmD3, e6.stm b hi.1, hi.2.1]; exact hi.2.2
              · rw [hstmD3]; rfl
              · rw [hstmD3]; exact hn4
              · rw [hstmD3]
                show _ = some (Obj.deferred (some []))
                exact (t.other w.heap.size (by omega)).trans hd3
            | panicked _ => exact he.elim
            | outgrown => exact he.elim
        · cases h
      · cases h
    · cases h
  · cases h
theorem endsM_wp {b B : Nat} {fn : Func} {C₀ C₁ : Ctx} {N₀ : Nat} {w₀ w : World} {s : St} {a : Act} {x : XE} {v : AV} {σ' : Sto} {l : List (XE × St)} {n : Nat} (hB : B = w₀.heap.size) (hi : BaseInv b B C₁ (nx s.sto) w) (st : SSt E C₁ w s a) (hext : Ext C₀ N₀ w₀ C₁ (nx s.sto) w) (hx : x = .normal ∨ x = .ret)
    (hl : (x, s) ∈ l) (h : endsM E b fn l = some (v, σ')) : LeavesInM Fence.wide n E.P fn a.tmps (Gives E.P C₀ N₀ w₀ v σ') a.defers .returning w := by
  unfold endsM at h
  split at h
  · rename_i rs hrs
    obtain ⟨z, hz, hfin⟩ := optAll_spec hrs _ (List.mem_map_of_mem hl)
    have hfin' : (match resA E.P s.tm s.sto fn.results.toList with
      | some vs => match s.df with
        | [] => some (tupA vs, s.sto)
        | [(k, [.yl _, .yl b'])] => cond (Nat.beq k markN && Nat.beq b' b) (some (tupA vs, s.sto)) none
        | _ => none
      | none => none) = some z := by
      rcases hx with rfl | rfl <;> exact hfin
    split at hfin'
    · rename_i vs hvs
      split at hfin'
      · rename_i hdf
        cases hfin'
        have hd := st.dfs
        rw [hdf] at hd
        have hds : a.defers = [] := by
          cases hds : a.defers with
          | nil => rfl
          | cons d ds => rw [hds] at hd; unfold DR at hd; exact hd.elim
        rw [hds]
        show LeavesIn _ _ _ _ _ _ [] .returning _
        obtain ⟨y, k1, k2⟩ := results_sound st.sim st.tmps hvs
        obtain ⟨C₃, q1, q2, q3⟩ := joinR_spec h _ hz st.sim k2
        exact ⟨y, k1, C₃, q1, hext.trans q2, q3⟩
      · rename_i k aD b' hdf
        cases hb : (Nat.beq k markN && Nat.beq b' b)
        · simp [hb] at hfin'
        · simp only [hb, cond_true, Option.some.injEq] at hfin'
          subst hfin'
          simp only [Bool.and_eq_true] at hb
          have hbb := Nat.eq_of_beq_eq_true hb.2
          have hkk := Nat.eq_of_beq_eq_true hb.1
          subst hbb
          have hd := st.dfs
          rw [hdf] at hd
          obtain ⟨d, hds⟩ : ∃ d, a.defers = [d] ∧ DR C₁ (nx s.sto) w [(k, [.yl aD, .yl b'])] [d] := by
            cases hds : a.defers with
            | nil => rw [hds] at hd; unfold DR at hd; exact hd.elim
            | cons d ds =>
              rw [hds] at hd
              cases ds with
              | nil => exact ⟨d, rfl, hd⟩
              | cons d' ds' => unfold DR at hd; have := hd.2; unfold DR at this; exact this.elim
          obtain ⟨hds, hd⟩ := hds
          unfold DR at hd
          obtain ⟨hd, _⟩ := hd
          rcases hd with ⟨h0, _⟩ | ⟨h0, a1, b1, h1, ⟨h2, h3, h4⟩, h5, h6, h7⟩
          · exact absurd hkk h0
          · simp only [List.cons.injEq, AV.yl.injEq, and_true] at h1
            obtain ⟨rfl, rfl⟩ := h1
            rw [hds, h5]
            refine ⟨by simp, .inl ⟨_, _, rfl, run_takeDeferred h7, ?_⟩⟩
            show LeavesIn _ _ _ _ _ _ [] .returning _
            have t : Turns w (w.putObj (C₁.stm aD).toNat (.deferred none)) (C₁.stm aD).toNat := Turns.put h7 rfl rfl
            have hge : w₀.heap.size ≤ (C₁.stm aD).toNat := by rw [← hB, ← hi.2.1]; exact h4
            have st2 : Sim E.P C₁ _ s.sto := st.sim.turn t h6
            have tm2 : TR C₁ (nx s.sto) _ s.tm a.tmps := fun i v hv => R.turn t _ _ (st.tmps i v hv)
            obtain ⟨y, k1, k2⟩ := results_sound st2 tm2 hvs
            obtain ⟨C₃, q1, q2, q3⟩ := joinR_spec h _ hz st2 k2
            exact ⟨y, k1, C₃, q1, (hext.turnNew t h6 hge).trans q2, q3⟩
      · cases hfin'
    · cases hfin'
  · cases h

theorem bodyM_sound (hR : RecSound E Rr) (hD : DrawSound E Rr) (hnum : ∀ (f : Nat) (fn : Func), E.P.funcs[f]? = some fn → (fn.name == "runtime.NumGoroutine") = false) (hmk : E.dsum markN = none) (hdsum : ∀ f d, E.dsum f = some d → DSound E f d)
    (lf f : Nat) (fn : Func) (hfn : E.P.funcs[f]? = some fn) : FSound E f (bodyM E lf Rr fn) := by
  intro C w σ args vs v σ' hs hg hargs h
  unfold bodyM at h
  split at h
  · rename_i c hc
    split at h
    · rename_i hle
      rw [forceN_eq] at h
      split at h
      · rename_i l hl
        refine ⟨⟨fn, hfn, hnum f fn hfn, by rw [hc]; rfl⟩, ?_⟩
        obtain ⟨s1, e1⟩ := hs.bump (w.heap.size : Int)
        rw [← nx_bump] at e1
        refine (callsIn_wide (n := 1)).1 (callsIn_of_wp_marks hfn hc trivial ((wpIn_wide (n := 1)).2 ?_))
        have hi : BaseInv (nx σ) w.heap.size (C.addStm (nx σ) (w.heap.size : Int)) (nx σ.bump) w := ⟨by rw [nx_bump]; omega, by simp [Ctx.addStm], Nat.le_refl _⟩
        have hcode := codeH_sound (Inv := BaseInv (nx σ) w.heap.size) (H := ⟨fun _ => none, rangeA E lf Rr (nx σ)⟩) hR hD (fun h e => h.ext e) lf
          ⟨fun id g hg' ops => (by cases hg'), fun f ps a b => rangeA_sound hR hD hnum hmk hdsum lf _ _ f ps a b⟩ c (C.addStm (nx σ) (w.heap.size : Int)) w _ _ l hi
          (start_st s1 (hg.ext e1) (RL.ext e1 _ _ hargs) (Nat.le_of_ble_eq_true hle)) hl
        refine wp_mono hcode fun e a' w' hq => ?_
        obtain ⟨y, hy, C₁, hye, hst, hext⟩ := hq
        obtain ⟨x, s⟩ := y
        subst hye
        cases x with
        | normal => exact endsM_wp rfl (hi.ext hext) hst (e1.trans hext) (.inl rfl) hy h
        | ret => exact endsM_wp rfl (hi.ext hext) hst (e1.trans hext) (.inr rfl) hy h
        | exit id =>
          unfold endsM at h
          split at h
          · rename_i rs hrs
            obtain ⟨z, hz, hfin⟩ := optAll_spec hrs _ (List.mem_map_of_mem hy)
            simp [finM] at hfin
          · cases h
      · cases h
    · cases h
  · cases h

end
end Go.AM
