/- What an abstract value, and an abstract store, say of the model's world; and which changes of the world leave it true. -/
import Derived.Wp
import Derived.Laws.Sem
import Derived.Test.YtjdllejnkgoehaaGreatDoorAmA0
namespace Go.AM
open Go

/- where the owned objects lie: block and offset; the numbers of stamps; and the blocks that are somebody else's -/
structure Ctx where
  loc : Nat → Option (Nat × Nat)
  stm : Nat → Int
  res : Nat → Prop

def Ctx.own (C : Ctx) (c : Nat) : Prop := C.res c ∨ ∃ a o, C.loc a = some (c, o)

def csize (w : World) (c : Nat) : Nat := match w.heap[c]? with | some (.cells cs _ _) => cs.size | _ => 0

mutual
def R (C : Ctx) (N : Nat) (w : World) : AV → Value → Prop
  | .any, _ => True
  | .bool b, v => v = .bool b
  | .int k n, v => v = .int k n
  | .str l, v => ∃ s, v = .string s ∧ bytesOf s = l
  | .nil x, v => v = x ∧ isNil x = true
  | .pr a off, v => ∃ ad, v = .pointer (some ad) ∧ a < N ∧ ∀ c o, C.loc a = some (c, o) → ad = ⟨c, o + off, none⟩
  | .pv cs, v => ∃ c o, v = .pointer (some ⟨c, o, none⟩) ∧ (cs ≠ [] → ¬ C.own c) ∧ RC C N w c cs o
  | .sr a off sz len cap, v => ∃ ad k, v = .slice (some ad) len k ∧ a < N ∧ len ≤ k ∧ (∀ q, cap = some q → k = q) ∧
      ∀ c o, C.loc a = some (c, o) → (0 < k → ad = ⟨c, o + off, none⟩) ∧ o + off + k * sz ≤ csize w c
  | .sv cs sz len cap, v => ∃ ad k, v = .slice (some ad) len k ∧ len ≤ k ∧ (∀ q, cap = some q → k = q) ∧ cs.length = len * sz ∧
      (0 < k → ad.spot = none) ∧ (cs ≠ [] → ¬ C.own ad.block) ∧ RC C N w ad.block cs ad.off
  | .mp r, v => ∃ c, v = .map (some c) ∧ r < N ∧ ∀ c' o, C.loc r = some (c', o) → c = c'
  | .it r, v => ∃ c, v = .pointer (some ⟨c, 0, none⟩) ∧ r < N ∧ ∀ c' o, C.loc r = some (c', o) → c = c'
  | .stp a, v => v = .int .i64 (C.stm a) ∧ a < N
  | .yl a, v => v = .func (.yield (C.stm a).toNat) #[] #[] ∧ a < N
  | .fn f p q, v => ∃ a b, v = .func f a b ∧ RL C N w p a.toList ∧ RL C N w q b.toList
  | .ifc t x, v => ∃ y, v = .iface t y ∧ R C N w x y
  | .agg cs, v => ∃ a, v = .agg a ∧ RL C N w cs a.toList ∧ ∀ x ∈ a.toList, x.oneCell = true
  | .tup vs, v => ∃ a, v = .tuple a ∧ RL C N w vs a.toList
def RC (C : Ctx) (N : Nat) (w : World) (c : Nat) : List AV → Nat → Prop
  | [], _ => True
  | x :: r, o => (∃ v, w.cell? ⟨c, o, none⟩ = some v ∧ v.oneCell = true ∧ R C N w x v) ∧ RC C N w c r (o + 1)
def RL (C : Ctx) (N : Nat) (w : World) : List AV → List Value → Prop
  | [], [] => True
  | x :: r, v :: s => R C N w x v ∧ RL C N w r s
  | _, _ => False
end

/- from (C, N, w) to (C', N', w'): what is not owned stays -/
structure Ext (C : Ctx) (N : Nat) (w : World) (C' : Ctx) (N' : Nat) (w' : World) : Prop where
  next : N ≤ N'
  size : w.heap.size ≤ w'.heap.size
  keep : ∀ b, b < w.heap.size → ¬ C.own b → ¬ C'.own b ∧ w'.heap[b]? = w.heap[b]?
  loc : ∀ a, a < N → ∀ p, C'.loc a = some p → C.loc a = some p
  stm : ∀ a, a < N → C'.stm a = C.stm a
  bsz : ∀ a, a < N → ∀ c o, C'.loc a = some (c, o) → csize w' c = csize w c
  res : C'.res = C.res ∧ ∀ b, C.res b → w'.heap[b]? = w.heap[b]?
  os : w'.os = w.os ∧ w'.output = w.output

theorem Ext.refl (C : Ctx) (N : Nat) (w : World) : Ext C N w C N w :=
  ⟨Nat.le_refl _, Nat.le_refl _, fun _ _ h => ⟨h, rfl⟩, fun _ _ _ h => h, fun _ _ => rfl, fun _ _ _ _ _ => rfl, ⟨rfl, fun _ _ => rfl⟩, rfl, rfl⟩

theorem Ext.trans {C C₁ C₂ : Ctx} {N N₁ N₂ : Nat} {w w₁ w₂ : World} (h : Ext C N w C₁ N₁ w₁) (k : Ext C₁ N₁ w₁ C₂ N₂ w₂) : Ext C N w C₂ N₂ w₂ where
  next := Nat.le_trans h.next k.next
  size := Nat.le_trans h.size k.size
  keep b hb ho := by
    obtain ⟨h1, h2⟩ := h.keep b hb ho
    obtain ⟨k1, k2⟩ := k.keep b (Nat.lt_of_lt_of_le hb h.size) h1
    exact ⟨k1, k2.trans h2⟩
  loc a ha p hp := h.loc a ha p (k.loc a (Nat.lt_of_lt_of_le ha h.next) p hp)
  stm a ha := (k.stm a (Nat.lt_of_lt_of_le ha h.next)).trans (h.stm a ha)
  bsz a ha c o hc := by
    have ha' := Nat.lt_of_lt_of_le ha h.next
    exact (k.bsz a ha' c o hc).trans (h.bsz a ha c o (k.loc a ha' _ hc))
  res := ⟨k.res.1.trans h.res.1, fun b hb => (k.res.2 b (by rw [h.res.1]; exact hb)).trans (h.res.2 b hb)⟩
  os := ⟨k.os.1.trans h.os.1, k.os.2.trans h.os.2⟩

theorem cell_lt {w : World} {a : Addr} {v : Value} (h : w.cell? a = some v) : a.block < w.heap.size := by
  unfold World.cell? at h
  cases hh : w.heap[a.block]? with
  | none => simp [hh] at h
  | some o => exact (Array.getElem?_eq_some_iff.1 hh).1

theorem cell_of_heap {w w' : World} {b : Nat} (h : w'.heap[b]? = w.heap[b]?) (o : Nat) (s : Option Nat) : w'.cell? ⟨b, o, s⟩ = w.cell? ⟨b, o, s⟩ := by
  unfold World.cell?; simp only [h]

section
variable {C C' : Ctx} {N N' : Nat} {w w' : World}

mutual
theorem R.ext (e : Ext C N w C' N' w') : ∀ (x : AV) (v : Value), R C N w x v → R C' N' w' x v
  | .any, _, _ => by unfold R; trivial
  | .bool b, v, h => by unfold R at *; exact h
  | .int k n, v, h => by unfold R at *; exact h
  | .str l, v, h => by unfold R at *; exact h
  | .nil x, v, h => by unfold R at *; exact h
  | .pr a off, v, h => by
    unfold R at *
    obtain ⟨ad, h1, h2, h3⟩ := h
    exact ⟨ad, h1, Nat.lt_of_lt_of_le h2 e.next, fun c o hc => h3 c o (e.loc a h2 _ hc)⟩
  | .pv cs, v, h => by
    unfold R at *
    obtain ⟨c, o, h1, h2, h3⟩ := h
    exact ⟨c, o, h1, RC.extOwn e c cs o h2 h3, RC.ext e c cs o h2 h3⟩
  | .sr a off sz len cap, v, h => by
    unfold R at *
    obtain ⟨ad, k, h1, h2, h3, h4, h5⟩ := h
    refine ⟨ad, k, h1, Nat.lt_of_lt_of_le h2 e.next, h3, h4, fun c o hc => ?_⟩
    obtain ⟨h6, h7⟩ := h5 c o (e.loc a h2 _ hc)
    exact ⟨h6, by rw [e.bsz a h2 c o hc]; exact h7⟩
  | .sv cs sz len cap, v, h => by
    unfold R at *
    obtain ⟨ad, k, h1, h2, h3, h4, h5, h6, h7⟩ := h
    exact ⟨ad, k, h1, h2, h3, h4, h5, RC.extOwn e ad.block cs ad.off h6 h7, RC.ext e ad.block cs ad.off h6 h7⟩
  | .mp r, v, h => by
    unfold R at *
    obtain ⟨c, h1, h2, h3⟩ := h
    exact ⟨c, h1, Nat.lt_of_lt_of_le h2 e.next, fun c' o hc => h3 c' o (e.loc r h2 _ hc)⟩
  | .it r, v, h => by
    unfold R at *
    obtain ⟨c, h1, h2, h3⟩ := h
    exact ⟨c, h1, Nat.lt_of_lt_of_le h2 e.next, fun c' o hc => h3 c' o (e.loc r h2 _ hc)⟩
  | .stp a, v, h => by
    unfold R at *
    exact ⟨by rw [e.stm a h.2]; exact h.1, Nat.lt_of_lt_of_le h.2 e.next⟩
  | .yl a, v, h => by
    unfold R at *
    exact ⟨by rw [e.stm a h.2]; exact h.1, Nat.lt_of_lt_of_le h.2 e.next⟩
  | .fn f p q, v, h => by
    unfold R at *
    obtain ⟨a, b, h1, h2, h3⟩ := h
    exact ⟨a, b, h1, RL.ext e p _ h2, RL.ext e q _ h3⟩
  | .ifc t x, v, h => by
    unfold R at *
    obtain ⟨y, h1, h2⟩ := h
    exact ⟨y, h1, R.ext e x y h2⟩
  | .agg cs, v, h => by
    unfold R at *
    obtain ⟨a, h1, h2, h3⟩ := h
    exact ⟨a, h1, RL.ext e cs _ h2, h3⟩
  | .tup vs, v, h => by
    unfold R at *
    obtain ⟨a, h1, h2⟩ := h
    exact ⟨a, h1, RL.ext e vs _ h2⟩
theorem RC.extOwn (e : Ext C N w C' N' w') (c : Nat) : ∀ (cs : List AV) (o : Nat), (cs ≠ [] → ¬ C.own c) → RC C N w c cs o → (cs ≠ [] → ¬ C'.own c)
  | [], _, _, _ => fun h => absurd rfl h
  | x :: r, o, ho, h => fun _ => by
    unfold RC at h
    obtain ⟨⟨v, h1, _⟩, _⟩ := h
    exact (e.keep c (cell_lt h1) (ho (by simp))).1
theorem RC.ext (e : Ext C N w C' N' w') (c : Nat) : ∀ (cs : List AV) (o : Nat), (cs ≠ [] → ¬ C.own c) → RC C N w c cs o → RC C' N' w' c cs o
  | [], _, _, _ => by unfold RC; trivial
  | x :: r, o, ho, h => by
    unfold RC at *
    obtain ⟨⟨v, h1, h2, h3⟩, h4⟩ := h
    exact ⟨⟨v, (cell_of_heap (e.keep c (cell_lt h1) (ho (by simp))).2 o none).trans h1, h2, R.ext e x v h3⟩, RC.ext e c r (o + 1) (fun _ => ho (by simp)) h4⟩
theorem RL.ext (e : Ext C N w C' N' w') : ∀ (l : List AV) (vs : List Value), RL C N w l vs → RL C' N' w' l vs
  | [], [], _ => by unfold RL; trivial
  | x :: r, v :: s, h => by
    unfold RL at *
    exact ⟨R.ext e x v h.1, RL.ext e r s h.2⟩
  | [], _ :: _, h => by unfold RL at h; exact h.elim
  | _ :: _, [], h => by unfold RL at h; exact h.elim
end

theorem RL.length : ∀ {l : List AV} {vs : List Value}, RL C N w l vs → l.length = vs.length
  | [], [], _ => rfl
  | x :: r, v :: s, h => by unfold RL at h; simp [RL.length h.2]
  | [], _ :: _, h => by unfold RL at h; exact h.elim
  | _ :: _, [], h => by unfold RL at h; exact h.elim

theorem RL.get : ∀ {l : List AV} {vs : List Value} (_ : RL C N w l vs) (i : Nat) (x : AV), l[i]? = some x → ∃ v, vs[i]? = some v ∧ R C N w x v
  | x :: r, v :: s, h, 0, y, hy => by unfold RL at h; simp at hy; subst hy; exact ⟨v, rfl, h.1⟩
  | x :: r, v :: s, h, i + 1, y, hy => by unfold RL at h; exact RL.get h.2 i y (by simpa using hy)
  | [], [], _, i, y, hy => by simp at hy
  | [], _ :: _, h, _, _, _ => by unfold RL at h; exact h.elim
  | _ :: _, [], h, _, _, _ => by unfold RL at h; exact h.elim

theorem RL.append : ∀ {l : List AV} {vs : List Value} {l' : List AV} {vs' : List Value}, RL C N w l vs → RL C N w l' vs' → RL C N w (l ++ l') (vs ++ vs')
  | [], [], _, _, _, k => k
  | x :: r, v :: s, _, _, h, k => by unfold RL at h; show RL C N w (x :: (r ++ _)) (v :: (s ++ _)); unfold RL; exact ⟨h.1, RL.append h.2 k⟩
  | [], _ :: _, _, _, h, _ => by unfold RL at h; exact h.elim
  | _ :: _, [], _, _, h, _ => by unfold RL at h; exact h.elim

theorem RL.drop : ∀ {l : List AV} {vs : List Value} (n : Nat), RL C N w l vs → RL C N w (l.drop n) (vs.drop n)
  | [], [], n, h => by simp [RL]
  | x :: r, v :: s, 0, h => h
  | x :: r, v :: s, n + 1, h => by unfold RL at h; simpa using RL.drop n h.2
  | [], _ :: _, _, h => by unfold RL at h; exact h.elim
  | _ :: _, [], _, h => by unfold RL at h; exact h.elim

/- a value's cells, one by one, in the world -/
theorem RC.get : ∀ {cs : List AV} {c o : Nat} (_ : RC C N w c cs o) (i : Nat) (x : AV), cs[i]? = some x → ∃ v, w.cell? ⟨c, o + i, none⟩ = some v ∧ v.oneCell = true ∧ R C N w x v
  | x :: r, c, o, h, 0, y, hy => by unfold RC at h; simp at hy; subst hy; exact h.1
  | x :: r, c, o, h, i + 1, y, hy => by
    unfold RC at h
    have := RC.get h.2 i y (by simpa using hy)
    rwa [show o + 1 + i = o + (i + 1) by omega] at this
  | [], _, _, _, i, y, hy => by simp at hy

theorem RC.drop : ∀ {cs : List AV} {c o : Nat} (n : Nat), RC C N w c cs o → RC C N w c (cs.drop n) (o + n)
  | cs, c, o, 0, h => h
  | [], _, _, n + 1, _ => by simp [RC]
  | x :: r, c, o, n + 1, h => by
    unfold RC at h
    have := RC.drop n h.2
    rwa [show o + 1 + n = o + (n + 1) by omega] at this

theorem RC.take : ∀ {cs : List AV} {c o : Nat} (n : Nat) {l : List AV}, takeN n cs = some l → RC C N w c cs o → RC C N w c l o
  | cs, c, o, 0, l, ht, h => by simp [takeN] at ht; subst ht; unfold RC; trivial
  | x :: r, c, o, n + 1, l, ht, h => by
    unfold RC at h
    simp only [takeN] at ht
    cases hr : takeN n r with
    | none => simp [hr] at ht
    | some l' =>
      simp [hr] at ht
      subst ht
      unfold RC
      exact ⟨h.1, RC.take n hr h.2⟩
  | [], _, _, n + 1, l, ht, h => by simp [takeN] at ht
end

theorem takeN_eq : ∀ {n : Nat} {l l' : List AV}, takeN n l = some l' → l' = l.take n ∧ l'.length = n
  | 0, l, l', h => by simp [takeN] at h; subst h; simp
  | n + 1, [], l', h => by simp [takeN] at h
  | n + 1, x :: r, l', h => by
    simp only [takeN] at h
    cases hr : takeN n r with
    | none => simp [hr] at h
    | some l'' =>
      simp [hr] at h
      subst h
      obtain ⟨h1, h2⟩ := takeN_eq hr
      exact ⟨by simp [h1], by simp [h2]⟩

/- ===== tries ===== -/
theorem Tr.get_mkL {α : Type} (v : Option α) (l r : Tr α) (k : Nat) : (Tr.mkL v l r).get k = (Tr.n v l r).get k := by cases l <;> rfl
theorem Tr.get_mkR {α : Type} (v : Option α) (l r : Tr α) (k : Nat) : (Tr.mkR v l r).get k = (Tr.n v l r).get k := by cases r <;> rfl

theorem beq0 {n : Nat} (h : ¬ n = 0) : Nat.beq n 0 = false := by cases n with | zero => exact absurd rfl h | succ n => rfl

theorem Tr.get_succ {α : Type} (v : Option α) (l r : Tr α) (k : Nat) : (Tr.n v l r).get (k + 1) = if k % 2 = 0 then l.get (k / 2) else r.get (k / 2) := by
  simp only [Tr.get]
  by_cases h : k % 2 = 0
  · simp [h]
  · have : Nat.beq (k % 2) 0 = false := beq0 h
    simp [h, this]
theorem Tr.get_zero {α : Type} (v : Option α) (l r : Tr α) : (Tr.n v l r).get 0 = v := rfl

/- putting changes this key alone (or, without fuel, nothing) -/
theorem Tr.get_put_ne {α : Type} : ∀ (f : Nat) (t : Tr α) (k : Nat) (x : Option α) (j : Nat), j ≠ k → (t.put f k x).get j = t.get j
  | 0, t, k, x, j, h => rfl
  | f + 1, .e, 0, x, j, h => by
    cases j with
    | zero => exact absurd rfl h
    | succ j => simp [Tr.put, Tr.get_succ, Tr.get]
  | f + 1, .n v l r, 0, x, j, h => by
    cases j with
    | zero => exact absurd rfl h
    | succ j => simp [Tr.put, Tr.get_succ]
  | f + 1, .e, k + 1, x, j, h => by
    simp only [Tr.put]
    by_cases hk : k % 2 = 0
    · have hb : Nat.beq (k % 2) 0 = true := by simp [hk]
      simp only [hb, cond_true, Tr.get_mkL]
      cases j with
      | zero => simp [Tr.get]
      | succ j =>
        rw [Tr.get_succ]
        by_cases hj : j % 2 = 0
        · rw [if_pos hj, Tr.get_put_ne f _ _ _ _ (by omega)]; simp [Tr.get]
        · rw [if_neg hj]; simp [Tr.get]
    · have hb : Nat.beq (k % 2) 0 = false := beq0 hk
      simp only [hb, cond_false, Tr.get_mkR]
      cases j with
      | zero => simp [Tr.get]
      | succ j =>
        rw [Tr.get_succ]
        by_cases hj : j % 2 = 0
        · rw [if_pos hj]; simp [Tr.get]
        · rw [if_neg hj, Tr.get_put_ne f _ _ _ _ (by omega)]; simp [Tr.get]
  | f + 1, .n v l r, k + 1, x, j, h => by
    simp only [Tr.put]
    by_cases hk : k % 2 = 0
    · have hb : Nat.beq (k % 2) 0 = true := by simp [hk]
      simp only [hb, cond_true, Tr.get_mkL]
      cases j with
      | zero => simp [Tr.get]
      | succ j =>
        rw [Tr.get_succ, Tr.get_succ]
        by_cases hj : j % 2 = 0
        · rw [if_pos hj, if_pos hj, Tr.get_put_ne f _ _ _ _ (by omega)]
        · rw [if_neg hj, if_neg hj]
    · have hb : Nat.beq (k % 2) 0 = false := beq0 hk
      simp only [hb, cond_false, Tr.get_mkR]
      cases j with
      | zero => simp [Tr.get]
      | succ j =>
        rw [Tr.get_succ, Tr.get_succ]
        by_cases hj : j % 2 = 0
        · rw [if_pos hj, if_pos hj]
        · rw [if_neg hj, if_neg hj, Tr.get_put_ne f _ _ _ _ (by omega)]

/- at the key itself -/
theorem Tr.get_put_eq {α : Type} : ∀ (f : Nat) (t : Tr α) (k : Nat) (x : Option α), k < f → (t.put f k x).get k = x
  | 0, t, k, x, h => absurd h (by omega)
  | f + 1, .e, 0, x, _ => rfl
  | f + 1, .n v l r, 0, x, _ => rfl
  | f + 1, .e, k + 1, x, h => by
    simp only [Tr.put]
    by_cases hk : k % 2 = 0
    · have hb : Nat.beq (k % 2) 0 = true := by simp [hk]
      simp only [hb, cond_true, Tr.get_mkL]
      rw [Tr.get_succ, if_pos hk, Tr.get_put_eq f .e (k / 2) x (by omega)]
    · have hb : Nat.beq (k % 2) 0 = false := beq0 hk
      simp only [hb, cond_false, Tr.get_mkR]
      rw [Tr.get_succ, if_neg hk, Tr.get_put_eq f .e (k / 2) x (by omega)]
  | f + 1, .n v l r, k + 1, x, h => by
    simp only [Tr.put]
    by_cases hk : k % 2 = 0
    · have hb : Nat.beq (k % 2) 0 = true := by simp [hk]
      simp only [hb, cond_true, Tr.get_mkL]
      rw [Tr.get_succ, if_pos hk, Tr.get_put_eq f l (k / 2) x (by omega)]
    · have hb : Nat.beq (k % 2) 0 = false := beq0 hk
      simp only [hb, cond_false, Tr.get_mkR]
      rw [Tr.get_succ, if_neg hk, Tr.get_put_eq f r (k / 2) x (by omega)]

theorem Tr.get_put {α : Type} (t : Tr α) (k : Nat) (x : Option α) (j : Nat) : (t.put (k + 1) k x).get j = if j = k then x else t.get j := by
  by_cases h : j = k
  · subst h; rw [if_pos rfl, Tr.get_put_eq _ _ _ _ (by omega)]
  · rw [if_neg h, Tr.get_put_ne _ _ _ _ _ h]

theorem forceTr_eq {α β : Type} (t : Tr α) (k : Tr α → β) : forceTr t k = k t := by cases t <;> rfl

/- ===== the store ===== -/
theorem Sto.get_set (σ : Sto) (a : Nat) (o : AO) (b : Nat) : (σ.set a o).get b = if b = a then some o else σ.get b := by
  cases σ; simp only [Sto.set, forceTr_eq, Sto.get, Tr.get_put]
theorem Sto.get_kill (σ : Sto) (a : Nat) (b : Nat) : (σ.kill a).get b = if b = a then none else σ.get b := by
  cases σ; simp only [Sto.kill, forceTr_eq, Sto.get, Tr.get_put]
theorem Sto.get_new (σ : Sto) (o : AO) (b : Nat) : (σ.new o).get b = if b = nx σ then some o else σ.get b := by
  cases σ; simp only [Sto.new, forceTr_eq, forceN_eq, Sto.get, nx, Tr.get_put]; rfl
theorem nx_set (σ : Sto) (a : Nat) (o : AO) : nx (σ.set a o) = nx σ := by cases σ; simp only [Sto.set, forceTr_eq, nx]
theorem nx_kill (σ : Sto) (a : Nat) : nx (σ.kill a) = nx σ := by cases σ; simp only [Sto.kill, forceTr_eq, nx]
theorem nx_new (σ : Sto) (o : AO) : nx (σ.new o) = nx σ + 1 := by cases σ; simp only [Sto.new, forceTr_eq, forceN_eq, nx]

/- ===== keys and entries of maps ===== -/
mutual
def KV : Key → Value → Prop
  | .bool b, v => v = .bool b
  | .int k n, v => v = .int k n
  | .str l, v => ∃ s, v = .string s ∧ bytesOf s = l
  | .agg cs, v => ∃ a, v = .agg a ∧ KVs cs a.toList
def KVs : List Key → List Value → Prop
  | [], [] => True
  | x :: r, v :: s => KV x v ∧ KVs r s
  | _, _ => False
end

/- a scalar of a type's kind -/
def KS (d : TypeDesc) (v : Value) : Prop :=
  match d with
  | .int k => ∃ n, v = .int k n
  | .string => ∃ s, v = .string s
  | .bool => ∃ b, v = .bool b
  | _ => False
def KFs (P : Program) : List Field → List Value → Prop
  | [], [] => True
  | f :: fs, v :: vs => (∃ i d, P.info? f.type = some i ∧ P.underlying f.type = some d ∧ i.size = 1 ∧ isAggD d = false ∧ KS d v ∧ f.name ≠ "_") ∧ KFs P fs vs
  | _, _ => False
/- a key of the type kt -/
def KT (P : Program) (kt : Nat) (v : Value) : Prop :=
  (∃ d, P.underlying kt = some d ∧ KS d v) ∨
  (∃ fs a, P.underlying kt = some (.struct fs) ∧ v = .agg a ∧ KFs P fs.toList a.toList ∧ fieldsAt fs.toList 0 = true ∧ P.stoodInHeld kt = false)

def ER (C : Ctx) (N : Nat) (w : World) : List (Key × AV) → List MapEntry → Prop
  | [], [] => True
  | x :: r, e :: s => (KV x.1 e.key ∧ R C N w x.2 e.val) ∧ ER C N w r s
  | _, _ => False

/- the map's object -/
structure MapRel (P : Program) (C : Ctx) (N : Nat) (w : World) (kt : Nat) (es : List (Key × AV)) (E : Array MapEntry) (clock : Nat) : Prop where
  typed : ∀ e ∈ E.toList, KT P kt e.key
  perm : ∃ L, List.Perm L E.toList ∧ ER C N w es L
  keys : (E.toList.map (·.key)).Nodup
  born : ∀ e ∈ E.toList, e.born < clock
  apart : (E.toList.map (·.born)).Nodup

/- what an object of the store says -/
def OR (P : Program) (C : Ctx) (w : World) (σ : Sto) (a : Nat) : AO → Prop
  | .cells vs => ∃ c o cs T, C.loc a = some (c, o) ∧ w.heap[c]? = some (.cells cs T (0, 0)) ∧ RC C (nx σ) w c vs o
  | .map kt es _ => ∃ c E clock, C.loc a = some (c, 0) ∧ w.heap[c]? = some (.map E clock) ∧ MapRel P C (nx σ) w kt es E clock
  | .iter none _ left _ => ∃ c since seen last, C.loc a = some (c, 0) ∧ w.heap[c]? = some (.mapIter none since seen last) ∧ left = []
  | .iter (some m) ver left cur => m < nx σ ∧ ∃ c cm since seen last, C.loc a = some (c, 0) ∧ w.heap[c]? = some (.mapIter (some cm) since seen last) ∧
      ∀ kt es ver', σ.get m = some (.map kt es ver') → ver ≤ ver' ∧ (ver = ver' → ∃ E, C.loc m = some (cm, 0) ∧ w.heap[cm]? = some (.map E since) ∧ last = since ∧
        (∃ L, List.Perm L (E.toList.filter fun e => !seen.contains e.born) ∧ ER C (nx σ) w left L) ∧
        ∀ k v, cur = some (k, v) → ∃ e ∈ E.toList, seen.back? = some e.born ∧ KV k e.key ∧ R C (nx σ) w v e.val)
  | .stamp m ver k => m < nx σ ∧ ∀ kt es ver', σ.get m = some (.map kt es ver') → ver ≤ ver' ∧ (ver = ver' → ∃ cm E clock, C.loc m = some (cm, 0) ∧ w.heap[cm]? = some (.map E clock) ∧
        ∃ e ∈ E.toList, KV k e.key ∧ C.stm a = e.born)

def isStamp : AO → Bool
  | .stamp .. => true
  | _ => false

structure Sim (P : Program) (C : Ctx) (w : World) (σ : Sto) : Prop where
  obj : ∀ a O, σ.get a = some O → OR P C w σ a O
  bound : ∀ a O, σ.get a = some O → a < nx σ
  dom : ∀ a p, C.loc a = some p → ∃ O, σ.get a = some O ∧ isStamp O = false
  inj : ∀ a b c o o', C.loc a = some (c, o) → C.loc b = some (c, o') → a = b
  lt : ∀ a c o, C.loc a = some (c, o) → c < w.heap.size
  rlt : ∀ b, C.res b → b < w.heap.size
  rdis : ∀ a c o, C.loc a = some (c, o) → ¬ C.res c

section
variable {C C' : Ctx} {N N' : Nat} {w w' : World}

theorem ER.ext (e : Ext C N w C' N' w') : ∀ {l : List (Key × AV)} {L : List MapEntry}, ER C N w l L → ER C' N' w' l L
  | [], [], _ => by unfold ER; trivial
  | x :: r, f :: s, h => by unfold ER at *; exact ⟨⟨h.1.1, R.ext e _ _ h.1.2⟩, ER.ext e h.2⟩
  | [], _ :: _, h => by unfold ER at h; exact h.elim
  | _ :: _, [], h => by unfold ER at h; exact h.elim

theorem MapRel.ext {P : Program} (e : Ext C N w C' N' w') {kt : Nat} {es : List (Key × AV)} {E : Array MapEntry} {clock : Nat} (h : MapRel P C N w kt es E clock) : MapRel P C' N' w' kt es E clock :=
  ⟨h.typed, let ⟨L, h1, h2⟩ := h.perm; ⟨L, h1, h2.ext e⟩, h.keys, h.born, h.apart⟩

/- cells of an owned block that is left alone -/
theorem RC.extHeap (e : Ext C N w C' N' w') (c : Nat) (hh : w'.heap[c]? = w.heap[c]?) : ∀ (cs : List AV) (o : Nat), RC C N w c cs o → RC C' N' w' c cs o
  | [], _, _ => by unfold RC; trivial
  | x :: r, o, h => by
    unfold RC at *
    obtain ⟨⟨v, h1, h2, h3⟩, h4⟩ := h
    exact ⟨⟨v, (cell_of_heap hh o none).trans h1, h2, R.ext e x v h3⟩, RC.extHeap e c hh r (o + 1) h4⟩
end

/- an object lies on through a change that leaves its block, its place, and the map that it speaks of -/
theorem OR.ext {P : Program} {C C' : Ctx} {w w' : World} {σ σ' : Sto} {a : Nat} {O : AO} (h : OR P C w σ a O) (e : Ext C (nx σ) w C' (nx σ') w') (ha : a < nx σ)
    (hl : C'.loc a = C.loc a) (hh : ∀ c o, C.loc a = some (c, o) → w'.heap[c]? = w.heap[c]?)
    (hm : ∀ m, m < nx σ → ∀ kt es' v', σ'.get m = some (.map kt es' v') → ∃ kt' es v, σ.get m = some (.map kt' es v) ∧ v ≤ v' ∧ (v = v' → C'.loc m = C.loc m ∧ ∀ c o, C.loc m = some (c, o) → w'.heap[c]? = w.heap[c]?)) :
    OR P C' w' σ' a O := by
  cases O with
  | cells vs =>
    obtain ⟨c, o, cs, T, h1, h2, h3⟩ := h
    exact ⟨c, o, cs, T, hl.trans h1, (hh c o h1).trans h2, RC.extHeap e c (hh c o h1) vs o h3⟩
  | map kt es ver =>
    obtain ⟨c, E, clock, h1, h2, h3⟩ := h
    exact ⟨c, E, clock, hl.trans h1, (hh c 0 h1).trans h2, h3.ext e⟩
  | iter m ver left cur =>
    cases m with
    | none =>
      obtain ⟨c, since, seen, last, h1, h2, h3⟩ := h
      exact ⟨c, since, seen, last, hl.trans h1, (hh c 0 h1).trans h2, h3⟩
    | some m =>
      obtain ⟨h0, c, cm, since, seen, last, h1, h2, h3⟩ := h
      refine ⟨Nat.lt_of_lt_of_le h0 e.next, c, cm, since, seen, last, hl.trans h1, (hh c 0 h1).trans h2, fun kt es' v' hg => ?_⟩
      obtain ⟨kt', es, v, g1, g2, g3⟩ := hm m h0 kt es' v' hg
      obtain ⟨k1, k2⟩ := h3 kt' es v g1
      refine ⟨Nat.le_trans k1 g2, fun hv => ?_⟩
      have hv1 : ver = v := by omega
      obtain ⟨g4, g5⟩ := g3 (by omega)
      obtain ⟨E, q1, q2, q3, ⟨L, q4, q5⟩, q6⟩ := k2 hv1
      exact ⟨E, g4.trans q1, (g5 cm 0 q1).trans q2, q3, ⟨L, q4, q5.ext e⟩, fun k x hk => let ⟨f, f1, f2, f3, f4⟩ := q6 k x hk; ⟨f, f1, f2, f3, R.ext e _ _ f4⟩⟩
  | stamp m ver k =>
    obtain ⟨h0, h3⟩ := h
    refine ⟨Nat.lt_of_lt_of_le h0 e.next, fun kt es' v' hg => ?_⟩
    obtain ⟨kt', es, v, g1, g2, g3⟩ := hm m h0 kt es' v' hg
    obtain ⟨k1, k2⟩ := h3 kt' es v g1
    refine ⟨Nat.le_trans k1 g2, fun hv => ?_⟩
    have hv1 : ver = v := by omega
    obtain ⟨g4, g5⟩ := g3 (by omega)
    obtain ⟨cm, E, clock, q1, q2, f, f1, f2, f3⟩ := k2 hv1
    exact ⟨cm, E, clock, g4.trans q1, (g5 cm 0 q1).trans q2, f, f1, f2, by rw [e.stm a ha]; exact f3⟩

end Go.AM

/- How the abstract store follows the world: new objects, changed objects, cells loaded and stored. -/
namespace Go.AM
open Go

/- block c is turned, nothing else -/
structure Wr (w w' : World) (c : Nat) (O : Obj) : Prop where
  size : w'.heap.size = w.heap.size
  here : w'.heap[c]? = some O
  other : ∀ b, b ≠ c → w'.heap[b]? = w.heap[b]?
  os : w'.os = w.os ∧ w'.output = w.output

/- a new block -/
structure Pu (w w' : World) (O : Obj) : Prop where
  size : w'.heap.size = w.heap.size + 1
  here : w'.heap[w.heap.size]? = some O
  other : ∀ b, b < w.heap.size → w'.heap[b]? = w.heap[b]?
  os : w'.os = w.os ∧ w'.output = w.output

theorem Pu.of_push {w w' : World} {O : Obj} (h : w'.heap = w.heap.push O) (os : w'.os = w.os ∧ w'.output = w.output) : Pu w w' O :=
  ⟨by rw [h]; simp, by rw [h]; simp, fun b hb => by rw [h, Array.getElem?_push_lt hb]; exact (Array.getElem?_eq_getElem hb).symm, os⟩

def Ctx.add (C : Ctx) (a c o : Nat) : Ctx := { C with loc := fun b => if b = a then some (c, o) else C.loc b }
def Ctx.del (C : Ctx) (a : Nat) : Ctx := { C with loc := fun b => if b = a then none else C.loc b }
def Ctx.addStm (C : Ctx) (a : Nat) (n : Int) : Ctx := { C with stm := fun b => if b = a then n else C.stm b }

section
variable {P : Program} {C : Ctx} {w w' : World} {σ : Sto}

theorem Sim.own_lt (h : Sim P C w σ) {c : Nat} (hc : C.own c) : c < w.heap.size := hc.elim (h.rlt c) fun ⟨a, o, ho⟩ => h.lt a c o ho

/- the world has new blocks that nobody owns; or has not changed -/
theorem Sim.same (h : Sim P C w σ) (hs : w.heap.size ≤ w'.heap.size) (hh : ∀ b, b < w.heap.size → w'.heap[b]? = w.heap[b]?) (os : w'.os = w.os ∧ w'.output = w.output) :
    Sim P C w' σ ∧ Ext C (nx σ) w C (nx σ) w' := by
  have e : Ext C (nx σ) w C (nx σ) w' := ⟨Nat.le_refl _, hs, fun b hb ho => ⟨ho, hh b hb⟩, fun _ _ _ h => h, fun _ _ => rfl,
    fun a _ c o hc => by unfold csize; rw [hh c (h.lt a c o hc)], ⟨rfl, fun b hb => hh b (h.rlt b hb)⟩, os⟩
  refine ⟨⟨fun a O hg => ?_, h.bound, h.dom, h.inj, fun a c o hl => Nat.lt_of_lt_of_le (h.lt a c o hl) hs, fun b hb => Nat.lt_of_lt_of_le (h.rlt b hb) hs, h.rdis⟩, e⟩
  exact (h.obj a O hg).ext e (h.bound a O hg) rfl (fun c o hc => hh c (h.lt a c o hc)) fun m _ kt es' v' hg' => ⟨kt, es', v', hg', Nat.le_refl _, fun _ => ⟨rfl, fun c o hc => hh c (h.lt m c o hc)⟩⟩

theorem Sim.push (h : Sim P C w σ) {O : Obj} (p : Pu w w' O) : Sim P C w' σ ∧ Ext C (nx σ) w C (nx σ) w' :=
  h.same (by have := p.size; omega) p.other p.os

/- a new owned object -/
theorem Sim.new (h : Sim P C w σ) {B : Obj} (p : Pu w w' B) (O : AO) (hO : isStamp O = false)
    (hrel : Ext C (nx σ) w (C.add (nx σ) w.heap.size 0) (nx σ + 1) w' → OR P (C.add (nx σ) w.heap.size 0) w' (σ.new O) (nx σ) O) :
    Sim P (C.add (nx σ) w.heap.size 0) w' (σ.new O) ∧ Ext C (nx σ) w (C.add (nx σ) w.heap.size 0) (nx σ + 1) w' := by
  have hne : ∀ {a}, a < nx σ → ¬ a = nx σ := fun h => by omega
  have hloc : ∀ a, a < nx σ → (C.add (nx σ) w.heap.size 0).loc a = C.loc a := fun a ha => by simp [Ctx.add, hne ha]
  have e : Ext C (nx σ) w (C.add (nx σ) w.heap.size 0) (nx σ + 1) w' := ⟨by omega, by have := p.size; omega,
    fun b hb ho => ⟨fun hh => hh.elim (fun hr => ho (.inl hr)) fun ⟨a, o, hao⟩ => by
      by_cases ha : a = nx σ
      · subst ha; simp [Ctx.add] at hao; omega
      · simp [Ctx.add, ha] at hao; exact ho (.inr ⟨a, o, hao⟩), p.other b hb⟩,
    fun a ha q hq => by rwa [hloc a ha] at hq, fun _ _ => rfl,
    fun a ha c o hc => by rw [hloc a ha] at hc; unfold csize; rw [p.other c (h.lt a c o hc)], ⟨rfl, fun b hb => p.other b (h.rlt b hb)⟩, p.os⟩
  refine ⟨⟨fun a X hg => ?_, fun a X hg => ?_, fun a q hq => ?_, fun a b c o o' ha hb => ?_, fun a c o hl => ?_, fun b hb => by have := h.rlt b hb; have := p.size; omega, fun a c o hl hr => ?_⟩, e⟩
  · rw [Sto.get_new] at hg
    by_cases ha : a = nx σ
    · subst ha; simp at hg; subst hg; exact hrel e
    · rw [if_neg ha] at hg
      have hlt := h.bound a X hg
      refine (h.obj a X hg).ext (by rw [nx_new]; exact e) hlt (hloc a hlt) (fun c o hc => p.other c (h.lt a c o hc)) fun m hm kt es' v' hg' => ?_
      rw [Sto.get_new, if_neg (hne hm)] at hg'
      exact ⟨kt, es', v', hg', Nat.le_refl _, fun _ => ⟨hloc m hm, fun c o hc => p.other c (h.lt m c o hc)⟩⟩
  · rw [nx_new]
    rw [Sto.get_new] at hg
    by_cases ha : a = nx σ
    · omega
    · rw [if_neg ha] at hg; have := h.bound a X hg; omega
  · rw [Sto.get_new]
    by_cases ha : a = nx σ
    · rw [if_pos ha]; exact ⟨O, rfl, hO⟩
    · simp [Ctx.add, ha] at hq; rw [if_neg ha]; exact h.dom a q hq
  · by_cases ha' : a = nx σ
    · by_cases hb' : b = nx σ
      · omega
      · simp [Ctx.add, ha'] at ha; simp [Ctx.add, hb'] at hb; have := h.lt b c o' hb; omega
    · by_cases hb' : b = nx σ
      · simp [Ctx.add, ha'] at ha; simp [Ctx.add, hb'] at hb; have := h.lt a c o ha; omega
      · simp [Ctx.add, ha'] at ha; simp [Ctx.add, hb'] at hb; exact h.inj a b c o o' ha hb
  · by_cases ha : a = nx σ
    · simp [Ctx.add, ha] at hl; have := p.size; omega
    · simp [Ctx.add, ha] at hl; have := h.lt a c o hl; have := p.size; omega
  · by_cases ha : a = nx σ
    · simp [Ctx.add, ha] at hl; have := h.rlt c hr; omega
    · simp [Ctx.add, ha] at hl; exact h.rdis a c o hl hr

/- an owned object is turned in place -/
theorem Sim.upd (h : Sim P C w σ) {a c o : Nat} {B : Obj} (hl : C.loc a = some (c, o)) (p : Wr w w' c B) (hsz : csize w' c = csize w c) {O₀ : AO} (h₀ : σ.get a = some O₀)
    (O : AO) (hO : isStamp O = false) (hver : ∀ kt es v, O = .map kt es v → ∃ kt₀ es₀ v₀, O₀ = .map kt₀ es₀ v₀ ∧ v₀ < v)
    (hrel : Ext C (nx σ) w C (nx σ) w' → OR P C w' (σ.set a O) a O) :
    Sim P C w' (σ.set a O) ∧ Ext C (nx σ) w C (nx σ) w' := by
  have hoth : ∀ b c' o', b ≠ a → C.loc b = some (c', o') → w'.heap[c']? = w.heap[c']? := fun b c' o' hb hc => p.other c' (fun hcc => hb (h.inj b a c' o' o hc (hcc ▸ hl)))
  have e : Ext C (nx σ) w C (nx σ) w' := ⟨Nat.le_refl _, by rw [p.size]; exact Nat.le_refl _,
    fun b _ ho => ⟨ho, p.other b (fun hb => ho (.inr (hb ▸ ⟨a, o, hl⟩)))⟩, fun _ _ _ h => h, fun _ _ => rfl,
    fun b _ c' o' hc => by
      by_cases hb : b = a
      · subst hb; rw [hl] at hc; cases hc; exact hsz
      · unfold csize; rw [hoth b c' o' hb hc], ⟨rfl, fun b hb => p.other b (fun hbc => h.rdis a c o hl (hbc ▸ hb))⟩, p.os⟩
  refine ⟨⟨fun b X hg => ?_, fun b X hg => ?_, fun b q hq => ?_, h.inj, fun b c' o' hc => by rw [p.size]; exact h.lt b c' o' hc, fun b hb => by rw [p.size]; exact h.rlt b hb, h.rdis⟩, e⟩
  · rw [Sto.get_set] at hg
    by_cases hb : b = a
    · subst hb; simp at hg; subst hg; exact hrel e
    · rw [if_neg hb] at hg
      refine (h.obj b X hg).ext (by rw [nx_set]; exact e) (h.bound b X hg) rfl (fun c' o' hc => hoth b c' o' hb hc) fun m _ kt es' v' hg' => ?_
      rw [Sto.get_set] at hg'
      by_cases hm : m = a
      · subst hm; simp at hg'
        obtain ⟨kt₀, es₀, v₀, h1, h2⟩ := hver kt es' v' hg'
        exact ⟨kt₀, es₀, v₀, h1 ▸ h₀, by omega, fun hv => by omega⟩
      · rw [if_neg hm] at hg'
        exact ⟨kt, es', v', hg', Nat.le_refl _, fun _ => ⟨rfl, fun c' o' hc => hoth m c' o' hm hc⟩⟩
  · rw [nx_set]
    rw [Sto.get_set] at hg
    by_cases hb : b = a
    · subst hb; exact h.bound b O₀ h₀
    · rw [if_neg hb] at hg; exact h.bound b X hg
  · rw [Sto.get_set]
    by_cases hb : b = a
    · rw [if_pos hb]; exact ⟨O, rfl, hO⟩
    · rw [if_neg hb]; exact h.dom b q hq

/- an owned object is gone -/
theorem Sim.kill (h : Sim P C w σ) (a : Nat) : Sim P (C.del a) w (σ.kill a) ∧ Ext C (nx σ) w (C.del a) (nx σ) w := by
  have hloc : ∀ b p, (C.del a).loc b = some p → b ≠ a ∧ C.loc b = some p := fun b p hp => by
    by_cases hb : b = a
    · simp [Ctx.del, hb] at hp
    · simp [Ctx.del, hb] at hp; exact ⟨hb, hp⟩
  have e : Ext C (nx σ) w (C.del a) (nx σ) w := ⟨Nat.le_refl _, Nat.le_refl _, fun b _ ho => ⟨fun hh => hh.elim (fun hr => ho (.inl hr)) fun ⟨x, o, hx⟩ => ho (.inr ⟨x, o, (hloc x _ hx).2⟩), rfl⟩,
    fun b _ p hp => (hloc b p hp).2, fun _ _ => rfl, fun _ _ _ _ _ => rfl, ⟨rfl, fun _ _ => rfl⟩, rfl, rfl⟩
  refine ⟨⟨fun b X hg => ?_, fun b X hg => ?_, fun b q hq => ?_, fun x y c o o' hx hy => h.inj x y c o o' (hloc x _ hx).2 (hloc y _ hy).2, fun x c o hx => h.lt x c o (hloc x _ hx).2, h.rlt, fun x c o hx => h.rdis x c o (hloc x _ hx).2⟩, e⟩
  · rw [Sto.get_kill] at hg
    by_cases hb : b = a
    · rw [if_pos hb] at hg; cases hg
    · rw [if_neg hb] at hg
      refine (h.obj b X hg).ext (by rw [nx_kill]; exact e) (h.bound b X hg) (by simp [Ctx.del, hb]) (fun _ _ _ => rfl) fun m _ kt es' v' hg' => ?_
      rw [Sto.get_kill] at hg'
      by_cases hm : m = a
      · rw [if_pos hm] at hg'; cases hg'
      · rw [if_neg hm] at hg'; exact ⟨kt, es', v', hg', Nat.le_refl _, fun _ => ⟨by simp [Ctx.del, hm], fun _ _ _ => rfl⟩⟩
  · rw [nx_kill]
    rw [Sto.get_kill] at hg
    by_cases hb : b = a
    · rw [if_pos hb] at hg; cases hg
    · rw [if_neg hb] at hg; exact h.bound b X hg
  · obtain ⟨hb, hq'⟩ := hloc b q hq
    rw [Sto.get_kill, if_neg hb]; exact h.dom b q hq'

/- an owned object is gone, and a new one lies in its block -/
theorem Sim.replace (h : Sim P C w σ) {a c o o' : Nat} {B : Obj} (hl : C.loc a = some (c, o)) (p : Wr w w' c B) {O₀ : AO} (h₀ : σ.get a = some O₀)
    (O : AO) (hO : isStamp O = false)
    (hrel : Ext C (nx σ) w ((C.del a).add (nx σ) c o') (nx σ + 1) w' → OR P ((C.del a).add (nx σ) c o') w' ((σ.kill a).new O) (nx σ) O) :
    Sim P ((C.del a).add (nx σ) c o') w' ((σ.kill a).new O) ∧ Ext C (nx σ) w ((C.del a).add (nx σ) c o') (nx σ + 1) w' := by
  have han : a < nx σ := h.bound a O₀ h₀
  have hoth : ∀ b c' o', b ≠ a → C.loc b = some (c', o') → w'.heap[c']? = w.heap[c']? := fun b c' o' hb hc => p.other c' (fun hcc => hb (h.inj b a c' o' o hc (hcc ▸ hl)))
  have hloc : ∀ b q, ((C.del a).add (nx σ) c o').loc b = some q → (b = nx σ ∧ q = (c, o')) ∨ (b ≠ nx σ ∧ b ≠ a ∧ C.loc b = some q) := fun b q hq => by
    by_cases hb : b = nx σ
    · simp [Ctx.add, hb] at hq; exact .inl ⟨hb, hq.symm⟩
    · by_cases hb' : b = a
      · simp [Ctx.add, Ctx.del, hb, hb'] at hq; omega
      · simp [Ctx.add, Ctx.del, hb, hb'] at hq; exact .inr ⟨hb, hb', hq⟩
  have hlocEq : ∀ b, b < nx σ → b ≠ a → ((C.del a).add (nx σ) c o').loc b = C.loc b := fun b hb hb' => by simp [Ctx.add, Ctx.del, hb', show ¬ b = nx σ by omega]
  have hget : ∀ b X, ((σ.kill a).new O).get b = some X → (b = nx σ ∧ X = O) ∨ (b ≠ nx σ ∧ b ≠ a ∧ σ.get b = some X) := fun b X hg => by
    rw [Sto.get_new, nx_kill] at hg
    by_cases hb : b = nx σ
    · rw [if_pos hb] at hg; cases hg; exact .inl ⟨hb, rfl⟩
    · rw [if_neg hb, Sto.get_kill] at hg
      by_cases hb' : b = a
      · rw [if_pos hb'] at hg; cases hg
      · rw [if_neg hb'] at hg; exact .inr ⟨hb, hb', hg⟩
  have e : Ext C (nx σ) w ((C.del a).add (nx σ) c o') (nx σ + 1) w' := ⟨by omega, by rw [p.size]; exact Nat.le_refl _,
    fun b _ ho => ⟨fun hh => hh.elim (fun hr => ho (.inl hr)) fun ⟨x, y, hxy⟩ => by
      rcases hloc x _ hxy with ⟨_, hq⟩ | ⟨_, _, hq⟩
      · cases hq; exact ho (.inr ⟨a, o, hl⟩)
      · exact ho (.inr ⟨x, y, hq⟩), p.other b (fun hb => ho (.inr (hb ▸ ⟨a, o, hl⟩)))⟩,
    fun b hb q hq => by
      rcases hloc b q hq with ⟨h1, _⟩ | ⟨_, _, h2⟩
      · omega
      · exact h2, fun _ _ => rfl,
    fun b hb c' y hc => by
      rcases hloc b _ hc with ⟨h1, _⟩ | ⟨_, h2, h3⟩
      · omega
      · unfold csize; rw [hoth b c' y h2 h3], ⟨rfl, fun b hb => p.other b (fun hbc => h.rdis a c o hl (hbc ▸ hb))⟩, p.os⟩
  have hnx : nx ((σ.kill a).new O) = nx σ + 1 := by rw [nx_new, nx_kill]
  refine ⟨⟨fun b X hg => ?_, fun b X hg => ?_, fun b q hq => ?_, fun x y c' y1 y2 hx hy => ?_, fun x c' y hx => ?_, fun b hb => by rw [p.size]; exact h.rlt b hb, fun x c' y hx => ?_⟩, e⟩
  · rcases hget b X hg with ⟨h1, h2⟩ | ⟨h1, h2, h3⟩
    · subst h1; subst h2; exact hrel e
    · have hlt := h.bound b X h3
      refine (h.obj b X h3).ext (by rw [hnx]; exact e) hlt (hlocEq b hlt h2) (fun c' y hc => hoth b c' y h2 hc) fun m hm kt es' v' hg' => ?_
      rcases hget m _ hg' with ⟨k1, _⟩ | ⟨_, k2, k3⟩
      · omega
      · exact ⟨kt, es', v', k3, Nat.le_refl _, fun _ => ⟨hlocEq m hm k2, fun c' y hc => hoth m c' y k2 hc⟩⟩
  · rw [hnx]
    rcases hget b X hg with ⟨h1, _⟩ | ⟨_, _, h3⟩
    · omega
    · have := h.bound b X h3; omega
  · rcases hloc b q hq with ⟨h1, _⟩ | ⟨h1, h2, h3⟩
    · subst h1; exact ⟨O, by rw [Sto.get_new, nx_kill, if_pos rfl], hO⟩
    · obtain ⟨X, k1, k2⟩ := h.dom b q h3
      exact ⟨X, by rw [Sto.get_new, nx_kill, if_neg h1, Sto.get_kill, if_neg h2]; exact k1, k2⟩
  · rcases hloc x _ hx with ⟨h1, h2⟩ | ⟨h1, h2, h3⟩ <;> rcases hloc y _ hy with ⟨k1, k2⟩ | ⟨k1, k2, k3⟩
    · omega
    · cases h2; exact absurd (h.inj y a _ _ _ k3 hl) k2
    · cases k2; exact absurd (h.inj x a _ _ _ h3 hl) h2
    · exact h.inj x y c' y1 y2 h3 k3
  · rw [p.size]
    rcases hloc x _ hx with ⟨_, h2⟩ | ⟨_, _, h3⟩
    · cases h2; exact h.lt a c o hl
    · exact h.lt x c' y h3
  · rcases hloc x _ hx with ⟨_, h2⟩ | ⟨_, _, h3⟩
    · cases h2; exact h.rdis a c o hl
    · exact h.rdis x c' y h3

/- a stamp -/
theorem Sim.newStamp (h : Sim P C w σ) (n : Int) (m ver : Nat) (k : Key) (hm : m < nx σ) (hrel : ∀ kt es ver', σ.get m = some (.map kt es ver') → ver ≤ ver' ∧ (ver = ver' → ∃ cm E clock, C.loc m = some (cm, 0) ∧ w.heap[cm]? = some (.map E clock) ∧
        ∃ e ∈ E.toList, KV k e.key ∧ n = e.born)) :
    Sim P (C.addStm (nx σ) n) w (σ.new (.stamp m ver k)) ∧ Ext C (nx σ) w (C.addStm (nx σ) n) (nx σ + 1) w := by
  have hne : ∀ {a}, a < nx σ → ¬ a = nx σ := fun h => by omega
  have e : Ext C (nx σ) w (C.addStm (nx σ) n) (nx σ + 1) w := ⟨by omega, Nat.le_refl _, fun b _ ho => ⟨ho, rfl⟩, fun _ _ _ h => h,
    fun a ha => by simp [Ctx.addStm, hne ha], fun _ _ _ _ _ => rfl, ⟨rfl, fun _ _ => rfl⟩, rfl, rfl⟩
  refine ⟨⟨fun a X hg => ?_, fun a X hg => ?_, fun a q hq => ?_, h.inj, h.lt, h.rlt, h.rdis⟩, e⟩
  · rw [Sto.get_new] at hg
    by_cases ha : a = nx σ
    · subst ha; simp at hg; subst hg
      refine ⟨by rw [nx_new]; omega, fun kt es ver' hg' => ?_⟩
      rw [Sto.get_new, if_neg (hne hm)] at hg'
      obtain ⟨h1, h2⟩ := hrel kt es ver' hg'
      refine ⟨h1, fun hv => ?_⟩
      obtain ⟨cm, E, clock, q1, q2, f, f1, f2, f3⟩ := h2 hv
      exact ⟨cm, E, clock, q1, q2, f, f1, f2, by simp [Ctx.addStm, f3]⟩
    · rw [if_neg ha] at hg
      refine (h.obj a X hg).ext (by rw [nx_new]; exact e) (h.bound a X hg) rfl (fun _ _ _ => rfl) fun x hx kt es' v' hg' => ?_
      rw [Sto.get_new, if_neg (hne hx)] at hg'
      exact ⟨kt, es', v', hg', Nat.le_refl _, fun _ => ⟨rfl, fun _ _ _ => rfl⟩⟩
  · rw [nx_new]
    rw [Sto.get_new] at hg
    by_cases ha : a = nx σ
    · omega
    · rw [if_neg ha] at hg; have := h.bound a X hg; omega
  · obtain ⟨X, h1, h2⟩ := h.dom a q hq
    have := h.bound a X h1
    exact ⟨X, by rw [Sto.get_new, if_neg (by omega)]; exact h1, h2⟩
end

/- ===== cells loaded and stored ===== -/
theorem add_off (c o n : Nat) : (⟨c, o, none⟩ : Addr).add n = ⟨c, o + n, none⟩ := by
  unfold Addr.add; split <;> simp_all

section
variable {P : Program} {C : Ctx} {N : Nat} {w : World}

theorem run_loadCellsFrom : ∀ (cs : List AV) (c o i : Nat) (acc : Array Value), RC C N w c cs (o + i) →
    ∃ l, (loadCellsFrom ⟨c, o, none⟩ i cs.length acc).run P w = .ok (acc ++ l.toArray) w ∧ RL C N w cs l ∧ ∀ x ∈ l, x.oneCell = true
  | [], c, o, i, acc, _ => ⟨[], by simp [loadCellsFrom], by unfold RL; trivial, by simp⟩
  | x :: r, c, o, i, acc, h => by
    unfold RC at h
    obtain ⟨⟨v, h1, h2, h3⟩, h4⟩ := h
    obtain ⟨l, k1, k2, k3⟩ := run_loadCellsFrom r c o (i + 1) (acc.push v) h4
    refine ⟨v :: l, ?_, by unfold RL; exact ⟨h3, k2⟩, by simpa [h2] using k3⟩
    simp only [List.length_cons, loadCellsFrom, Sem.run_bind, run_load, add_off, h1, Result.andThen_ok, k1]
    simp

theorem run_loadCells {cs : List AV} {c o : Nat} (h : RC C N w c cs o) :
    ∃ a, (loadCells ⟨c, o, none⟩ cs.length).run P w = .ok a w ∧ RL C N w cs a.toList ∧ ∀ x ∈ a.toList, x.oneCell = true := by
  obtain ⟨l, h1, h2, h3⟩ := run_loadCellsFrom (P := P) cs c o 0 #[] h
  exact ⟨l.toArray, by simpa [loadCells] using h1, by simpa using h2, by simpa using h3⟩

def putL : Array Value → Nat → List Value → Array Value
  | cs, _, [] => cs
  | cs, k, v :: r => putL (cs.setIfInBounds k v) (k + 1) r

theorem putL_size : ∀ (l : List Value) (cs : Array Value) (k : Nat), (putL cs k l).size = cs.size
  | [], _, _ => rfl
  | v :: r, cs, k => by simp [putL, putL_size r]

theorem putL_get : ∀ (l : List Value) (cs : Array Value) (k : Nat), k + l.length ≤ cs.size → ∀ j, (putL cs k l)[j]? = if k ≤ j ∧ j < k + l.length then l[j - k]? else cs[j]?
  | [], cs, k, _, j => by simp [putL]; omega
  | v :: r, cs, k, h, j => by
    simp only [List.length_cons] at h
    rw [putL, putL_get r _ _ (by simp; omega)]
    by_cases h1 : k + 1 ≤ j ∧ j < k + 1 + r.length
    · rw [if_pos h1, if_pos (by simp; omega), show j - k = (j - (k + 1)) + 1 by omega]; rfl
    · rw [if_neg h1]
      by_cases h2 : j = k
      · subst h2; rw [if_pos (by simp), Array.getElem?_setIfInBounds_self_of_lt (by omega)]; simp
      · rw [if_neg (by simp; omega), Array.getElem?_setIfInBounds_ne (by omega)]

theorem oneCell_eq (v : Value) : v.oneCell' = v.oneCell := by cases v <;> rfl

theorem run_storeCells : ∀ (l : List Value) (w : World) (c o i : Nat) (cs : Array Value) (T : TypeId), w.heap[c]? = some (.cells cs T (0, 0)) →
    (∀ x ∈ l, x.oneCell = true) → o + i + l.length ≤ cs.size → ∃ w', (storeCells ⟨c, o, none⟩ l i).run P w = .ok () w' ∧ Wr w w' c (.cells (putL cs (o + i) l) T (0, 0))
  | [], w, c, o, i, cs, T, h, _, _ => ⟨w, by simp [storeCells], ⟨rfl, h, fun _ _ => rfl, rfl, rfl⟩⟩
  | v :: r, w, c, o, i, cs, T, h, h1, h2 => by
    simp only [List.length_cons] at h2
    have hcell : w.cell? ⟨c, o + i, none⟩ = some cs[o + i] := by
      unfold World.cell?; simp only [h]; simp
    have hfr : w.frozen? ⟨c, o + i, none⟩ = false := by unfold World.frozen?; simp [h]
    have hw1 : (w.setCell ⟨c, o + i, none⟩ v).heap[c]? = some (.cells (cs.setIfInBounds (o + i) v) T (0, 0)) := by
      simp only [World.setCell, Array.getElem?_modify, if_true]; simp [h]
    obtain ⟨w', k1, k2⟩ := run_storeCells r (w.setCell ⟨c, o + i, none⟩ v) c o (i + 1) (cs.setIfInBounds (o + i) v) T hw1 (fun x hx => h1 x (by simp [hx])) (by simp; omega)
    refine ⟨w', ?_, ?_⟩
    · have hv : v.oneCell' = true := by rw [oneCell_eq]; exact h1 v (by simp)
      simp only [storeCells, Sem.run_bind, add_off, run_store P w _ v _ hv, hcell, hfr, Bool.false_eq_true, if_false, Result.andThen_ok]
      exact k1
    · refine ⟨by rw [k2.size]; simp [World.setCell], ?_, fun b hb => ?_, k2.os⟩
      · rw [k2.here, putL, show o + i + 1 = o + (i + 1) by omega]
      · rw [k2.other b hb]
        simp only [World.setCell, Array.getElem?_modify]
        rw [if_neg (fun h => hb h.symm)]
end

end Go.AM
