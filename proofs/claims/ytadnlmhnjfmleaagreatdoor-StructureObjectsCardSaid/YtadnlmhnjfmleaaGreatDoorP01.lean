/- A part of the proof; shortened by program. -/
import Derived.Wp
import Derived.Laws.Sem
import Derived.Laws.Strings
import Derived.IntWalk
import Derived.Test.YtadnlmhnjfmleaaGreatDoorP00
set_option maxRecDepth 100000
set_option maxHeartbeats 4000000
set_option linter.unusedSimpArgs false
set_option linter.unusedVariables false
namespace Go.AM
open Go
section
structure Ctx where
 loc : Nat -> Option (Nat × Nat)
 stm : Nat -> Int
 res : Nat -> Prop
 lr : Nat -> Option Loop
def Ctx.own (C : Ctx) (c : Nat) : Prop := C.res c ∨ ∃ a o,C.loc a = some (c,o)
def csize (w : World) (c : Nat) : Nat := match w.heap[c]? with | some (.cells cs _ _) => cs.size | _ => 0
mutual
def R (C : Ctx) (N : Nat) (w : World) : AV -> Value -> Prop
 | .any,_ => True
 | .bool b,v => v = .bool b
 | .int k n,v => v = .int k n
 | .str l,v => ∃ s,v = .string s /\ Bl s = l
 | .nil x,v => v = x /\ Wf x = true
 | .pr a off,v => ∃ ad,v = .pointer (some ad) /\ a < N /\ ∀ c o,C.loc a = some (c,o) -> ad = ⟨c,o + off,none⟩
 | .pv cs,v => ∃ c o,v = .pointer (some ⟨c,o,none⟩) /\ (cs ≠ [] -> ¬ C.own c) /\ RC C N w c cs o
 | .sr a off sz len cap,v => ∃ ad k,v = .slice (some ad) len k /\ a < N /\ len <= k /\ (∀ q,cap = some q -> k = q) /\
   ∀ c o,C.loc a = some (c,o) -> (0 < k -> ad = ⟨c,o + off,none⟩) /\ o + off + k * sz <= csize w c
 | .sv cs sz len cap,v => ∃ ado k,v = .slice ado len k /\ len <= k /\ (∀ q,cap = some q -> k = q) /\ cs.length = len * sz /\ (ado = none -> k = 0) /\
   ∀ ad,ado = some ad -> (0 < k -> ad.spot = none) /\ (cs ≠ [] -> ¬ C.own ad.block) /\ RC C N w ad.block cs ad.off
 | .mp r,v => ∃ c,v = .map (some c) /\ r < N /\ ∀ c' o,C.loc r = some (c',o) -> c = c'
 | .it r,v => ∃ c,v = .pointer (some ⟨c,0,none⟩) /\ r < N /\ ∀ c' o,C.loc r = some (c',o) -> c = c'
 | .stp a,v => v = .int .i64 (C.stm a) /\ a < N
 | .flt k n,v => v = .float k n
 | .yl a,v => v = .func (.yield (C.stm a).toNat) #[] #[] /\ a < N
 | .fn f p q,v => ∃ a b,v = .func f a b /\ RL C N w p a.toList /\ RL C N w q b.toList
 | .ifc t x,v => ∃ y,v = .iface t y /\ R C N w x y
 | .agg cs,v => ∃ a,v = .agg a /\ RL C N w cs a.toList /\ ∀ x ∈ a.toList,x.oneCell = true
 | .tup vs,v => ∃ a,v = .tuple a /\ RL C N w vs a.toList
def RC (C : Ctx) (N : Nat) (w : World) (c : Nat) : List AV -> Nat -> Prop
 | [],_ => True
 | x :: r,o => (∃ v,w.cell? ⟨c,o,none⟩ = some v /\ v.oneCell = true /\ R C N w x v) /\ RC C N w c r (o + 1)
def RL (C : Ctx) (N : Nat) (w : World) : List AV -> List Value -> Prop
 | [],[] => True
 | x :: r,v :: s => R C N w x v /\ RL C N w r s
 | _,_ => False
end
structure Ext (C : Ctx) (N : Nat) (w : World) (C' : Ctx) (N' : Nat) (w' : World) : Prop where
 next : N <= N'
 size : w.heap.size <= w'.heap.size
 keep : ∀ b,b < w.heap.size -> ¬ C.own b -> ¬ C'.own b /\ w'.heap[b]? = w.heap[b]?
 loc : ∀ a,a < N -> ∀ p,C'.loc a = some p -> C.loc a = some p
 stm : ∀ a,a < N -> C'.stm a = C.stm a
 lr : ∀ a,a < N -> C'.lr a = C.lr a
 bsz : ∀ a,a < N -> ∀ c o,C'.loc a = some (c,o) -> csize w' c = csize w c
 res : C'.res = C.res /\ ∀ b,C.res b -> w'.heap[b]? = w.heap[b]?
 os : w'.os = w.os /\ w'.output = w.output
theorem Ext.refl (C : Ctx) (N : Nat) (w : World) : Ext C N w C N w :=
 ⟨nl,nl,fun _ _ h => ⟨h,rfl⟩,fun _ _ _ h => h,fun _ _ => rfl,fun _ _ => rfl,fun _ _ _ _ _ => rfl,⟨rfl,fun _ _ => rfl⟩,rfl,rfl⟩
abbrev bz_ := @Ext.refl
theorem Ext.trans {C C₁ C₂ : Ctx} {N N₁ N₂ : Nat} {w w₁ w₂ : World} (h : Ext C N w C₁ N₁ w₁) (k : Ext C₁ N₁ w₁ C₂ N₂ w₂) : Ext C N w C₂ N₂ w₂ where
 next := bc_ h.next k.next
 size := bc_ h.size k.size
 keep b hb ho := by
  obtain ⟨h1,h2⟩ := h.keep b hb ho;obtain ⟨k1,k2⟩ := k.keep b (aq_ hb h.size) h1;exact ⟨k1,k2.trans h2⟩
 loc a ha p hp := h.loc a ha p (k.loc a (aq_ ha h.next) p hp)
 stm a ha := (k.stm a (aq_ ha h.next)).trans (h.stm a ha)
 lr a ha := (k.lr a (aq_ ha h.next)).trans (h.lr a ha)
 bsz a ha c o hc := by
  have ha' := aq_ ha h.next;exact (k.bsz a ha' c o hc).trans (h.bsz a ha c o (k.loc a ha' _ hc))
 res := ⟨k.res.1.trans h.res.1,fun b hb => (k.res.2 b (by rw [h.res.1]; exact hb)).trans (h.res.2 b hb)⟩
 os := ⟨k.os.1.trans h.os.1,k.os.2.trans h.os.2⟩
theorem Aj9 {w : World} {a : Addr} {v : Value} (h : w.cell? a = some v) : a.block < w.heap.size := by
 unfold World.cell? at h;cases hh : w.heap[a.block]? with
 | none => simp [hh] at h
 | some o => exact (at_.1 hh).1
theorem Tl {w w' : World} {b : Nat} (h : w'.heap[b]? = w.heap[b]?) (o : Nat) (s : Option Nat) : w'.cell? ⟨b,o,s⟩ = w.cell? ⟨b,o,s⟩ := by
 unfold World.cell?; simp only [h]
section
variable {C C' : Ctx} {N N' : Nat} {w w' : World}
mutual
theorem R.ext (e : Ext C N w C' N' w') : ∀ (x : AV) (v : Value),R C N w x v -> R C' N' w' x v
 | .any,_,_ => by unfold R; trivial
 | .bool b,v,h => by unfold R at *; exact h
 | .int k n,v,h => by unfold R at *; exact h
 | .str l,v,h => by unfold R at *; exact h
 | .nil x,v,h => by unfold R at *; exact h
 | .pr a off,v,h => by
  unfold R at *;obtain ⟨ad,h1,h2,h3⟩ := h;exact ⟨ad,h1,aq_ h2 e.next,fun c o hc => h3 c o (e.loc a h2 _ hc)⟩
 | .pv cs,v,h => by
  unfold R at *;obtain ⟨c,o,h1,h2,h3⟩ := h;exact ⟨c,o,h1,RC.extOwn e c cs o h2 h3,RC.ext e c cs o h2 h3⟩
 | .sr a off sz len cap,v,h => by
  unfold R at *;obtain ⟨ad,k,h1,h2,h3,h4,h5⟩ := h;refine ⟨ad,k,h1,aq_ h2 e.next,h3,h4,fun c o hc => ?_⟩
  obtain ⟨h6,h7⟩ := h5 c o (e.loc a h2 _ hc)
  exact ⟨h6,by rw [e.bsz a h2 c o hc]; exact h7⟩
 | .sv cs sz len cap,v,h => by
  unfold R at *;obtain ⟨ado,k,h1,h2,h3,h4,h5,h6⟩ := h;refine ⟨ado,k,h1,h2,h3,h4,h5,fun ad ha => ?_⟩
  obtain ⟨h7,h8,h9⟩ := h6 ad ha;exact ⟨h7,RC.extOwn e ad.block cs ad.off h8 h9,RC.ext e ad.block cs ad.off h8 h9⟩
 | .mp r,v,h => by
  unfold R at *;obtain ⟨c,h1,h2,h3⟩ := h;exact ⟨c,h1,aq_ h2 e.next,fun c' o hc => h3 c' o (e.loc r h2 _ hc)⟩
 | .it r,v,h => by
  unfold R at *;obtain ⟨c,h1,h2,h3⟩ := h;exact ⟨c,h1,aq_ h2 e.next,fun c' o hc => h3 c' o (e.loc r h2 _ hc)⟩
 | .stp a,v,h => by
  unfold R at *
  exact ⟨by rw [e.stm a h.2]; exact h.1,aq_ h.2 e.next⟩
 | .flt k n,v,h => by unfold R at *; exact h
 | .yl a,v,h => by
  unfold R at *
  exact ⟨by rw [e.stm a h.2]; exact h.1,aq_ h.2 e.next⟩
 | .fn f p q,v,h => by
  unfold R at *;obtain ⟨a,b,h1,h2,h3⟩ := h;exact ⟨a,b,h1,RL.ext e p _ h2,RL.ext e q _ h3⟩
 | .ifc t x,v,h => by
  unfold R at *;obtain ⟨y,h1,h2⟩ := h;exact ⟨y,h1,R.ext e x y h2⟩
 | .agg cs,v,h => by
  unfold R at *;obtain ⟨a,h1,h2,h3⟩ := h;exact ⟨a,h1,RL.ext e cs _ h2,h3⟩
 | .tup vs,v,h => by
  unfold R at *;obtain ⟨a,h1,h2⟩ := h;exact ⟨a,h1,RL.ext e vs _ h2⟩
theorem RC.extOwn (e : Ext C N w C' N' w') (c : Nat) : ∀ (cs : List AV) (o : Nat),(cs ≠ [] -> ¬ C.own c) -> RC C N w c cs o -> (cs ≠ [] -> ¬ C'.own c)
 | [],_,_,_ => fun h => absurd rfl h
 | x :: r,o,ho,h => fun _ => by
  unfold RC at h;obtain ⟨⟨v,h1,_⟩,_⟩ := h
  exact (e.keep c (Aj9 h1) (ho (by simp))).1
theorem RC.ext (e : Ext C N w C' N' w') (c : Nat) : ∀ (cs : List AV) (o : Nat),(cs ≠ [] -> ¬ C.own c) -> RC C N w c cs o -> RC C' N' w' c cs o
 | [],_,_,_ => by unfold RC; trivial
 | x :: r,o,ho,h => by
  unfold RC at *;obtain ⟨⟨v,h1,h2,h3⟩,h4⟩ := h
  exact ⟨⟨v,(Tl (e.keep c (Aj9 h1) (ho (by simp))).2 o none).trans h1,h2,R.ext e x v h3⟩,RC.ext e c r (o + 1) (fun _ => ho (by simp)) h4⟩
theorem RL.ext (e : Ext C N w C' N' w') : ∀ (l : List AV) (vs : List Value),RL C N w l vs -> RL C' N' w' l vs
 | [],[],_ => by unfold RL; trivial
 | x :: r,v :: s,h => by
  unfold RL at *;exact ⟨R.ext e x v h.1,RL.ext e r s h.2⟩
 | [],_ :: _,h => by unfold RL at h; exact h.elim
 | _ :: _,[],h => by unfold RL at h; exact h.elim
end
theorem RL.length : ∀ {l : List AV} {vs : List Value},RL C N w l vs -> l.length = vs.length
 | [],[],_ => rfl
 | x :: r,v :: s,h => by unfold RL at h; simp [RL.length h.2]
 | [],_ :: _,h => by unfold RL at h; exact h.elim
 | _ :: _,[],h => by unfold RL at h; exact h.elim
theorem RL.get : ∀ {l : List AV} {vs : List Value} (_ : RL C N w l vs) (i : Nat) (x : AV),l[i]? = some x -> ∃ v,vs[i]? = some v /\ R C N w x v
 | x :: r,v :: s,h,0,y,hy => by unfold RL at h; simp at hy; subst hy; exact ⟨v,rfl,h.1⟩
 | x :: r,v :: s,h,i + 1,y,hy => by unfold RL at h; exact RL.get h.2 i y (by simpa using hy)
 | [],[],_,i,y,hy => by simp at hy
 | [],_ :: _,h,_,_,_ => by unfold RL at h; exact h.elim
 | _ :: _,[],h,_,_,_ => by unfold RL at h; exact h.elim
theorem RL.append : ∀ {l : List AV} {vs : List Value} {l' : List AV} {vs' : List Value},RL C N w l vs -> RL C N w l' vs' -> RL C N w (l ++ l') (vs ++ vs')
 | [],[],_,_,_,k => k
 | x :: r,v :: s,_,_,h,k => by unfold RL at h; show RL C N w (x :: (r ++ _)) (v :: (s ++ _)); unfold RL; exact ⟨h.1,RL.append h.2 k⟩
 | [],_ :: _,_,_,h,_ => by unfold RL at h; exact h.elim
 | _ :: _,[],_,_,h,_ => by unfold RL at h; exact h.elim
theorem RL.drop : ∀ {l : List AV} {vs : List Value} (n : Nat),RL C N w l vs -> RL C N w (l.drop n) (vs.drop n)
 | [],[],n,h => by simp [RL]
 | x :: r,v :: s,0,h => h
 | x :: r,v :: s,n + 1,h => by unfold RL at h; simpa using RL.drop n h.2
 | [],_ :: _,_,h => by unfold RL at h; exact h.elim
 | _ :: _,[],_,h => by unfold RL at h; exact h.elim
theorem RC.get : ∀ {cs : List AV} {c o : Nat} (_ : RC C N w c cs o) (i : Nat) (x : AV),cs[i]? = some x -> ∃ v,w.cell? ⟨c,o + i,none⟩ = some v /\ v.oneCell = true /\ R C N w x v
 | x :: r,c,o,h,0,y,hy => by unfold RC at h; simp at hy; subst hy; exact h.1
 | x :: r,c,o,h,i + 1,y,hy => by
  unfold RC at h
  have := RC.get h.2 i y (by simpa using hy)
  rwa [show o + 1 + i = o + (i + 1) by omega] at this
 | [],_,_,_,i,y,hy => by simp at hy
theorem RC.drop : ∀ {cs : List AV} {c o : Nat} (n : Nat),RC C N w c cs o -> RC C N w c (cs.drop n) (o + n)
 | cs,c,o,0,h => h
 | [],_,_,n + 1,_ => by simp [RC]
 | x :: r,c,o,n + 1,h => by
  unfold RC at h;have := RC.drop n h.2
  rwa [show o + 1 + n = o + (n + 1) by omega] at this
theorem RC.take : ∀ {cs : List AV} {c o : Nat} (n : Nat) {l : List AV},Di n cs = some l -> RC C N w c cs o -> RC C N w c l o
 | cs,c,o,0,l,ht,h => by simp [Di] at ht; subst ht; unfold RC; trivial
 | x :: r,c,o,n + 1,l,ht,h => by
  unfold RC at h;simp only [Di] at ht;cases hr : Di n r with
  | none => simp [hr] at ht
  | some l' =>
   simp [hr] at ht
   subst ht;unfold RC;exact ⟨h.1,RC.take n hr h.2⟩
 | [],_,_,n + 1,l,ht,h => by simp [Di] at ht
end
theorem Gt : ∀ {n : Nat} {l l' : List AV},Di n l = some l' -> l' = l.take n /\ l'.length = n
 | 0,l,l',h => by simp [Di] at h; subst h; simp
 | n + 1,[],l',h => by simp [Di] at h
 | n + 1,x :: r,l',h => by
  simp only [Di] at h;cases hr : Di n r with
  | none => simp [hr] at h
  | some l'' =>
   simp [hr] at h
   subst h;obtain ⟨h1,h2⟩ := Gt hr
   exact ⟨by simp [h1],by simp [h2]⟩
theorem Tr.get_mkL {α : Type} (v : Option α) (l r : Tr α) (k : Nat) : (Tr.mkL v l r).get k = (Tr.n v l r).get k := by cases l <;> rfl
abbrev gb_ := @Tr.get_mkL
theorem Tr.get_mkR {α : Type} (v : Option α) (l r : Tr α) (k : Nat) : (Tr.mkR v l r).get k = (Tr.n v l r).get k := by cases r <;> rfl
abbrev gc_ := @Tr.get_mkR
theorem Anx {n : Nat} (h : ¬ n = 0) : Nat.beq n 0 = false := by cases n with | zero => exact absurd rfl h | succ n => rfl
theorem Tr.get_succ {α : Type} (v : Option α) (l r : Tr α) (k : Nat) : (Tr.n v l r).get (k + 1) = if k % 2 = 0 then l.get (k / 2) else r.get (k / 2) := by
 simp only [Tr.get]
 by_cases h : k % 2 = 0
 ·simp [h]
 ·have : Nat.beq (k % 2) 0 = false := Anx h
  simp [h,this]
abbrev cp_ := @Tr.get_succ
theorem Tr.get_zero {α : Type} (v : Option α) (l r : Tr α) : (Tr.n v l r).get 0 = v := rfl
abbrev ew_ := @Tr.get_zero
theorem Tr.get_put_ne {α : Type} : ∀ (f : Nat) (t : Tr α) (k : Nat) (x : Option α) (j : Nat),j ≠ k -> (t.put f k x).get j = t.get j
 | 0,t,k,x,j,h => rfl
 | f + 1,.e,0,x,j,h => by
  cases j with
  | zero => exact absurd rfl h
  | succ j => simp [Tr.put,cp_,Tr.get]
 | f + 1,.n v l r,0,x,j,h => by
  cases j with
  | zero => exact absurd rfl h
  | succ j => simp [Tr.put,cp_]
 | f + 1,.e,k + 1,x,j,h => by
  simp only [Tr.put]
  by_cases hk : k % 2 = 0
  ·have hb : Nat.beq (k % 2) 0 = true := by simp [hk]
   simp only [hb,cond_true,gb_];cases j with
   | zero => simp [Tr.get]
   | succ j =>
    rw [cp_]
    by_cases hj : j % 2 = 0
    ·rw [if_pos hj,Tr.get_put_ne f _ _ _ _ Om]; simp [Tr.get]
    ·rw [if_neg hj]; simp [Tr.get]
  ·have hb : Nat.beq (k % 2) 0 = false := Anx hk;simp only [hb,cond_false,gc_];cases j with
   | zero => simp [Tr.get]
   | succ j =>
    rw [cp_]
    by_cases hj : j % 2 = 0
    ·rw [if_pos hj]; simp [Tr.get]
    ·rw [if_neg hj,Tr.get_put_ne f _ _ _ _ Om]; simp [Tr.get]
 | f + 1,.n v l r,k + 1,x,j,h => by
  simp only [Tr.put]
  by_cases hk : k % 2 = 0
  ·have hb : Nat.beq (k % 2) 0 = true := by simp [hk]
   simp only [hb,cond_true,gb_];cases j with
   | zero => simp [Tr.get]
   | succ j =>
    rw [cp_,cp_]
    by_cases hj : j % 2 = 0
    ·rw [if_pos hj,if_pos hj,Tr.get_put_ne f _ _ _ _ Om]
    ·rw [if_neg hj,if_neg hj]
  ·have hb : Nat.beq (k % 2) 0 = false := Anx hk;simp only [hb,cond_false,gc_];cases j with
   | zero => simp [Tr.get]
   | succ j =>
    rw [cp_,cp_]
    by_cases hj : j % 2 = 0
    ·rw [if_pos hj,if_pos hj]
    ·rw [if_neg hj,if_neg hj,Tr.get_put_ne f _ _ _ _ Om]
abbrev en_ := @Tr.get_put_ne
theorem Tr.get_put_eq {α : Type} : ∀ (f : Nat) (t : Tr α) (k : Nat) (x : Option α),k < f -> (t.put f k x).get k = x
 | 0,t,k,x,h => absurd h Om
 | f + 1,.e,0,x,_ => rfl
 | f + 1,.n v l r,0,x,_ => rfl
 | f + 1,.e,k + 1,x,h => by
  simp only [Tr.put]
  by_cases hk : k % 2 = 0
  ·have hb : Nat.beq (k % 2) 0 = true := by simp [hk]
   simp only [hb,cond_true,gb_];rw [cp_,if_pos hk,Tr.get_put_eq f .e (k / 2) x Om]
  ·have hb : Nat.beq (k % 2) 0 = false := Anx hk;simp only [hb,cond_false,gc_];rw [cp_,if_neg hk,Tr.get_put_eq f .e (k / 2) x Om]
 | f + 1,.n v l r,k + 1,x,h => by
  simp only [Tr.put]
  by_cases hk : k % 2 = 0
  ·have hb : Nat.beq (k % 2) 0 = true := by simp [hk]
   simp only [hb,cond_true,gb_];rw [cp_,if_pos hk,Tr.get_put_eq f l (k / 2) x Om]
  ·have hb : Nat.beq (k % 2) 0 = false := Anx hk;simp only [hb,cond_false,gc_];rw [cp_,if_neg hk,Tr.get_put_eq f r (k / 2) x Om]
abbrev eo_ := @Tr.get_put_eq
theorem Tr.get_put {α : Type} (t : Tr α) (k : Nat) (x : Option α) (j : Nat) : (t.put (k + 1) k x).get j = if j = k then x else t.get j := by
 by_cases h : j = k
 ·subst h; rw [if_pos rfl,eo_ _ _ _ _ Om]
 ·rw [if_neg h,en_ _ _ _ _ _ h]
abbrev dl_ := @Tr.get_put
theorem Dq {α β : Type} (t : Tr α) (k : Tr α -> β) : Sz t k = k t := by cases t <;> rfl
theorem Sto.get_set (J : Sto) (a : Nat) (o : AO) (b : Nat) : (J.set a o).get b = if b = a then some o else J.get b := by
 cases J; simp only [Sto.set,Dq,Sto.get,dl_]
abbrev a_ := @Sto.get_set
theorem Sto.get_kill (J : Sto) (a : Nat) (b : Nat) : (J.kill a).get b = if b = a then none else J.get b := by
 cases J; simp only [Sto.kill,Dq,Sto.get,dl_]
abbrev db_ := @Sto.get_kill
theorem Sto.get_new (J : Sto) (o : AO) (b : Nat) : (J.new o).get b = if b = nx J then some o else J.get b := by
 cases J; simp only [Sto.new,Dq,Ag,Sto.get,nx,dl_]; rfl
abbrev ab_ := @Sto.get_new
theorem Ae (J : Sto) (a : Nat) (o : AO) : nx (J.set a o) = nx J := by cases J; simp only [Sto.set,Dq,nx]
theorem By (J : Sto) (a : Nat) : nx (J.kill a) = nx J := by cases J; simp only [Sto.kill,Dq,nx]
theorem Ac (J : Sto) (o : AO) : nx (J.new o) = nx J + 1 := by cases J; simp only [Sto.new,Dq,Ag,nx]
mutual
def KV : Key -> Value -> Prop
 | .bool b,v => v = .bool b
 | .int k n,v => v = .int k n
 | .str l,v => ∃ s,v = .string s /\ Bl s = l
 | .agg cs,v => ∃ a,v = .agg a /\ KVs cs a.toList
def KVs : List Key -> List Value -> Prop
 | [],[] => True
 | x :: r,v :: s => KV x v /\ KVs r s
 | _,_ => False
end
def KS (d : TypeDesc) (v : Value) : Prop :=
 match d with
 | .int k => ∃ n,v = .int k n
 | .string => ∃ s,v = .string s
 | .bool => ∃ b,v = .bool b
 | _ => False
def KFs (P : Program) : List Field -> List Value -> Prop
 | [],[] => True
 | f :: fs, v :: vs => (∃ i d, P.info? f.type = some i /\ P.underlying f.type = some d /\ i.size = 1 /\ Li d = false /\ KS d v /\ f.name ≠ "_") /\ KFs P fs vs
 | _,_ => False
def KA (P : Program) (kt : Nat) (v : Value) : Prop :=
 ∃ n e a d inf,P.underlying kt = some (.array n e) /\ v = .agg a /\ P.info? e = some inf /\ inf.size = 1 /\ P.underlying e = some d /\ Li d = false /\ a.size = n /\ n ≠ 0 /\ ∀ x ∈ a.toList,KS d x
def KT (P : Program) (kt : Nat) (v : Value) : Prop :=
 (∃ d,P.underlying kt = some d /\ KS d v) ∨
 (∃ fs a,P.underlying kt = some (.struct fs) /\ v = .agg a /\ KFs P fs.toList a.toList /\ Iv fs.toList 0 = true /\ P.stoodInHeld kt = false) ∨ KA P kt v
def ER (C : Ctx) (N : Nat) (w : World) : List (Key × AV) -> List MapEntry -> Prop
 | [],[] => True
 | x :: r,e :: s => (KV x.1 e.key /\ R C N w x.2 e.val) /\ ER C N w r s
 | _,_ => False
structure Dk (P : Program) (C : Ctx) (N : Nat) (w : World) (kt : Nat) (es : List (Key × AV)) (E : Array MapEntry) (clock : Nat) : Prop where
 typed : ∀ e ∈ E.toList,KT P kt e.key
 perm : ∃ L,List.Perm L E.toList /\ ER C N w es L
 keys : (E.toList.map (·.key)).Nodup
 born : ∀ e ∈ E.toList,e.born < clock
 apart : (E.toList.map (·.born)).Nodup
def codeX : XE -> Code
 | .normal => .skip
 | .exit id => .exit id
 | .ret => .ret
def C5 (r : Loop) : LS -> Loop
 | .ready => { r with state := .ready,pending := none }
 | .busy => { r with state := .busy,pending := none }
 | .done x => { r with state := .done,pending := some (codeX x) }
def OR (P : Program) (C : Ctx) (w : World) (J : Sto) (a : Nat) : AO -> Prop
 | .cells vs => ∃ c o cs T,C.loc a = some (c,o) /\ w.heap[c]? = some (.cells cs T (0,0)) /\ RC C (nx J) w c vs o
 | .map kt es _ => ∃ c E clock,C.loc a = some (c,0) /\ w.heap[c]? = some (.map E clock) /\ Dk P C (nx J) w kt es E clock
 | .iter none _ left _ => ∃ c since seen last,C.loc a = some (c,0) /\ w.heap[c]? = some (.mapIter none since seen last) /\ left = []
 | .iter (some m) ver left cur => m < nx J /\ ∃ c cm since seen last,C.loc a = some (c,0) /\ w.heap[c]? = some (.mapIter (some cm) since seen last) /\
   ∀ kt es ver',J.get m = some (.map kt es ver') -> ver <= ver' /\ (ver = ver' -> ∃ E,C.loc m = some (cm,0) /\ w.heap[cm]? = some (.map E since) /\ last = since /\
    (∃ L,List.Perm L (E.toList.filter fun e => !seen.contains e.born) /\ ER C (nx J) w left L) /\
    ∀ k v,cur = some (k,v) -> ∃ e ∈ E.toList,seen.back? = some e.born /\ KV k e.key /\ R C (nx J) w v e.val)
 | .stamp m ver k => m < nx J /\ ∀ kt es ver',J.get m = some (.map kt es ver') -> ver <= ver' /\ (ver = ver' -> ∃ cm E clock,C.loc m = some (cm,0) /\ w.heap[cm]? = some (.map E clock) /\
    ∃ e ∈ E.toList,KV k e.key /\ C.stm a = e.born)
 | .loop st => ∃ c r,C.loc a = some (c,0) /\ C.lr a = some r /\ w.heap[c]? = some (.loop (C5 r st))
def X2 : AO -> Bool
 | .stamp .. => true
 | _ => false
structure Sim (P : Program) (C : Ctx) (w : World) (J : Sto) : Prop where
 obj : ∀ a O,J.get a = some O -> OR P C w J a O
 bound : ∀ a O,J.get a = some O -> a < nx J
 dom : ∀ a p,C.loc a = some p -> ∃ O,J.get a = some O /\ X2 O = false
 inj : ∀ a b c o o',C.loc a = some (c,o) -> C.loc b = some (c,o') -> a = b
 lt : ∀ a c o,C.loc a = some (c,o) -> c < w.heap.size
 rlt : ∀ b,C.res b -> b < w.heap.size
 rdis : ∀ a c o,C.loc a = some (c,o) -> ¬ C.res c
section
variable {C C' : Ctx} {N N' : Nat} {w w' : World}
theorem ER.ext (e : Ext C N w C' N' w') : ∀ {l : List (Key × AV)} {L : List MapEntry},ER C N w l L -> ER C' N' w' l L
 | [],[],_ => by unfold ER; trivial
 | x :: r,f :: s,h => by unfold ER at *; exact ⟨⟨h.1.1,R.ext e _ _ h.1.2⟩,ER.ext e h.2⟩
 | [],_ :: _,h => by unfold ER at h; exact h.elim
 | _ :: _,[],h => by unfold ER at h; exact h.elim
theorem Dk.ext {P : Program} (e : Ext C N w C' N' w') {kt : Nat} {es : List (Key × AV)} {E : Array MapEntry} {clock : Nat} (h : Dk P C N w kt es E clock) : Dk P C' N' w' kt es E clock :=
 ⟨h.typed,let ⟨L,h1,h2⟩ := h.perm; ⟨L,h1,h2.ext e⟩,h.keys,h.born,h.apart⟩
theorem RC.extHeap (e : Ext C N w C' N' w') (c : Nat) (hh : w'.heap[c]? = w.heap[c]?) : ∀ (cs : List AV) (o : Nat),RC C N w c cs o -> RC C' N' w' c cs o
 | [],_,_ => by unfold RC; trivial
 | x :: r,o,h => by
  unfold RC at *;obtain ⟨⟨v,h1,h2,h3⟩,h4⟩ := h;exact ⟨⟨v,(Tl hh o none).trans h1,h2,R.ext e x v h3⟩,RC.extHeap e c hh r (o + 1) h4⟩
abbrev gd_ := @RC.extHeap
end
theorem OR.ext {P : Program} {C C' : Ctx} {w w' : World} {J J' : Sto} {a : Nat} {O : AO} (h : OR P C w J a O) (e : Ext C (nx J) w C' (nx J') w') (ha : a < nx J)
  (hl : C'.loc a = C.loc a) (hh : ∀ c o,C.loc a = some (c,o) -> w'.heap[c]? = w.heap[c]?)
  (hm : ∀ m,m < nx J -> ∀ kt es' v',J'.get m = some (.map kt es' v') -> ∃ kt' es v,J.get m = some (.map kt' es v) /\ v <= v' /\ (v = v' -> C'.loc m = C.loc m /\ ∀ c o,C.loc m = some (c,o) -> w'.heap[c]? = w.heap[c]?)) :
  OR P C' w' J' a O := by
 cases O with
 | cells vs =>
  obtain ⟨c,o,cs,T,h1,h2,h3⟩ := h;exact ⟨c,o,cs,T,hl.trans h1,(hh c o h1).trans h2,gd_ e c (hh c o h1) vs o h3⟩
 | map kt es ver =>
  obtain ⟨c,E,clock,h1,h2,h3⟩ := h;exact ⟨c,E,clock,hl.trans h1,(hh c 0 h1).trans h2,h3.ext e⟩
 | iter m ver left cur =>
  cases m with
  | none =>
   obtain ⟨c,since,seen,last,h1,h2,h3⟩ := h;exact ⟨c,since,seen,last,hl.trans h1,(hh c 0 h1).trans h2,h3⟩
  | some m =>
   obtain ⟨h0,c,cm,since,seen,last,h1,h2,h3⟩ := h;refine ⟨aq_ h0 e.next,c,cm,since,seen,last,hl.trans h1,(hh c 0 h1).trans h2,fun kt es' v' hg => ?_⟩
   obtain ⟨kt',es,v,g1,g2,g3⟩ := hm m h0 kt es' v' hg;obtain ⟨k1,k2⟩ := h3 kt' es v g1;refine ⟨bc_ k1 g2,fun hv => ?_⟩
   have hv1 : ver = v := by omega
   obtain ⟨g4,g5⟩ := g3 Om;obtain ⟨E,q1,q2,q3,⟨L,q4,q5⟩,q6⟩ := k2 hv1;exact ⟨E,g4.trans q1,(g5 cm 0 q1).trans q2,q3,⟨L,q4,q5.ext e⟩,fun k x hk => let ⟨f,f1,f2,f3,f4⟩ := q6 k x hk; ⟨f,f1,f2,f3,R.ext e _ _ f4⟩⟩
 | stamp m ver k =>
  obtain ⟨h0,h3⟩ := h;refine ⟨aq_ h0 e.next,fun kt es' v' hg => ?_⟩
  obtain ⟨kt',es,v,g1,g2,g3⟩ := hm m h0 kt es' v' hg;obtain ⟨k1,k2⟩ := h3 kt' es v g1;refine ⟨bc_ k1 g2,fun hv => ?_⟩
  have hv1 : ver = v := by omega
  obtain ⟨g4,g5⟩ := g3 Om;obtain ⟨cm,E,clock,q1,q2,f,f1,f2,f3⟩ := k2 hv1
  exact ⟨cm,E,clock,g4.trans q1,(g5 cm 0 q1).trans q2,f,f1,f2,by rw [e.stm a ha]; exact f3⟩
 | loop st =>
  obtain ⟨c,r,h1,h2,h3⟩ := h;exact ⟨c,r,hl.trans h1,(e.lr a ha).trans h2,(hh c 0 h1).trans h3⟩
end
structure Wr (w w' : World) (c : Nat) (O : Obj) : Prop where
 size : w'.heap.size = w.heap.size
 here : w'.heap[c]? = some O
 other : ∀ b,b ≠ c -> w'.heap[b]? = w.heap[b]?
 os : w'.os = w.os /\ w'.output = w.output
structure Pu (w w' : World) (O : Obj) : Prop where
 size : w'.heap.size = w.heap.size + 1
 here : w'.heap[w.heap.size]? = some O
 other : ∀ b,b < w.heap.size -> w'.heap[b]? = w.heap[b]?
 os : w'.os = w.os /\ w'.output = w.output
theorem Pu.of_push {w w' : World} {O : Obj} (h : w'.heap = w.heap.push O) (os : w'.os = w.os /\ w'.output = w.output) : Pu w w' O :=
 ⟨by rw [h]; simp,by rw [h]; simp,fun b hb => by rw [h,ei_ hb]; exact (ce_ hb).symm,os⟩
abbrev fk_ := @Pu.of_push
def Ctx.add (C : Ctx) (a c o : Nat) : Ctx := { C with loc := fun b => if b = a then some (c,o) else C.loc b }
def Ctx.del (C : Ctx) (a : Nat) : Ctx := { C with loc := fun b => if b = a then none else C.loc b }
def Ctx.addStm (C : Ctx) (a : Nat) (n : Int) : Ctx := { C with stm := fun b => if b = a then n else C.stm b }
section
variable {P : Program} {C : Ctx} {w w' : World} {J : Sto}
theorem Sim.own_lt (h : Sim P C w J) {c : Nat} (hc : C.own c) : c < w.heap.size := hc.elim (h.rlt c) fun ⟨a,o,ho⟩ => h.lt a c o ho
theorem Sim.same (h : Sim P C w J) (hs : w.heap.size <= w'.heap.size) (hh : ∀ b,b < w.heap.size -> w'.heap[b]? = w.heap[b]?) (os : w'.os = w.os /\ w'.output = w.output) :
  Sim P C w' J /\ Ext C (nx J) w C (nx J) w' := by
 have e : Ext C (nx J) w C (nx J) w' := ⟨nl,hs,fun b hb ho => ⟨ho,hh b hb⟩,fun _ _ _ h => h,fun _ _ => rfl,fun _ _ => rfl,
  fun a _ c o hc => by unfold csize; rw [hh c (h.lt a c o hc)],⟨rfl,fun b hb => hh b (h.rlt b hb)⟩,os⟩
 refine ⟨⟨fun a O hg => ?_,h.bound,h.dom,h.inj,fun a c o hl => aq_ (h.lt a c o hl) hs,fun b hb => aq_ (h.rlt b hb) hs,h.rdis⟩,e⟩
 exact (h.obj a O hg).ext e (h.bound a O hg) rfl (fun c o hc => hh c (h.lt a c o hc)) fun m _ kt es' v' hg' => ⟨kt,es',v',hg',nl,fun _ => ⟨rfl,fun c o hc => hh c (h.lt m c o hc)⟩⟩
theorem Sim.push (h : Sim P C w J) {O : Obj} (p : Pu w w' O) : Sim P C w' J /\ Ext C (nx J) w C (nx J) w' :=
 h.same (by have := p.size; omega) p.other p.os
theorem Sim.new (h : Sim P C w J) {B : Obj} (p : Pu w w' B) (O : AO) (hO : X2 O = false)
  (hrel : Ext C (nx J) w (C.add (nx J) w.heap.size 0) (nx J + 1) w' -> OR P (C.add (nx J) w.heap.size 0) w' (J.new O) (nx J) O) :
  Sim P (C.add (nx J) w.heap.size 0) w' (J.new O) /\ Ext C (nx J) w (C.add (nx J) w.heap.size 0) (nx J + 1) w' := by
 have hne : ∀ {a},a < nx J -> ¬ a = nx J := fun h => by omega
 have bw : ∀ a,a < nx J -> (C.add (nx J) w.heap.size 0).loc a = C.loc a := fun a ha => by simp [Ctx.add,hne ha]
 have e : Ext C (nx J) w (C.add (nx J) w.heap.size 0) (nx J + 1) w' := ⟨by omega,by have := p.size; omega,
  fun b hb ho => ⟨fun hh => hh.elim (fun hr => ho (.inl hr)) fun ⟨a,o,hao⟩ => by
   by_cases ha : a = nx J
   ·subst ha; simp [Ctx.add] at hao; omega
   ·simp [Ctx.add,ha] at hao; exact ho (.inr ⟨a,o,hao⟩),p.other b hb⟩,
  fun a ha q hq => by rwa [bw a ha] at hq,fun _ _ => rfl,fun _ _ => rfl,
  fun a ha c o hc => by rw [bw a ha] at hc; unfold csize; rw [p.other c (h.lt a c o hc)],⟨rfl,fun b hb => p.other b (h.rlt b hb)⟩,p.os⟩
 refine ⟨⟨fun a X hg => ?_,fun a X hg => ?_,fun a q hq => ?_,fun a b c o o' ha hb => ?_,fun a c o hl => ?_,fun b hb => by have := h.rlt b hb; have := p.size; omega,fun a c o hl hr => ?_⟩,e⟩
 ·rw [ab_] at hg
  by_cases ha : a = nx J
  ·subst ha; simp at hg; subst hg; exact hrel e
  ·rw [if_neg ha] at hg;have hlt := h.bound a X hg
   refine (h.obj a X hg).ext (by rw [Ac]; exact e) hlt (bw a hlt) (fun c o hc => p.other c (h.lt a c o hc)) fun m hm kt es' v' hg' => ?_
   rw [ab_,if_neg (hne hm)] at hg';exact ⟨kt,es',v',hg',nl,fun _ => ⟨bw m hm,fun c o hc => p.other c (h.lt m c o hc)⟩⟩
 ·rw [Ac];rw [ab_] at hg
  by_cases ha : a = nx J
  ·omega
  ·rw [if_neg ha] at hg; have := h.bound a X hg; omega
 ·rw [ab_]
  by_cases ha : a = nx J
  ·rw [if_pos ha]; exact ⟨O,rfl,hO⟩
  ·simp [Ctx.add,ha] at hq; rw [if_neg ha]; exact h.dom a q hq
 ·by_cases ha' : a = nx J
  ·by_cases hb' : b = nx J
   ·omega
   ·simp [Ctx.add,ha'] at ha; simp [Ctx.add,hb'] at hb; have := h.lt b c o' hb; omega
  ·by_cases hb' : b = nx J
   ·simp [Ctx.add,ha'] at ha; simp [Ctx.add,hb'] at hb; have := h.lt a c o ha; omega
   ·simp [Ctx.add,ha'] at ha; simp [Ctx.add,hb'] at hb; exact h.inj a b c o o' ha hb
 ·by_cases ha : a = nx J
  ·simp [Ctx.add,ha] at hl; have := p.size; omega
  ·simp [Ctx.add,ha] at hl; have := h.lt a c o hl; have := p.size; omega
 ·by_cases ha : a = nx J
  ·simp [Ctx.add,ha] at hl; have := h.rlt c hr; omega
  ·simp [Ctx.add,ha] at hl; exact h.rdis a c o hl hr
theorem Sim.upd (h : Sim P C w J) {a c o : Nat} {B : Obj} (hl : C.loc a = some (c,o)) (p : Wr w w' c B) (hsz : csize w' c = csize w c) {O₀ : AO} (h₀ : J.get a = some O₀)
  (O : AO) (hO : X2 O = false) (nq : ∀ kt es v,O = .map kt es v -> ∃ kt₀ es₀ v₀,O₀ = .map kt₀ es₀ v₀ /\ v₀ < v)
  (hrel : Ext C (nx J) w C (nx J) w' -> OR P C w' (J.set a O) a O) :
  Sim P C w' (J.set a O) /\ Ext C (nx J) w C (nx J) w' := by
 have cv : ∀ b c' o',b ≠ a -> C.loc b = some (c',o') -> w'.heap[c']? = w.heap[c']? := fun b c' o' hb hc => p.other c' (fun hcc => hb (h.inj b a c' o' o hc (hcc ▸ hl)))
 have e : Ext C (nx J) w C (nx J) w' := ⟨nl,by rw [p.size]; exact nl,
  fun b _ ho => ⟨ho,p.other b (fun hb => ho (.inr (hb ▸ ⟨a,o,hl⟩)))⟩,fun _ _ _ h => h,fun _ _ => rfl,fun _ _ => rfl,
  fun b _ c' o' hc => by
   by_cases hb : b = a
   ·subst hb; rw [hl] at hc; cases hc; exact hsz
   ·unfold csize; rw [cv b c' o' hb hc],⟨rfl,fun b hb => p.other b (fun hbc => h.rdis a c o hl (hbc ▸ hb))⟩,p.os⟩
 refine ⟨⟨fun b X hg => ?_,fun b X hg => ?_,fun b q hq => ?_,h.inj,fun b c' o' hc => by rw [p.size]; exact h.lt b c' o' hc,fun b hb => by rw [p.size]; exact h.rlt b hb,h.rdis⟩,e⟩
 ·rw [a_] at hg
  by_cases hb : b = a
  ·subst hb; simp at hg; subst hg; exact hrel e
  ·rw [if_neg hb] at hg
   refine (h.obj b X hg).ext (by rw [Ae]; exact e) (h.bound b X hg) rfl (fun c' o' hc => cv b c' o' hb hc) fun m _ kt es' v' hg' => ?_
   rw [a_] at hg'
   by_cases hm : m = a
   ·subst hm; simp at hg';obtain ⟨kt₀,es₀,v₀,h1,h2⟩ := nq kt es' v' hg'
    exact ⟨kt₀,es₀,v₀,h1 ▸ h₀,by omega,fun hv => by omega⟩
   ·rw [if_neg hm] at hg';exact ⟨kt,es',v',hg',nl,fun _ => ⟨rfl,fun c' o' hc => cv m c' o' hm hc⟩⟩
 ·rw [Ae];rw [a_] at hg
  by_cases hb : b = a
  ·subst hb; exact h.bound b O₀ h₀
  ·rw [if_neg hb] at hg; exact h.bound b X hg
 ·rw [a_]
  by_cases hb : b = a
  ·rw [if_pos hb]; exact ⟨O,rfl,hO⟩
  ·rw [if_neg hb]; exact h.dom b q hq
theorem Sim.kill (h : Sim P C w J) (a : Nat) : Sim P (C.del a) w (J.kill a) /\ Ext C (nx J) w (C.del a) (nx J) w := by
 have bw : ∀ b p,(C.del a).loc b = some p -> b ≠ a /\ C.loc b = some p := fun b p hp => by
  by_cases hb : b = a
  ·simp [Ctx.del,hb] at hp
  ·simp [Ctx.del,hb] at hp; exact ⟨hb,hp⟩
 have e : Ext C (nx J) w (C.del a) (nx J) w := ⟨nl,nl,fun b _ ho => ⟨fun hh => hh.elim (fun hr => ho (.inl hr)) fun ⟨x,o,hx⟩ => ho (.inr ⟨x,o,(bw x _ hx).2⟩),rfl⟩,
  fun b _ p hp => (bw b p hp).2,fun _ _ => rfl,fun _ _ => rfl,fun _ _ _ _ _ => rfl,⟨rfl,fun _ _ => rfl⟩,rfl,rfl⟩
 refine ⟨⟨fun b X hg => ?_,fun b X hg => ?_,fun b q hq => ?_,fun x y c o o' hx hy => h.inj x y c o o' (bw x _ hx).2 (bw y _ hy).2,fun x c o hx => h.lt x c o (bw x _ hx).2,h.rlt,fun x c o hx => h.rdis x c o (bw x _ hx).2⟩,e⟩
 ·rw [db_] at hg
  by_cases hb : b = a
  ·rw [if_pos hb] at hg; cases hg
  ·rw [if_neg hb] at hg
   refine (h.obj b X hg).ext (by rw [By]; exact e) (h.bound b X hg) (by simp [Ctx.del,hb]) (fun _ _ _ => rfl) fun m _ kt es' v' hg' => ?_
   rw [db_] at hg'
   by_cases hm : m = a
   ·rw [if_pos hm] at hg'; cases hg'
   ·rw [if_neg hm] at hg'; exact ⟨kt,es',v',hg',nl,fun _ => ⟨by simp [Ctx.del,hm],fun _ _ _ => rfl⟩⟩
 ·rw [By];rw [db_] at hg
  by_cases hb : b = a
  ·rw [if_pos hb] at hg; cases hg
  ·rw [if_neg hb] at hg; exact h.bound b X hg
 ·obtain ⟨hb,hq'⟩ := bw b q hq;rw [db_,if_neg hb]; exact h.dom b q hq'
theorem Sim.replace (h : Sim P C w J) {a c o o' : Nat} {B : Obj} (hl : C.loc a = some (c,o)) (p : Wr w w' c B) {O₀ : AO} (h₀ : J.get a = some O₀)
  (O : AO) (hO : X2 O = false)
  (hrel : Ext C (nx J) w ((C.del a).add (nx J) c o') (nx J + 1) w' -> OR P ((C.del a).add (nx J) c o') w' ((J.kill a).new O) (nx J) O) :
  Sim P ((C.del a).add (nx J) c o') w' ((J.kill a).new O) /\ Ext C (nx J) w ((C.del a).add (nx J) c o') (nx J + 1) w' := by
 have han : a < nx J := h.bound a O₀ h₀;have cv : ∀ b c' o',b ≠ a -> C.loc b = some (c',o') -> w'.heap[c']? = w.heap[c']? := fun b c' o' hb hc => p.other c' (fun hcc => hb (h.inj b a c' o' o hc (hcc ▸ hl)))
 have bw : ∀ b q,((C.del a).add (nx J) c o').loc b = some q -> (b = nx J /\ q = (c,o')) ∨ (b ≠ nx J /\ b ≠ a /\ C.loc b = some q) := fun b q hq => by
  by_cases hb : b = nx J
  ·simp [Ctx.add,hb] at hq; exact .inl ⟨hb,hq.symm⟩
  ·by_cases hb' : b = a
   ·simp [Ctx.add,Ctx.del,hb,hb'] at hq; omega
   ·simp [Ctx.add,Ctx.del,hb,hb'] at hq; exact .inr ⟨hb,hb',hq⟩
 have fx : ∀ b,b < nx J -> b ≠ a -> ((C.del a).add (nx J) c o').loc b = C.loc b := fun b hb hb' => by simp [Ctx.add,Ctx.del,hb',show ¬ b = nx J by omega]
 have cw : ∀ b X,((J.kill a).new O).get b = some X -> (b = nx J /\ X = O) ∨ (b ≠ nx J /\ b ≠ a /\ J.get b = some X) := fun b X hg => by
  rw [ab_,By] at hg
  by_cases hb : b = nx J
  ·rw [if_pos hb] at hg; cases hg; exact .inl ⟨hb,rfl⟩
  ·rw [if_neg hb,db_] at hg
   by_cases hb' : b = a
   ·rw [if_pos hb'] at hg; cases hg
   ·rw [if_neg hb'] at hg; exact .inr ⟨hb,hb',hg⟩
 have e : Ext C (nx J) w ((C.del a).add (nx J) c o') (nx J + 1) w' := ⟨by omega,by rw [p.size]; exact nl,
  fun b _ ho => ⟨fun hh => hh.elim (fun hr => ho (.inl hr)) fun ⟨x,y,hxy⟩ => by
   rcases bw x _ hxy with ⟨_,hq⟩ | ⟨_,_,hq⟩
   ·cases hq; exact ho (.inr ⟨a,o,hl⟩)
   ·exact ho (.inr ⟨x,y,hq⟩),p.other b (fun hb => ho (.inr (hb ▸ ⟨a,o,hl⟩)))⟩,
  fun b hb q hq => by
   rcases bw b q hq with ⟨h1,_⟩ | ⟨_,_,h2⟩
   ·omega
   ·exact h2,fun _ _ => rfl,fun _ _ => rfl,
  fun b hb c' y hc => by
   rcases bw b _ hc with ⟨h1,_⟩ | ⟨_,h2,h3⟩
   ·omega
   ·unfold csize; rw [cv b c' y h2 h3],⟨rfl,fun b hb => p.other b (fun hbc => h.rdis a c o hl (hbc ▸ hb))⟩,p.os⟩
 have hnx : nx ((J.kill a).new O) = nx J + 1 := by rw [Ac,By]
 refine ⟨⟨fun b X hg => ?_,fun b X hg => ?_,fun b q hq => ?_,fun x y c' y1 y2 hx hy => ?_,fun x c' y hx => ?_,fun b hb => by rw [p.size]; exact h.rlt b hb,fun x c' y hx => ?_⟩,e⟩
 ·rcases cw b X hg with ⟨h1,h2⟩ | ⟨h1,h2,h3⟩
  ·subst h1; subst h2; exact hrel e
  ·have hlt := h.bound b X h3
   refine (h.obj b X h3).ext (by rw [hnx]; exact e) hlt (fx b hlt h2) (fun c' y hc => cv b c' y h2 hc) fun m hm kt es' v' hg' => ?_
   rcases cw m _ hg' with ⟨k1,_⟩ | ⟨_,k2,k3⟩
   ·omega
   ·exact ⟨kt,es',v',k3,nl,fun _ => ⟨fx m hm k2,fun c' y hc => cv m c' y k2 hc⟩⟩
 ·rw [hnx]
  rcases cw b X hg with ⟨h1,_⟩ | ⟨_,_,h3⟩
  ·omega
  ·have := h.bound b X h3; omega
 ·rcases bw b q hq with ⟨h1,_⟩ | ⟨h1,h2,h3⟩
  ·subst h1; exact ⟨O,by rw [ab_,By,if_pos rfl],hO⟩
  ·obtain ⟨X,k1,k2⟩ := h.dom b q h3
   exact ⟨X,by rw [ab_,By,if_neg h1,db_,if_neg h2]; exact k1,k2⟩
 ·rcases bw x _ hx with ⟨h1,h2⟩ | ⟨h1,h2,h3⟩ <;> rcases bw y _ hy with ⟨k1,k2⟩ | ⟨k1,k2,k3⟩
  ·omega
  ·cases h2; exact absurd (h.inj y a _ _ _ k3 hl) k2
  ·cases k2; exact absurd (h.inj x a _ _ _ h3 hl) h2
  ·exact h.inj x y c' y1 y2 h3 k3
 ·rw [p.size]
  rcases bw x _ hx with ⟨_,h2⟩ | ⟨_,_,h3⟩
  ·cases h2; exact h.lt a c o hl
  ·exact h.lt x c' y h3
 ·rcases bw x _ hx with ⟨_,h2⟩ | ⟨_,_,h3⟩
  ·cases h2; exact h.rdis a c o hl
  ·exact h.rdis x c' y h3
theorem Sim.newStamp (h : Sim P C w J) (n : Int) (m ver : Nat) (k : Key) (hm : m < nx J) (hrel : ∀ kt es ver',J.get m = some (.map kt es ver') -> ver <= ver' /\ (ver = ver' -> ∃ cm E clock,C.loc m = some (cm,0) /\ w.heap[cm]? = some (.map E clock) /\
        ∃ e ∈ E.toList,KV k e.key /\ n = e.born)) :
    Sim P (C.addStm (nx J) n) w (J.new (.stamp m ver k)) /\ Ext C (nx J) w (C.addStm (nx J) n) (nx J + 1) w := by
  have hne : ∀ {a},a < nx J -> ¬ a = nx J := fun h => by omega
  have e : Ext C (nx J) w (C.addStm (nx J) n) (nx J + 1) w := ⟨by omega,nl,fun b _ ho => ⟨ho,rfl⟩,fun _ _ _ h => h,
    fun a ha => by simp [Ctx.addStm,hne ha],fun _ _ => rfl,fun _ _ _ _ _ => rfl,⟨rfl,fun _ _ => rfl⟩,rfl,rfl⟩
  refine ⟨⟨fun a X hg => ?_,fun a X hg => ?_,fun a q hq => ?_,h.inj,h.lt,h.rlt,h.rdis⟩,e⟩
  · rw [ab_] at hg
    by_cases ha : a = nx J
    · subst ha; simp at hg; subst hg
      refine ⟨by rw [Ac]; omega,fun kt es ver' hg' => ?_⟩
      rw [ab_,if_neg (hne hm)] at hg';obtain ⟨h1,h2⟩ := hrel kt es ver' hg';refine ⟨h1,fun hv => ?_⟩
      obtain ⟨cm,E,clock,q1,q2,f,f1,f2,f3⟩ := h2 hv
      exact ⟨cm,E,clock,q1,q2,f,f1,f2,by simp [Ctx.addStm,f3]⟩
    · rw [if_neg ha] at hg
      refine (h.obj a X hg).ext (by rw [Ac]; exact e) (h.bound a X hg) rfl (fun _ _ _ => rfl) fun x hx kt es' v' hg' => ?_
      rw [ab_,if_neg (hne hx)] at hg';exact ⟨kt,es',v',hg',nl,fun _ => ⟨rfl,fun _ _ _ => rfl⟩⟩
  · rw [Ac]
    rw [ab_] at hg
    by_cases ha : a = nx J
    · omega
    · rw [if_neg ha] at hg; have := h.bound a X hg; omega
  · obtain ⟨X,h1,h2⟩ := h.dom a q hq
    have := h.bound a X h1
    exact ⟨X,by rw [ab_,if_neg Om]; exact h1,h2⟩
end
theorem Fi (c o n : Nat) : (⟨c,o,none⟩ : Addr).add n = ⟨c,o + n,none⟩ := by
 unfold Addr.add; split <;> simp_all
section
variable {P : Program} {C : Ctx} {N : Nat} {w : World}
theorem K4 : ∀ (cs : List AV) (c o i : Nat) (acc : Array Value),RC C N w c cs (o + i) ->
  ∃ l,(loadCellsFrom ⟨c,o,none⟩ i cs.length acc).run P w = .ok (acc ++ l.toArray) w /\ RL C N w cs l /\ ∀ x ∈ l,x.oneCell = true
 | [],c,o,i,acc,_ => ⟨[],by simp [loadCellsFrom],by unfold RL; trivial,by simp⟩
 | x :: r,c,o,i,acc,h => by
  unfold RC at h;obtain ⟨⟨v,h1,h2,h3⟩,h4⟩ := h;obtain ⟨l,k1,k2,k3⟩ := K4 r c o (i + 1) (acc.push v) h4
  refine ⟨v :: l,?_,by unfold RL; exact ⟨h3,k2⟩,by simpa [h2] using k3⟩
  simp only [ap_,loadCellsFrom,Sem.run_bind,run_load,Fi,h1,Result.andThen_ok,k1]
  simp
theorem Abf {cs : List AV} {c o : Nat} (h : RC C N w c cs o) :
  ∃ a,(loadCells ⟨c,o,none⟩ cs.length).run P w = .ok a w /\ RL C N w cs a.toList /\ ∀ x ∈ a.toList,x.oneCell = true := by
 obtain ⟨l,h1,h2,h3⟩ := K4 (P := P) cs c o 0 #[] h
 exact ⟨l.toArray,by simpa [loadCells] using h1,by simpa using h2,by simpa using h3⟩
def Ve : Array Value -> Nat -> List Value -> Array Value
 | cs,_,[] => cs
 | cs,k,v :: r => Ve (cs.setIfInBounds k v) (k + 1) r
theorem L3 : ∀ (l : List Value) (cs : Array Value) (k : Nat),(Ve cs k l).size = cs.size
 | [],_,_ => rfl
 | v :: r,cs,k => by simp [Ve,L3 r]
theorem O0 : ∀ (l : List Value) (cs : Array Value) (k : Nat),k + l.length <= cs.size -> ∀ j,(Ve cs k l)[j]? = if k <= j /\ j < k + l.length then l[j - k]? else cs[j]?
 | [],cs,k,_,j => by simp [Ve]; omega
 | v :: r,cs,k,h,j => by
  simp only [ap_] at h
  rw [Ve,O0 r _ _ (by simp; omega)]
  by_cases h1 : k + 1 <= j /\ j < k + 1 + r.length
  ·rw [if_pos h1,if_pos (by simp; omega),show j - k = (j - (k + 1)) + 1 by omega]; rfl
  ·rw [if_neg h1]
   by_cases h2 : j = k
   ·subst h2; rw [if_pos (by simp),Array.getElem?_setIfInBounds_self_of_lt Om]; simp
   ·rw [if_neg (by simp; omega),cm_ Om]
theorem Air (v : Value) : v.oneCell' = v.oneCell := by cases v <;> rfl
theorem Jy : ∀ (l : List Value) (w : World) (c o i : Nat) (cs : Array Value) (T : TypeId),w.heap[c]? = some (.cells cs T (0,0)) ->
  (∀ x ∈ l,x.oneCell = true) -> o + i + l.length <= cs.size -> ∃ w',(storeCells ⟨c,o,none⟩ l i).run P w = .ok () w' /\ Wr w w' c (.cells (Ve cs (o + i) l) T (0,0))
 | [],w,c,o,i,cs,T,h,_,_ => ⟨w,by simp [storeCells],⟨rfl,h,fun _ _ => rfl,rfl,rfl⟩⟩
 | v :: r,w,c,o,i,cs,T,h,h1,h2 => by
  simp only [ap_] at h2
  have cj : w.cell? ⟨c,o + i,none⟩ = some cs[o + i] := by
   unfold World.cell?; simp only [h]; simp
  have hfr : w.frozen? ⟨c,o + i,none⟩ = false := by unfold World.frozen?; simp [h]
  have hw1 : (w.setCell ⟨c,o + i,none⟩ v).heap[c]? = some (.cells (cs.setIfInBounds (o + i) v) T (0,0)) := by
   simp only [World.setCell,dw_,if_true]; simp [h]
  obtain ⟨w',k1,k2⟩ := Jy r (w.setCell ⟨c,o + i,none⟩ v) c o (i + 1) (cs.setIfInBounds (o + i) v) T hw1 (fun x hx => h1 x (by simp [hx])) (by simp; omega)
  refine ⟨w',?_,?_⟩
  ·have hv : v.oneCell' = true := by rw [Air]; exact h1 v (by simp)
   simp only [storeCells,Sem.run_bind,Fi,run_store P w _ v _ hv,cj,hfr,bf_,if_false,Result.andThen_ok];exact k1
  ·refine ⟨by rw [k2.size]; simp [World.setCell],?_,fun b hb => ?_,k2.os⟩
   ·rw [k2.here,Ve,show o + i + 1 = o + (i + 1) by omega]
   ·rw [k2.other b hb];simp only [World.setCell,dw_];rw [if_neg (fun h => hb h.symm)]
end
def Runs {α : Type} (P : Program) (C : Ctx) (w : World) (J : Sto) (s : Sem α) (ok : α -> Value -> Prop) (v : AV) (J' : Sto) : Prop :=
 ∃ y x w' C',s.run P w = .ok y w' /\ ok y x /\ Sim P C' w' J' /\ Ext C (nx J) w C' (nx J') w' /\ R C' (nx J') w' v x
abbrev Hx (P : Program) (C : Ctx) (w : World) (J : Sto) (s : Sem Value) (v : AV) (J' : Sto) : Prop := Runs P C w J s (fun y x => y = x) v J'
section
variable {P : Program} {C : Ctx} {w : World} {J J' : Sto}
theorem Al {t : TypeId} {ti : TI} (h : Aw P t = some ti) : ∃ i d,P.info? t = some i /\ P.underlying t = some d /\ ti.desc = d /\ ti.size = i.size /\ ti.bytes = i.bytes /\ ti.zero = Aj5 (Li d) i.zero /\ ti.isAgg = Li d := by
 unfold Aw at h
 split at h
 ·rename_i i d hi hd; simp at h; subst h; exact ⟨i,d,hi,hd,rfl,rfl,rfl,rfl,rfl⟩
 ·cases h
theorem Aa {t : TypeId} {d : TypeDesc} (h : P.underlying t = some d) (w : World) : (underlying t).run P w = .ok d w := by
 unfold underlying; simp [h]
theorem Ca {t : TypeId} {i : TypeInfo} (h : P.info? t = some i) (w : World) : (typeInfo t).run P w = .ok i w := by
 unfold typeInfo; simp [h]
theorem Ax {t : TypeId} {i : TypeInfo} (h : P.info? t = some i) (w : World) : (sizeOf t).run P w = .ok i.size w := by
 unfold sizeOf; simp [Ca h]
theorem Et {t : TypeId} {d : TypeDesc} (h : P.underlying t = some d) (w : World) : (isAgg t).run P w = .ok (Li d) w := by
 unfold isAgg; simp only [Sem.run_bind,Aa h,Result.andThen_ok]; cases d <;> rfl
theorem Rc {v : Value} (h : Ad6 v = true) : v.oneCell = true := by
 cases v <;> first | rfl | (simp [Ad6,Wf] at h)
theorem Abg {v : Value} (h : Wf v = true) : v.oneCell = true := by
 cases v <;> first | rfl | (simp [Wf] at h)
theorem R.oneCell {N : Nat} {x : AV} {v : Value} (h : R C N w x v) (h1 : x ≠ .any) (h2 : ∀ l,x ≠ .agg l) (h3 : ∀ l,x ≠ .tup l) : v.oneCell = true := by
 cases x <;> unfold R at h
 case any => exact absurd rfl h1
 case bool => subst h; rfl
 case int => subst h; rfl
 case str => obtain ⟨s,rfl,_⟩ := h; rfl
 case nil => obtain ⟨rfl,h⟩ := h; exact Abg h
 case pr => obtain ⟨ad,rfl,_⟩ := h; rfl
 case pv => obtain ⟨c,o,rfl,_⟩ := h; rfl
 case sr => obtain ⟨ad,k,rfl,_⟩ := h; rfl
 case sv => obtain ⟨ad,k,rfl,_⟩ := h; rfl
 case mp => obtain ⟨c,rfl,_⟩ := h; rfl
 case it => obtain ⟨c,rfl,_⟩ := h; rfl
 case stp => obtain ⟨rfl,_⟩ := h; rfl
 case yl => obtain ⟨rfl,_⟩ := h; rfl
 case flt => subst h; rfl
 case fn => obtain ⟨a,b,rfl,_⟩ := h; rfl
 case ifc => obtain ⟨y,rfl,_⟩ := h; rfl
 case agg l => exact absurd rfl (h2 l)
 case tup l => exact absurd rfl (h3 l)
theorem L4 {v : Value} (h : v.oneCell = true) : v.cells = #[v] := by
 cases v <;> first | rfl | (simp [Value.oneCell] at h)
theorem Hy {N : Nat} {x : AV} {n : Nat} {l : List AV} {v : Value} (h : x.cellsN n = some l) (hr : R C N w x v) :
  RL C N w l v.cells.toList /\ v.cells.size = n /\ l.length = n /\ ∀ y ∈ v.cells.toList,y.oneCell = true := by
 have one : x ≠ .any -> (∀ l,x ≠ .agg l) -> (∀ l,x ≠ .tup l) -> cond (Nat.beq n 1) (some [x]) none = some l ->
   RL C N w l v.cells.toList /\ v.cells.size = n /\ l.length = n /\ ∀ y ∈ v.cells.toList,y.oneCell = true := by
  intro h1 h2 h3 h4;have hv := hr.oneCell h1 h2 h3
  have hn : n = 1 := by
   by_cases hn : n = 1
   ·exact hn
   ·have : Nat.beq n 1 = false := by rw [bw_]; intro hb; exact hn (aa_ hb)
    simp [this] at h4
  subst hn
  simp at h4
  subst h4;rw [L4 hv]
  refine ⟨by simp only [RL]; exact ⟨hr,trivial⟩,rfl,rfl,by simpa using hv⟩
 cases x <;> simp only [AV.cellsN] at h
 case any => cases h
 case tup => cases h
 case agg cs =>
  unfold R at hr;obtain ⟨a,rfl,h1,h2⟩ := hr
  have hn : cs.length = n := by
   by_cases hn : cs.length = n
   ·exact hn
   ·have : Nat.beq cs.length n = false := by rw [bw_]; intro hb; exact hn (aa_ hb)
    simp [this] at h
  simp [hn] at h
  subst h;have := h1.length
  exact ⟨h1,by simp [Value.cells]; rw [← hn,this]; simp,hn,h2⟩
 all_goals exact one (by intro h; cases h) (by intro l h; cases h) (by intro l h; cases h) h
theorem Ab3 {β : Type} : ∀ (l : List Nat) (k : List Nat -> β),Ad5 l k = k l
 | [],k => rfl
 | x :: r,k => by simp only [Ad5,Ag,Ab3 r]
theorem Jz {N : Nat} (v : Value) : R C N w (Xh v) v := by
 unfold Xh
 split
 ·unfold R; rfl
 ·unfold R; rfl
 ·rw [Ag]; unfold R; rfl
 ·unfold R; rfl
 ·rw [Ab3]; unfold R; exact ⟨_,rfl,rfl⟩
 ·rw [Ag]; unfold R; rfl
 ·cases h : Wf v
  ·simp only [cond_false]; unfold R; trivial
  ·simp only [cond_true]; unfold R; exact ⟨rfl,h⟩
theorem Mq {N : Nat} : ∀ (l : List Value),RL C N w (Aig l) l
 | [] => by unfold Aig RL; trivial
 | v :: r => by unfold Aig RL; exact ⟨Jz v,Mq r⟩
theorem O2 : ∀ {l : List Value},P8 l = true -> ∀ x ∈ l,x.oneCell = true
 | [],_,x,hx => by simp at hx
 | v :: r,h,x,hx => by
  simp only [P8,ae_] at h
  rcases ai_.1 hx with rfl | hx
  ·exact Rc h.1
  ·exact O2 h.2 x hx
theorem Eu {b : Bool} {z : Option Value} {l : List AV} (h : Aj5 b z = some l) {N : Nat} : ∃ v,z = some v /\ RL C N w l v.cells.toList /\ (∀ x ∈ v.cells.toList,x.oneCell = true) /\
  (b = true -> ∃ a,v = .agg a) /\ (b = false -> ∃ u,l = [u] /\ R C N w u v) := by
 unfold Aj5 at h
 split at h
 ·rename_i v
  split at h
  ·rename_i cs
   split at h
   ·rename_i hp
    simp only [ae_] at hp;cases h
    exact ⟨.agg cs,rfl,Mq _,O2 hp.2,fun _ => ⟨cs,rfl⟩,fun hb => by rw [hb] at hp; cases hp.1⟩
   ·cases h
  ·rename_i hna
   split at h
   ·rename_i hp
    simp only [ae_,bl_] at hp;cases h;have h1 := Rc hp.2;refine ⟨v,rfl,?_⟩;rw [L4 h1]
    exact ⟨(by unfold RL; exact ⟨Jz v,by unfold RL; trivial⟩),(by simpa using h1),(fun hb => by rw [hb] at hp; cases hp.1),fun _ => ⟨_,rfl,Jz v⟩⟩
   ·cases h
 ·cases h
end
section
variable {C : Ctx} {N : Nat} {w : World}
theorem Al2 (v : Value) : R C N w (ofV v) v := by
 unfold ofV
 split
 ·rename_i cs
  cases h : P8 cs.toList
  ·simp only [cond_false]; unfold R; trivial
  ·simp only [cond_true]; unfold R; exact ⟨cs,rfl,Mq _,O2 h⟩
 ·unfold R; exact ⟨_,rfl,Mq _⟩
 ·unfold R; exact ⟨_,rfl,Jz _⟩
 ·rename_i f a b
  cases h : (a.isEmpty && b.isEmpty)
  ·simp only [cond_false]; unfold R; trivial
  ·simp only [cond_true]
   simp at h
   unfold R
   exact ⟨a,b,rfl,by rw [h.1]; unfold RL; trivial,by rw [h.2]; unfold RL; trivial⟩
 ·exact Jz v
end
def TR (C : Ctx) (N : Nat) (w : World) (tm : Tr AV) (tmps : Array Value) : Prop := ∀ i v,tm.get i = some v -> R C N w v (tmps.getD i undef)
def Fj (L : RF) (C : Ctx) (N : Nat) (w : World) : Prop :=
 L.aY < N /\ (∀ c o,C.loc L.aY = some (c,o) -> c = (C.stm L.aY).toNat) /\ ∃ r,C.lr L.aY = some r /\ TR C N w L.tm r.tmps /\ r.tmps.size = L.nt /\ r.params = L.ps /\ r.assign = L.assign /\ r.body = L.body
def Fo (C : Ctx) (N : Nat) (w : World) (E : Env) : Prop := (∀ g cs,E.gl g = some cs -> R C N w (.pv cs) (.pointer (some ⟨g,0,none⟩))) /\
 (∀ c P,E.hold c = some P -> ¬ C.own c /\ ∃ cs T fz,w.heap[c]? = some (.cells cs T fz) /\ P cs) /\ ∀ L ∈ E.loops,Fj L C N w
section
variable {E : Env} {C C' : Ctx} {N N' : Nat} {w w' : World} {tm : Tr AV} {a : Act}
theorem TR.ext {tmps : Array Value} (h : TR C N w tm tmps) (e : Ext C N w C' N' w') : TR C' N' w' tm tmps := fun i v hv => R.ext e _ _ (h i v hv)
theorem Fj.ext {L : RF} (h : Fj L C N w) (e : Ext C N w C' N' w') : Fj L C' N' w' := by
 obtain ⟨h1,h2,r,h3,h4,h5,h6⟩ := h
 exact ⟨aq_ h1 e.next,fun c o hc => by rw [e.stm _ h1]; exact h2 c o (e.loc _ h1 _ hc),r,(e.lr _ h1).trans h3,h4.ext e,h5,h6⟩
theorem Fo.ext (h : Fo C N w E) (e : Ext C N w C' N' w') : Fo C' N' w' E := by
 refine ⟨fun g cs hg => R.ext e _ _ (h.1 g cs hg),fun c P hc => ?_,fun L hL => (h.2.2 L hL).ext e⟩
 obtain ⟨h1,cs,T,fz,h2,h3⟩ := h.2.1 c P hc;obtain ⟨k1,k2⟩ := e.keep c (at_.1 h2).1 h1;exact ⟨k1,cs,T,fz,k2.trans h2,h3⟩
theorem Bc (hg : Fo C N w E) (ht : TR C N w tm a.tmps) (x : Operand) : R C N w (opd E tm x) (a.eval x) := by
 cases x with
 | tmp t =>
  simp only [opd,Act.eval]
  split
  ·rename_i v hv; exact ht t v hv
  ·unfold R; trivial
 | const v => exact Al2 v
 | global g =>
  simp only [opd,Act.eval]
  split
  ·rename_i cs hc; exact hg.1 g cs hc
  ·unfold R; trivial
 | func f =>
  simp only [opd,Act.eval];unfold R
  exact ⟨#[],#[],rfl,by unfold RL; trivial,by unfold RL; trivial⟩
theorem Dh (hg : Fo C N w E) (ht : TR C N w tm a.tmps) : ∀ (l : List Operand),RL C N w (opds E tm l) (l.map a.eval)
 | [] => by simp only [opds,f_]; unfold RL; trivial
 | x :: r => by simp only [opds,cd_]; unfold RL; exact ⟨Bc hg ht x,Dh hg ht r⟩
end
theorem Ie (a b : Int) : Ot a b = (a == b) := by
 cases a <;> cases b <;> simp only [Ot]
 ·rename_i m n
  by_cases h : m = n
  ·subst h; simp
  ·have : Nat.beq m n = false := by rw [bw_]; intro hb; exact h (aa_ hb)
   rw [this]; symm; simp; omega
 ·rfl
 ·rfl
 ·rename_i m n
  by_cases h : m = n
  ·subst h; simp
  ·have : Nat.beq m n = false := by rw [bw_]; intro hb; exact h (aa_ hb)
   rw [this]; symm; simp; omega
theorem D1 (a b : Int) : S1 a b = decide (a <= b) := by
 cases a <;> cases b <;> simp only [S1]
 ·rename_i m n
  rw [fb_,gt_,decide_eq_true_iff]; simp
 ·rename_i m n; symm; simp; omega
 ·rename_i m n; symm; simp; omega
 ·rename_i m n
  rw [fb_,gt_,decide_eq_true_iff]; omega
theorem Ka (a b : IntKind) : Es a b = true ↔ a = b := by cases a <;> cases b <;> simp [Es]
theorem Asy {a b : Nat} (h : a ≠ b) : Nat.beq a b = false := by
 rw [bw_]; intro hb; exact h (aa_ hb)
theorem O3 (k : IntKind) (n : Int) (h : Mj k n = true) : k.wrap n = n := by
 cases n with
 | ofNat m =>
  have e : Int.ofNat m = (m : Int) := rfl;rw [e];cases k
  ·have h' : m <= 127 := ak_ h; exact IntWalk.i8_in _ ⟨by omega,by omega⟩
  ·have h' : m <= 32767 := ak_ h; exact IntWalk.i16_in _ ⟨by omega,by omega⟩
  ·have h' : m <= 2147483647 := ak_ h; exact IntWalk.i32_in _ ⟨by omega,by omega⟩
  ·have h' : m <= 9223372036854775807 := ak_ h; exact IntWalk.i64_in _ ⟨by omega,by omega⟩
  ·have h' : m <= 255 := ak_ h; exact IntWalk.u8_in _ ⟨by omega,by omega⟩
  ·have h' : m <= 65535 := ak_ h; exact IntWalk.u16_in _ ⟨by omega,by omega⟩
  ·have h' : m <= 4294967295 := ak_ h; exact IntWalk.u32_in _ ⟨by omega,by omega⟩
  ·have h' : m <= 18446744073709551615 := ak_ h; exact IntWalk.u64_in _ ⟨by omega,by omega⟩
 | negSucc m =>
  have e : Int.negSucc m = -((m : Int) + 1) := by omega
  cases k
  ·have h' : m <= 127 := ak_ h; rw [e]; exact IntWalk.i8_in _ ⟨by omega,by omega⟩
  ·have h' : m <= 32767 := ak_ h; rw [e]; exact IntWalk.i16_in _ ⟨by omega,by omega⟩
  ·have h' : m <= 2147483647 := ak_ h; rw [e]; exact IntWalk.i32_in _ ⟨by omega,by omega⟩
  ·have h' : m <= 9223372036854775807 := ak_ h; rw [e]; exact IntWalk.i64_in _ ⟨by omega,by omega⟩
  all_goals (cases h)
theorem L5 (k : IntKind) (n : Int) : N3 k n = .int k (k.wrap n) := by
 have key : ∀ m : Int,cond (Mj k m) (AV.int k m) (.int k (k.wrap m)) = .int k (k.wrap m) := fun m => by
  cases h : Mj k m
  ·rfl
  ·simp [O3 k m h]
 cases n <;> simp only [N3,Ag] <;> exact key _
theorem Ab4 (a b : Int) : Aii a b = a + b := by cases a <;> cases b <;> rfl
theorem Vf (a b : Int) : Ad7 a b = a - b := by
 cases a with
 | ofNat m => cases b with
  | ofNat n =>
   simp only [Ad7];cases h : Nat.ble n m
   ·rfl
   ·simp only [cond_true]; have : n <= m := by simpa using h
    simp; omega
  | negSucc n => rfl
 | negSucc m => cases b <;> rfl
theorem Wj {a b : ByteArray} (h : Bl a = Bl b) : a = b := by
 unfold Bl at h
 have h1 : a.data.toList = b.data.toList := by
  have key : ∀ (l m : List UInt8),l.map UInt8.toNat = m.map UInt8.toNat -> l = m := by
   intro l
   induction l with
   | nil => intro m h; cases m with
    | nil => rfl
    | cons => simp at h
   | cons x r ih => intro m h; cases m with
    | nil => simp at h
    | cons y s => simp only [cd_,de_] at h; rw [UInt8.toNat_inj.1 h.1,ih s h.2]
  exact key _ _ h
 cases a; cases b; simp at h1; simp [h1]
theorem Fp : ∀ (a b : List Nat),Fl a b = true ↔ a = b
 | [],[] => by simp [Fl]
 | [],_ :: _ => by simp [Fl]
 | _ :: _,[] => by simp [Fl]
 | x :: r,y :: s => by
  simp only [Fl]
  by_cases h : x = y
  ·subst h; simp [Fp r s]
  ·have : Nat.beq x y = false := by rw [bw_]; intro hb; exact h (aa_ hb)
   simp [this,h]
theorem Kb (a b : ByteArray) : Fl (Bl a) (Bl b) = (a.toList == b.toList) := by
 rw [fb_,Fp];simp only [Go.ByteArray.toList_eq,beq_iff_eq]
 constructor
 ·intro h; rw [Wj h]
 ·intro h; unfold Bl; rw [h]
theorem Yq : ∀ (a b : List UInt8),Cq (a.map UInt8.toNat) (b.map UInt8.toNat) = Op.bytesLess a b
 | _,[] => by cases ‹List UInt8› <;> simp [Cq,Op.bytesLess]
 | [],_ :: _ => by simp [Cq,Op.bytesLess]
 | x :: r,y :: s => by
  simp only [cd_,Cq,Op.bytesLess,Yq r s]
  by_cases h : x < y
  ·have : Nat.blt x.toNat y.toNat = true := by simp [Nat.blt]; exact UInt8.lt_iff_toNat_lt.1 h
   simp [this,h]
  ·have h1 : Nat.blt x.toNat y.toNat = false := by
    rw [bw_]; intro hb
    have : x.toNat < y.toNat := by simp [Nat.blt] at hb; exact hb
    exact h (UInt8.lt_iff_toNat_lt.2 this)
   by_cases h2 : x = y
   ·subst h2; simp [h1,h]
   ·have : Nat.beq x.toNat y.toNat = false := by rw [bw_]; intro hb; exact h2 (UInt8.toNat_inj.1 (aa_ hb))
    simp [h1,h,this,h2]
theorem Yr (a b : ByteArray) : Bl (a ++ b) = Bl a ++ Bl b := by
 unfold Bl; simp
theorem Ei (a : ByteArray) : (Bl a).length = a.size := by unfold Bl; simp
section
variable {P : Program} {C : Ctx} {N : Nat} {w : World}
theorem Aka (a b : Int) : (!decide (b <= a)) = decide (a < b) := by
 rw [fb_]; simp
theorem Af1 {op : BinOp} {k : IntKind} {a b : Int} {v : AV} (h : Gq op k a b = some v) (t : TypeId) : ∃ x,(binOp op t (.int k a) (.int k b)).run P w = .ok x w /\ R C N w v x := by
 cases op <;> simp only [Gq] at h
 case add => cases h; exact ⟨_,by simp only [binOp]; simp [Op.intArith]; rfl,by rw [L5,Ab4]; unfold R; rfl⟩
 case sub => cases h; exact ⟨_,by simp only [binOp]; simp [Op.intArith]; rfl,by rw [L5,Vf]; unfold R; rfl⟩
 case mul => cases h; exact ⟨_,by simp only [binOp]; simp [Op.intArith]; rfl,by rw [L5]; unfold R; rfl⟩
 case eql => cases h; exact ⟨_,by simp only [binOp]; simp [Op.intCmp]; rfl,by unfold R; rw [Ie]⟩
 case neq => cases h; exact ⟨_,by simp only [binOp]; simp [Op.intCmp]; rfl,by unfold R; rw [Ie]; rfl⟩
 case lss => cases h; exact ⟨_,by simp only [binOp]; simp [Op.intCmp]; rfl,by unfold R; rw [D1,Aka]⟩
 case leq => cases h; exact ⟨_,by simp only [binOp]; simp [Op.intCmp]; rfl,by unfold R; rw [D1]⟩
 case gtr => cases h; exact ⟨_,by simp only [binOp]; simp [Op.intCmp]; rfl,by unfold R; rw [D1,Aka]⟩
 case geq => cases h; exact ⟨_,by simp only [binOp]; simp [Op.intCmp]; rfl,by unfold R; rw [D1]⟩
 case quo =>
  split at h
  ·rename_i a b
   cases h
   refine ⟨_,by simp only [binOp]; simp [Op.intDiv]; rfl,?_⟩
   rw [L5]; unfold R; rfl
  ·cases h
 case rem =>
  split at h
  ·rename_i a b
   rw [Ag] at h;cases h
   exact ⟨_,by simp only [binOp]; simp [Op.intDiv]; rfl,by unfold R; rfl⟩
  ·cases h
 all_goals (cases h)
end
section
variable {P : Program} {C : Ctx} {N : Nat} {w : World}
theorem Mr {t : TypeId} {ti : TI} (hti : Aw P t = some ti) {z : AV} (hz : Hr ti = some z) : ∃ Z,(zeroValue t).run P w = .ok Z w /\ R C N w z Z := by
 obtain ⟨i,d,g1,g2,g3,g4,_,g6,g7⟩ := Al hti;unfold Hr at hz
 split at hz
 ·rename_i l hl
  rw [g6] at hl;obtain ⟨Z,q1,q2,q3,q4,q5⟩ := Eu (C := C) (w := w) (N := N) hl
  refine ⟨Z,by unfold zeroValue; simp [Ca g1,q1],?_⟩
  rw [g7] at hz;cases hb : Li d
  ·simp only [hb] at hz;obtain ⟨u,rfl,hu⟩ := q5 hb
   simp at hz; subst hz; exact hu
  ·simp only [hb] at hz;cases hz;obtain ⟨a,rfl⟩ := q4 hb;unfold R;exact ⟨a,rfl,q2,q3⟩
 ·cases hz
end
end Go.AM
