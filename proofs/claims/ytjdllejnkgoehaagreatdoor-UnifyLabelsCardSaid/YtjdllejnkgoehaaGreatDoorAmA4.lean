/- Maps: keys found; entries turned, added and taken away. -/
import Derived.MapKept
import Derived.Test.YtjdllejnkgoehaaGreatDoorAmA3
namespace Go.AM
open Go

section
variable {P : Program} {C C' : Ctx} {N N' : Nat} {w w' : World} {σ σ' : Sto}

/- ===== keys ===== -/
theorem KS_KV {d : TypeDesc} {v : Value} (h : KS d v) : ∃ k, KV k v := by
  unfold KS at h
  split at h
  · obtain ⟨n, rfl⟩ := h; exact ⟨.int _ n, by unfold KV; rfl⟩
  · obtain ⟨s, rfl⟩ := h; exact ⟨.str (bytesOf s), by unfold KV; exact ⟨s, rfl, rfl⟩⟩
  · obtain ⟨b, rfl⟩ := h; exact ⟨.bool b, by unfold KV; rfl⟩
  · exact h.elim

theorem KFs_KVs : ∀ {fs : List Field} {vs : List Value}, KFs P fs vs → ∃ ks, KVs ks vs
  | [], [], _ => ⟨[], by unfold KVs; trivial⟩
  | f :: fs, v :: vs, h => by
    unfold KFs at h
    obtain ⟨⟨i, d, _, _, _, _, hk, _⟩, h2⟩ := h
    obtain ⟨k, hk⟩ := KS_KV hk
    obtain ⟨ks, hks⟩ := KFs_KVs h2
    exact ⟨k :: ks, by unfold KVs; exact ⟨hk, hks⟩⟩
  | [], _ :: _, h => by unfold KFs at h; exact h.elim
  | _ :: _, [], h => by unfold KFs at h; exact h.elim

theorem KT_KV {kt : TypeId} {v : Value} (h : KT P kt v) : ∃ k, KV k v := by
  rcases h with ⟨d, _, h⟩ | ⟨fs, a, _, rfl, h, _⟩
  · exact KS_KV h
  · obtain ⟨ks, hk⟩ := KFs_KVs h
    exact ⟨.agg ks, by unfold KV; exact ⟨a, rfl, hk⟩⟩

mutual
theorem KV_inj : ∀ (k : Key) (v v' : Value), KV k v → KV k v' → v = v'
  | .bool b, v, v', h, h' => by unfold KV at h h'; rw [h, h']
  | .int k n, v, v', h, h' => by unfold KV at h h'; rw [h, h']
  | .str l, v, v', h, h' => by
    unfold KV at h h'
    obtain ⟨s, rfl, rfl⟩ := h
    obtain ⟨s', rfl, he⟩ := h'
    rw [bytesOf_inj he]
  | .agg cs, v, v', h, h' => by
    unfold KV at h h'
    obtain ⟨a, rfl, h⟩ := h
    obtain ⟨b, rfl, h'⟩ := h'
    rw [show a = b from Array.ext' (KVs_inj cs _ _ h h')]
theorem KVs_inj : ∀ (ks : List Key) (vs vs' : List Value), KVs ks vs → KVs ks vs' → vs = vs'
  | [], [], [], _, _ => rfl
  | k :: ks, v :: vs, v' :: vs', h, h' => by
    unfold KVs at h h'
    rw [KV_inj k v v' h.1 h'.1, KVs_inj ks vs vs' h.2 h'.2]
  | [], _ :: _, _, h, _ => by unfold KVs at h; exact h.elim
  | [], [], _ :: _, _, h => by unfold KVs at h; exact h.elim
  | _ :: _, [], _, h, _ => by unfold KVs at h; exact h.elim
  | _ :: _, _ :: _, [], _, h => by unfold KVs at h; exact h.elim
end

theorem KS_oneCell {d : TypeDesc} {v : Value} (h : KS d v) : v.oneCell = true := by
  unfold KS at h
  split at h
  · obtain ⟨n, rfl⟩ := h; rfl
  · obtain ⟨s, rfl⟩ := h; rfl
  · obtain ⟨b, rfl⟩ := h; rfl
  · exact h.elim

theorem KFs_oneCell : ∀ {fs : List Field} {vs : List Value}, KFs P fs vs → ∀ x ∈ vs, x.oneCell = true
  | [], [], _, x, hx => by simp at hx
  | f :: fs, v :: vs, h, x, hx => by
    unfold KFs at h
    rcases List.mem_cons.1 hx with rfl | hx
    · obtain ⟨⟨i, d, _, _, _, _, hk, _⟩, _⟩ := h; exact KS_oneCell hk
    · exact KFs_oneCell h.2 x hx
  | [], _ :: _, h, _, _ => by unfold KFs at h; exact h.elim
  | _ :: _, [], h, _, _ => by unfold KFs at h; exact h.elim

theorem KVs_RL : ∀ {ks : List Key} {vs : List Value}, KVs ks vs →
    RL C N w (ks.map fun | .bool b => .bool b | .int k n => .int k n | .str l => .str l | .agg _ => .any) vs
  | [], [], _ => by simp only [List.map_nil]; unfold RL; trivial
  | k :: ks, v :: vs, h => by
    unfold KVs at h
    simp only [List.map_cons]
    unfold RL
    refine ⟨?_, KVs_RL h.2⟩
    have h1 := h.1
    cases k <;> unfold KV at h1 <;> unfold R
    · exact h1
    · exact h1
    · exact h1
    · trivial
  | [], _ :: _, h => by unfold KVs at h; exact h.elim
  | _ :: _, [], h => by unfold KVs at h; exact h.elim

theorem KV_R {kt : TypeId} {k : Key} {v : Value} (h : KV k v) (t : KT P kt v) : R C N w (keyAV k) v := by
  cases k with
  | bool b => unfold KV at h; unfold keyAV R; exact h
  | int j n => unfold KV at h; unfold keyAV R; exact h
  | str l => unfold KV at h; unfold keyAV R; exact h
  | agg cs =>
    unfold KV at h
    obtain ⟨a, rfl, h⟩ := h
    unfold keyAV R
    refine ⟨a, rfl, KVs_RL h, ?_⟩
    rcases t with ⟨d, _, t⟩ | ⟨fs, b, _, e, t, _⟩
    · unfold KS at t
      split at t
      · obtain ⟨_, t⟩ := t; cases t
      · obtain ⟨_, t⟩ := t; cases t
      · obtain ⟨_, t⟩ := t; cases t
      · exact t.elim
    · cases e; exact KFs_oneCell t

/- ===== a key is looked for ===== -/
theorem sameNow_spec {d : TypeDesc} {v v' : Value} (h : KS d v) (h' : KS d v') : ∃ b, Instr.sameNow d v v' = some b ∧ (b = true ↔ v = v') := by
  unfold KS at h h'
  split at h
  · obtain ⟨n, rfl⟩ := h
    obtain ⟨n', rfl⟩ := h'
    exact ⟨n == n', by simp [Instr.sameNow], by simp⟩
  · obtain ⟨n, rfl⟩ := h
    obtain ⟨n', rfl⟩ := h'
    exact ⟨n == n', by simp [Instr.sameNow], by rw [Go.MapKept.bytes_beq]; simp⟩
  · obtain ⟨n, rfl⟩ := h
    obtain ⟨n', rfl⟩ := h'
    exact ⟨n == n', by simp [Instr.sameNow], by simp⟩
  · exact h.elim

/- what a search answers -/
def Found (v : Value) (es : List MapEntry) (i : Nat) : Option (Nat × Value) → Prop
  | some (j, x) => ∃ e, i ≤ j ∧ es[j - i]? = some e ∧ e.key = v ∧ e.val = x
  | none => ∀ e ∈ es, e.key ≠ v

theorem Found.cons {v : Value} {e : MapEntry} {es : List MapEntry} {i : Nat} {r : Option (Nat × Value)} (h : Found v es (i + 1) r) (hne : e.key ≠ v) : Found v (e :: es) i r := by
  cases r with
  | none =>
    intro f hf
    rcases List.mem_cons.1 hf with rfl | hf
    · exact hne
    · exact h f hf
  | some p =>
    obtain ⟨f, h1, h2, h3, h4⟩ := h
    refine ⟨f, by omega, ?_, h3, h4⟩
    rw [show p.1 - i = (p.1 - (i + 1)) + 1 by omega]; exact h2

theorem findNow_spec {d : TypeDesc} {v : Value} (h : KS d v) : ∀ {es : List MapEntry}, (∀ e ∈ es, KS d e.key) → ∀ i, ∃ r, Instr.findNow d v es i = some r ∧ Found v es i r
  | [], _, i => ⟨none, rfl, fun e he => by simp at he⟩
  | e :: es, he, i => by
    obtain ⟨b, h1, h2⟩ := sameNow_spec h (he e (by simp))
    cases b with
    | true => exact ⟨some (i, e.val), by simp only [Instr.findNow, h1], e, Nat.le_refl _, by simp, (h2.1 rfl).symm, rfl⟩
    | false =>
      obtain ⟨r, k1, k2⟩ := findNow_spec h (fun f hf => he f (List.mem_cons_of_mem _ hf)) (i + 1)
      exact ⟨r, by simp only [Instr.findNow, h1, k1], k2.cons fun hh => by have := h2.2 hh.symm; cases this⟩

theorem findAsking_spec {kt : TypeId} {v : Value} (h : KT P kt v) : ∀ {es : List MapEntry}, (∀ e ∈ es, KT P kt e.key) → ∀ i, ∃ r, (Instr.findAsking kt v es i).run P w = .ok r w ∧ Found v es i r
  | [], _, i => ⟨none, rfl, fun e he => by simp at he⟩
  | e :: es, he, i => by
    obtain ⟨k, hk⟩ := KT_KV h
    obtain ⟨k', hk'⟩ := KT_KV (he e (by simp))
    obtain ⟨h1, h2⟩ := KV_eq (w := w) hk hk' h (he e (by simp))
    have h3 : (Op.equal kt v e.key).run P w = .ok (Key.eq k k') w := h2 9998
    cases hb : Key.eq k k' with
    | true =>
      refine ⟨some (i, e.val), by simp [Instr.findAsking, h3, hb], e, Nat.le_refl _, by simp, (h1.1 hb).symm, rfl⟩
    | false =>
      obtain ⟨r, k1, k2⟩ := findAsking_spec h (fun f hf => he f (List.mem_cons_of_mem _ hf)) (i + 1)
      exact ⟨r, by simp [Instr.findAsking, h3, hb, k1], k2.cons fun hh => by have := h1.2 hh.symm; rw [hb] at this; cases this⟩

theorem findKey_spec {kt : TypeId} {v : Value} (h : KT P kt v) {es : List MapEntry} (he : ∀ e ∈ es, KT P kt e.key) : ∃ r, (Instr.findKey kt v es).run P w = .ok r w ∧ Found v es 0 r := by
  obtain ⟨r, k1, k2⟩ := findAsking_spec (w := w) h he 0
  rcases h with ⟨d, ht, h⟩ | ⟨fs, a, ht, rfl, h⟩
  · have he' : ∀ e ∈ es, KS d e.key := fun e hm => by
      rcases he e hm with ⟨d', ht', h'⟩ | ⟨fs, b, ht', _, _⟩
      · rw [ht] at ht'; cases ht'; exact h'
      · rw [ht] at ht'; cases ht'; unfold KS at h; exact h.elim
    obtain ⟨r, h1, h2⟩ := findNow_spec h he' 0
    exact ⟨r, by simp [Instr.findKey, run_underlying' ht, h1], h2⟩
  · cases es with
    | nil => exact ⟨none, by simp [Instr.findKey, run_underlying' ht, Instr.findNow], fun e hm => by simp at hm⟩
    | cons e es =>
      have : Instr.findNow (.struct fs) (.agg a) (e :: es) 0 = none := by simp [Instr.findNow, Instr.sameNow]
      exact ⟨r, by simp [Instr.findKey, run_underlying' ht, this, k1], k2⟩

end
end Go.AM

/- Maps: entries turned, added and taken away. -/
namespace Go.AM
open Go

section
variable {P : Program} {C C' : Ctx} {N N' : Nat} {w w' : World} {σ σ' : Sto}

/- ===== the abstract entries ===== -/
theorem mfind_some {kv : Key} {x : AV} : ∀ {es : List (Key × AV)}, mfind kv es = some x →
    ∃ a k' b, es = a ++ (k', x) :: b ∧ Key.eq kv k' = true ∧ (∀ v, mset kv v es = a ++ (k', v) :: b) ∧ mdel kv es = a ++ b
  | [], h => by simp [mfind] at h
  | (k', y) :: r, h => by
    simp only [mfind] at h
    cases hb : Key.eq kv k'
    · simp only [hb, cond_false] at h
      obtain ⟨a, k2, b, h1, h2, h3, h4⟩ := mfind_some h
      exact ⟨(k', y) :: a, k2, b, by simp [h1], h2, fun v => by simp [mset, hb, h3], by simp [mdel, hb, h4]⟩
    · simp only [hb, cond_true, Option.some.injEq] at h
      subst h
      exact ⟨[], k', r, rfl, hb, fun v => by simp [mset, hb], by simp [mdel, hb]⟩

theorem mfind_none {kv : Key} : ∀ {es : List (Key × AV)}, mfind kv es = none → (∀ x ∈ es, Key.eq kv x.1 = false) ∧ mdel kv es = es
  | [], _ => ⟨fun x hx => by simp at hx, rfl⟩
  | (k', y) :: r, h => by
    simp only [mfind] at h
    cases hb : Key.eq kv k'
    · simp only [hb, cond_false] at h
      obtain ⟨h1, h2⟩ := mfind_none h
      refine ⟨fun x hx => ?_, by simp [mdel, hb, h2]⟩
      rcases List.mem_cons.1 hx with rfl | hx
      · exact hb
      · exact h1 x hx
    · simp [hb] at h

theorem mins_split (kv : Key) (v : AV) : ∀ (es : List (Key × AV)), ∃ a b, es = a ++ b ∧ mins kv v es = a ++ (kv, v) :: b
  | [] => ⟨[], [], rfl, rfl⟩
  | (k', y) :: r => by
    simp only [mins]
    cases hb : Key.lt kv k'
    · obtain ⟨a, b, h1, h2⟩ := mins_split kv v r
      exact ⟨(k', y) :: a, b, by simp [h1], by simp [h2]⟩
    · exact ⟨[], (k', y) :: r, rfl, rfl⟩

theorem ER.split : ∀ {a b : List (Key × AV)} {L : List MapEntry}, ER C N w (a ++ b) L → ∃ A B, L = A ++ B ∧ ER C N w a A ∧ ER C N w b B
  | [], b, L, h => ⟨[], L, rfl, by unfold ER; trivial, h⟩
  | x :: a, b, [], h => by rw [List.cons_append] at h; unfold ER at h; exact h.elim
  | x :: a, b, e :: L, h => by
    rw [List.cons_append] at h; unfold ER at h
    obtain ⟨A, B, h1, h2, h3⟩ := ER.split h.2
    exact ⟨e :: A, B, by simp [h1], by unfold ER; exact ⟨h.1, h2⟩, h3⟩

theorem ER.append : ∀ {a b : List (Key × AV)} {A B : List MapEntry}, ER C N w a A → ER C N w b B → ER C N w (a ++ b) (A ++ B)
  | [], b, [], B, _, h => h
  | x :: a, b, e :: A, B, h, k => by unfold ER at h; rw [List.cons_append, List.cons_append]; unfold ER; exact ⟨h.1, ER.append h.2 k⟩
  | [], _, _ :: _, _, h, _ => by unfold ER at h; exact h.elim
  | _ :: _, _, [], _, h, _ => by unfold ER at h; exact h.elim

theorem ER.length : ∀ {a : List (Key × AV)} {A : List MapEntry}, ER C N w a A → a.length = A.length
  | [], [], _ => rfl
  | x :: a, e :: A, h => by unfold ER at h; simp [ER.length h.2]
  | [], _ :: _, h => by unfold ER at h; exact h.elim
  | _ :: _, [], h => by unfold ER at h; exact h.elim

theorem ER.mem : ∀ {a : List (Key × AV)} {A : List MapEntry}, ER C N w a A → ∀ e ∈ A, ∃ x ∈ a, KV x.1 e.key ∧ R C N w x.2 e.val
  | [], [], _, e, he => by simp at he
  | x :: a, f :: A, h, e, he => by
    unfold ER at h
    rcases List.mem_cons.1 he with rfl | he
    · exact ⟨x, by simp, h.1⟩
    · obtain ⟨y, h1, h2⟩ := ER.mem h.2 e he; exact ⟨y, by simp [h1], h2⟩
  | [], _ :: _, h, _, _ => by unfold ER at h; exact h.elim
  | _ :: _, [], h, _, _ => by unfold ER at h; exact h.elim

theorem nodup_at {α β : Type} {f : α → β} {A B : List α} {e g : α} (h : ((A ++ e :: B).map f).Nodup) {j : Nat} (hj : (A ++ e :: B)[j]? = some g) (hg : f g = f e) : j = A.length ∧ g = e := by
  have h1 : ((A ++ e :: B).map f)[j]? = some (f e) := by rw [List.getElem?_map, hj]; simp [hg]
  have h2 : ((A ++ e :: B).map f)[A.length]? = some (f e) := by rw [List.getElem?_map]; simp
  obtain ⟨l1, l1'⟩ := List.getElem?_eq_some_iff.1 h1
  obtain ⟨l2, l2'⟩ := List.getElem?_eq_some_iff.1 h2
  have : j = A.length := (List.getElem?_inj l1 h).1 (h1.trans h2.symm)
  subst this
  simp at hj
  exact ⟨rfl, hj.symm⟩

/- an entry of the map, found on both sides -/
structure At (C : Ctx) (N : Nat) (w : World) (es : List (Key × AV)) (E : Array MapEntry) (V : Value) (x : AV) (kv : Key) where
  A : List MapEntry
  e : MapEntry
  B : List MapEntry
  a : List (Key × AV)
  k' : Key
  b : List (Key × AV)
  A' : List MapEntry
  B' : List MapEntry
  hE : E.toList = A ++ e :: B
  key : e.key = V
  val : R C N w x e.val
  kk : KV k' e.key
  hes : es = a ++ (k', x) :: b
  ea : ER C N w a A'
  eb : ER C N w b B'
  perm : (A' ++ B').Perm (A ++ B)
  set : ∀ v, mset kv v es = a ++ (k', v) :: b
  del : mdel kv es = a ++ b

theorem MapRel.locate {kt : TypeId} {es : List (Key × AV)} {E : Array MapEntry} {clock : Nat} (h : MapRel P C N w kt es E clock) {kv : Key} {V : Value} (hk : KV kv V) (ht : KT P kt V) :
    (∃ x, mfind kv es = some x ∧ ∃ q : At C N w es E V x kv, ∀ w', (Instr.findKey kt V E.toList).run P w' = .ok (some (q.A.length, q.e.val)) w') ∨
    (mfind kv es = none ∧ (∀ e ∈ E.toList, e.key ≠ V) ∧ ∀ w', (Instr.findKey kt V E.toList).run P w' = .ok none w') := by
  obtain ⟨L, hp, hL⟩ := h.perm
  cases hm : mfind kv es with
  | none =>
    obtain ⟨h1, _⟩ := mfind_none hm
    have hno : ∀ e ∈ E.toList, e.key ≠ V := fun e he hh => by
      obtain ⟨x, hx, hxk, _⟩ := ER.mem hL e (hp.symm.subset he)
      have := (KV_eq (w := w) hk hxk ht (h.typed e he)).1.2 hh.symm
      rw [h1 x hx] at this; cases this
    refine .inr ⟨rfl, hno, fun w' => ?_⟩
    obtain ⟨r, k1, k2⟩ := findKey_spec (w := w') ht h.typed
    cases r with
    | none => exact k1
    | some p =>
      obtain ⟨f, _, f2, f3, _⟩ := k2
      exact absurd f3 (hno f (List.mem_of_getElem? f2))
  | some x =>
    obtain ⟨a, k', b, h1, h2, h3, h4⟩ := mfind_some hm
    have hL' := hL
    rw [h1] at hL'
    obtain ⟨A', L2, q1, q2, q3⟩ := hL'.split
    cases L2 with
    | nil => unfold ER at q3; exact q3.elim
    | cons e B' =>
      unfold ER at q3
      obtain ⟨⟨q4, q5⟩, q6⟩ := q3
      have he : e ∈ E.toList := hp.subset (by rw [q1]; simp)
      obtain ⟨A, B, hE⟩ := List.append_of_mem he
      have hkey : e.key = V := ((KV_eq (w := w) hk q4 ht (h.typed e he)).1.1 h2).symm
      have hperm : (A' ++ B').Perm (A ++ B) := by
        have := hp; rw [q1, hE] at this
        exact (List.perm_middle.symm.trans (this.trans List.perm_middle)).cons_inv
      refine .inl ⟨x, rfl, ⟨A, e, B, a, k', b, A', B', hE, hkey, q5, q4, h1, q2, q6, hperm, h3, h4⟩, fun w' => ?_⟩
      obtain ⟨r, k1, k2⟩ := findKey_spec (w := w') ht h.typed
      cases r with
      | none => exact absurd hkey (k2 e he)
      | some p =>
        obtain ⟨f, _, f2, f3, f4⟩ := k2
        obtain ⟨j, y⟩ := p
        simp only [Nat.sub_zero] at f2 f4
        have hnd := h.keys
        rw [hE] at hnd f2
        obtain ⟨g1, g2⟩ := nodup_at hnd f2 (f3.trans hkey.symm)
        subst g1 g2
        rw [k1, ← f4]

theorem modify_mid {α : Type} (f : α → α) (e : α) (B : List α) : ∀ A : List α, (A ++ e :: B).modify A.length f = A ++ f e :: B
  | [] => rfl
  | x :: A => by simp only [List.cons_append, List.length_cons, List.modify_succ_cons, modify_mid f e B A]

/- an entry's value is turned -/
theorem MapRel.set {kt : TypeId} {es : List (Key × AV)} {E : Array MapEntry} {clock : Nat} (h : MapRel P C N w kt es E clock) {kv : Key} {V : Value} {x v : AV} (q : At C N w es E V x kv) {y : Value} (hy : R C N w v y) :
    MapRel P C N w kt (mset kv v es) (E.modify q.A.length fun e => { e with key := V, val := y }) clock ∧ (E.modify q.A.length fun e => { e with key := V, val := y }).toList = q.A ++ { q.e with val := y } :: q.B := by
  have hl : (E.modify q.A.length fun e => { e with key := V, val := y }).toList = q.A ++ { q.e with val := y } :: q.B := by
    rw [Array.toList_modify, q.hE]
    have hk := q.key
    simp [modify_mid, ← hk]
  have hkeys : (q.A ++ { q.e with val := y } :: q.B).map (·.key) = (q.A ++ q.e :: q.B).map (·.key) := by simp
  have hborn : (q.A ++ { q.e with val := y } :: q.B).map (·.born) = (q.A ++ q.e :: q.B).map (·.born) := by simp
  refine ⟨⟨fun e he => ?_, ⟨q.A' ++ { q.e with val := y } :: q.B', ?_, ?_⟩, ?_, fun e he => ?_, ?_⟩, hl⟩
  · rw [hl] at he
    rcases List.mem_append.1 he with he | he
    · exact h.typed e (by rw [q.hE]; simp [he])
    · rcases List.mem_cons.1 he with rfl | he
      · exact h.typed q.e (by rw [q.hE]; simp)
      · exact h.typed e (by rw [q.hE]; simp [he])
  · rw [hl]; exact List.perm_middle.trans ((q.perm.cons _).trans List.perm_middle.symm)
  · rw [q.set v]; exact q.ea.append (by unfold ER; exact ⟨⟨q.kk, hy⟩, q.eb⟩)
  · rw [hl, hkeys, ← q.hE]; exact h.keys
  · rw [hl] at he
    rcases List.mem_append.1 he with he | he
    · exact h.born e (by rw [q.hE]; simp [he])
    · rcases List.mem_cons.1 he with rfl | he
      · exact h.born q.e (by rw [q.hE]; simp)
      · exact h.born e (by rw [q.hE]; simp [he])
  · rw [hl, hborn, ← q.hE]; exact h.apart

/- an entry is added -/
theorem MapRel.ins {kt : TypeId} {es : List (Key × AV)} {E : Array MapEntry} {clock : Nat} (h : MapRel P C N w kt es E clock) {kv : Key} {V : Value} (hk : KV kv V) (ht : KT P kt V) (hno : ∀ e ∈ E.toList, e.key ≠ V) {v : AV} {y : Value} (hy : R C N w v y) :
    MapRel P C N w kt (mins kv v es) (E.push ⟨V, y, clock⟩) (clock + 1) := by
  obtain ⟨L, hp, hL⟩ := h.perm
  obtain ⟨a, b, h1, h2⟩ := mins_split kv v es
  rw [h1] at hL
  obtain ⟨A', B', q1, q2, q3⟩ := hL.split
  have hl : (E.push ⟨V, y, clock⟩).toList = E.toList ++ [⟨V, y, clock⟩] := by simp
  refine ⟨fun e he => ?_, ⟨A' ++ ⟨V, y, clock⟩ :: B', ?_, ?_⟩, ?_, fun e he => ?_, ?_⟩
  · rw [hl] at he
    rcases List.mem_append.1 he with he | he
    · exact h.typed e he
    · simp at he; subst he; exact ht
  · rw [hl]
    refine List.perm_middle.trans ?_
    rw [← q1]
    exact (hp.cons _).trans (List.perm_append_singleton _ _).symm
  · rw [h2]; exact q2.append (by unfold ER; exact ⟨⟨hk, hy⟩, q3⟩)
  · rw [hl, List.map_append, List.nodup_append]
    refine ⟨h.keys, by simp, fun x hx z hz => ?_⟩
    simp at hz; subst hz
    obtain ⟨e, he, rfl⟩ := List.mem_map.1 hx
    exact hno e he
  · rw [hl] at he
    rcases List.mem_append.1 he with he | he
    · have := h.born e he; omega
    · simp at he; subst he; exact Nat.lt_succ_self _
  · rw [hl, List.map_append, List.nodup_append]
    refine ⟨h.apart, by simp, fun x hx z hz => ?_⟩
    simp at hz; subst hz
    obtain ⟨e, he, rfl⟩ := List.mem_map.1 hx
    have := h.born e he; omega

/- an entry is taken away -/
theorem MapRel.del {kt : TypeId} {es : List (Key × AV)} {E : Array MapEntry} {clock : Nat} (h : MapRel P C N w kt es E clock) {kv : Key} {V : Value} {x : AV} (q : At C N w es E V x kv) :
    MapRel P C N w kt (mdel kv es) (E.eraseIdxIfInBounds q.A.length) clock := by
  have hl : (E.eraseIdxIfInBounds q.A.length).toList = q.A ++ q.B := by
    have hlt : q.A.length < E.size := by rw [← Array.length_toList, q.hE]; simp
    unfold Array.eraseIdxIfInBounds
    rw [dif_pos hlt, Array.toList_eraseIdx, q.hE]
    simp [List.eraseIdx_append_of_length_le]
  have hsub : (q.A ++ q.B).Sublist E.toList := by rw [q.hE]; exact List.Sublist.append (List.Sublist.refl _) (List.sublist_cons_self _ _)
  refine ⟨fun e he => h.typed e (hsub.subset (by rwa [hl] at he)), ⟨q.A' ++ q.B', by rw [hl]; exact q.perm, by rw [q.del]; exact q.ea.append q.eb⟩, ?_, fun e he => h.born e (hsub.subset (by rwa [hl] at he)), ?_⟩
  · rw [hl]; exact (hsub.map _).nodup h.keys
  · rw [hl]; exact (hsub.map _).nodup h.apart

theorem MapRel.empty {kt : TypeId} {clock : Nat} : MapRel P C N w kt [] #[] clock :=
  ⟨fun e he => by simp at he, ⟨[], by simp, by unfold ER; trivial⟩, by simp, fun e he => by simp at he, by simp⟩

theorem MapRel.count {kt : TypeId} {es : List (Key × AV)} {E : Array MapEntry} {clock : Nat} (h : MapRel P C N w kt es E clock) : es.length = E.size := by
  obtain ⟨L, hp, hL⟩ := h.perm
  rw [hL.length, hp.length_eq]; simp

end
end Go.AM

/- The operations of maps: sound. -/
namespace Go.AM
open Go

section
variable {P : Program} {C C' : Ctx} {N N' : Nat} {w w' : World} {σ σ' : Sto}

theorem run_getMap {c : Nat} {E : Array MapEntry} {clock : Nat} (h : w.heap[c]? = some (.map E clock)) : (getObj c).run P w = .ok (.map E clock) w := by
  simp only [getObj, Sem.run, h]

theorem run_setMap {c : Nat} {E : Array MapEntry} {clock : Nat} (h : w.heap[c]? = some (.map E clock)) (O : Obj) :
    (setObj c O).run P w = .ok () { w with heap := w.heap.setIfInBounds c O } := by
  simp only [setObj, Sem.run, h]

theorem wr_set {c : Nat} {O₀ : Obj} (h : w.heap[c]? = some O₀) (O : Obj) : Wr w { w with heap := w.heap.setIfInBounds c O } c O := by
  have hlt := (Array.getElem?_eq_some_iff.1 h).1
  refine ⟨by simp, by simp [hlt], fun b hb => ?_, rfl, rfl⟩
  simp only []
  rw [Array.getElem?_setIfInBounds_ne (fun h => hb h.symm)]

theorem csize_map {c : Nat} {E : Array MapEntry} {clock : Nat} (h : w.heap[c]? = some (.map E clock)) : csize w c = 0 := by unfold csize; simp [h]

/- the map's object, turned -/
theorem setMap (hs : Sim P C w σ) {r kt ver : Nat} {es : List (Key × AV)} (hg : σ.get r = some (.map kt es ver)) {c : Nat} {E : Array MapEntry} {clock : Nat} (hl : C.loc r = some (c, 0)) (hh : w.heap[c]? = some (.map E clock))
    {es' : List (Key × AV)} {ver' : Nat} (hv : ver < ver') {E' : Array MapEntry} {clock' : Nat} (hm : MapRel P C (nx σ) w kt es' E' clock') :
    Sim P C { w with heap := w.heap.setIfInBounds c (.map E' clock') } (σ.set r (.map kt es' ver')) ∧ Ext C (nx σ) w C (nx σ) { w with heap := w.heap.setIfInBounds c (.map E' clock') } := by
  have p := wr_set hh (.map E' clock')
  refine hs.upd hl p (by rw [csize_map p.here, csize_map hh]) hg _ rfl (fun kt₁ es₁ v₁ h => ?_) fun e => ?_
  · cases h; exact ⟨kt, es, ver, rfl, hv⟩
  · refine ⟨c, E', clock', hl, p.here, ?_⟩
    rw [nx_set]; exact hm.ext e

theorem sameBits_KS {d : TypeDesc} {v : Value} (h : KS d v) (n : Nat) : Instr.sameBits n v v = true := by
  unfold KS at h
  split at h
  · obtain ⟨m, rfl⟩ := h; cases n <;> simp [Instr.sameBits]
  · obtain ⟨m, rfl⟩ := h; cases n <;> simp [Instr.sameBits, Go.MapKept.bytes_beq]
  · obtain ⟨m, rfl⟩ := h; cases n <;> simp [Instr.sameBits]
  · exact h.elim

theorem sameBits_KFs (n : Nat) : ∀ {fs : List Field} {vs : List Value}, KFs P fs vs → ((vs.zip vs).all fun (x, y) => Instr.sameBits n x y) = true
  | [], [], _ => rfl
  | f :: fs, v :: vs, h => by
    unfold KFs at h
    obtain ⟨⟨i, d, _, _, _, _, hk, _⟩, h2⟩ := h
    simp only [List.zip_cons_cons, List.all_cons, Bool.and_eq_true]
    exact ⟨sameBits_KS hk n, sameBits_KFs n h2⟩
  | [], _ :: _, h => by unfold KFs at h; exact h.elim
  | _ :: _, [], h => by unfold KFs at h; exact h.elim

theorem keyStays {kt : TypeId} {v : Value} (h : KT P kt v) : (Instr.keyThatStays v v).run P w = .ok v w := by
  have : Instr.sameBits 10000 v v = true := by
    rcases h with ⟨d, _, h⟩ | ⟨fs, a, _, rfl, h, _⟩
    · exact sameBits_KS h _
    · have := sameBits_KFs 9999 h
      simp only [Instr.sameBits, Bool.and_eq_true, beq_self_eq_true, true_and]
      exact this
  unfold Instr.keyThatStays
  rw [this]; rfl

theorem zeroOf_run {et : TypeId} {te : TI} (hte : tiOf P et = some te) {z : AV} (hz : zeroOf te = some z) : ∃ Z, (∀ w, (zeroValue et).run P w = .ok Z w) ∧ ∀ (C : Ctx) (N : Nat) (w : World), R C N w z Z := by
  obtain ⟨Z, h1, h2⟩ := zeroOf_sound (P := P) (C := ⟨fun _ => none, fun _ => 0, fun _ => False⟩) (N := 0) (w := default) hte hz
  have hrun : ∀ w, (zeroValue et).run P w = .ok Z w := fun w => by
    unfold zeroValue typeInfo at h1 ⊢
    simp only [Sem.run_bind, run_program, Result.andThen_ok] at h1 ⊢
    cases hi : P.info? et with
    | none => simp [hi] at h1
    | some i =>
      simp only [hi, Sem.run_pure, Result.andThen_ok] at h1 ⊢
      cases hz : i.zero with
      | none => simp [hz] at h1
      | some v => simp only [hz, Sem.run_pure, Result.ok.injEq] at h1 ⊢; exact ⟨h1.1, trivial⟩
  refine ⟨Z, hrun, fun C N w => ?_⟩
  obtain ⟨Z', h3, h4⟩ := zeroOf_sound (P := P) (C := C) (N := N) (w := w) hte hz
  rw [hrun w] at h3; cases h3; exact h4

theorem okOut_R {ok : Bool} {v : AV} {V : Value} (h : R C N w v V) (b : Bool) : R C N w (okOut ok v b) (if ok then .tuple #[V, .bool b] else V) := by
  cases ok
  · exact h
  · simp only [okOut]; unfold R; exact ⟨_, rfl, by unfold RL; exact ⟨h, by unfold RL; exact ⟨by unfold R; rfl, by unfold RL; trivial⟩⟩⟩

theorem sLookup_sound (hs : Sim P C w σ) {t kt et : TypeId} {ti te : TI} (hti : tiOf P t = some ti) (hd : ti.desc = .map kt et) (hte : tiOf P et = some te) {z : AV} (hz : zeroOf te = some z) {k m : AV} {K M : Value} (hk : R C (nx σ) w k K) (hm : R C (nx σ) w m M)
    {ok : Bool} {v : AV} (h : sLookup kt (keyOf P kt k) z ok m σ = some (v, σ')) : σ' = σ ∧ PureR P C (nx σ) w (Instr.lookup t M K ok) v := by
  obtain ⟨_, d, _, g2, g3, _⟩ := tiOf_spec hti
  have hu := g2.trans (by rw [← g3, hd])
  obtain ⟨Z, z1, z2⟩ := zeroOf_run hte hz
  unfold sLookup at h
  split at h
  · rename_i kv hkv
    obtain ⟨hK, hT⟩ := keyOf_spec hkv hk
    split at h
    · rename_i r
      split at h
      · rename_i kt' es ver hg
        split at h
        · rename_i hkt
          have hkt := Nat.eq_of_beq_eq_true hkt; subst hkt
          unfold R at hm
          obtain ⟨c, rfl, _, hloc⟩ := hm
          obtain ⟨c', E, clock, l1, l2, l3⟩ := hs.obj r _ hg
          have := hloc c' 0 l1; subst this
          rcases l3.locate hK hT with ⟨x, hx, q, hq⟩ | ⟨hx, _, hq⟩
          · rw [hx] at h; cases h
            refine ⟨rfl, _, ?_, okOut_R q.val true⟩
            simp only [Instr.lookup, Sem.run_bind, run_underlying' hu, Result.andThen_ok, run_getMap l2, Sem.run_pure, run_checkKey' hT _ 9998, hq w]
          · rw [hx] at h; cases h
            refine ⟨rfl, _, ?_, okOut_R (z2 _ _ _) false⟩
            simp only [Instr.lookup, Sem.run_bind, run_underlying' hu, Result.andThen_ok, run_getMap l2, Sem.run_pure, run_checkKey' hT _ 9998, hq w, z1]
        · cases h
      · cases h
    · cases h
      unfold R at hm; obtain ⟨rfl, _⟩ := hm
      refine ⟨rfl, _, ?_, okOut_R (z2 _ _ _) false⟩
      obtain ⟨r, k1, k2⟩ := findKey_spec (P := P) (w := w) hT (es := []) (fun e he => by simp at he)
      have : r = none := by
        cases r with
        | none => rfl
        | some p => obtain ⟨f, _, f2, _⟩ := k2; simp at f2
      subst this
      simp only [Instr.lookup, Sem.run_bind, run_underlying' hu, Result.andThen_ok, Sem.run_pure, run_checkKey' hT _ 9998, k1, z1]
    · cases h
  · cases h

theorem old_key {E : Array MapEntry} {A B : List MapEntry} {e : MapEntry} (h : E.toList = A ++ e :: B) : E[A.length]? = some e := by
  rw [← Array.getElem?_toList, h]; simp

theorem sMapUpdate_sound (hs : Sim P C w σ) {t kt et : TypeId} {ti te : TI} (hti : tiOf P t = some ti) (hd : ti.desc = .map kt et) {k m v : AV} {K M V : Value} (hk : R C (nx σ) w k K) (hm : R C (nx σ) w m M) (hv : R C (nx σ) w v V)
    {u : AV} (h : sMapUpdate kt (keyOf P kt k) te m v σ = some (u, σ')) : u = undefA ∧ ∃ w', (Instr.mapUpdate t M K V).run P w = .ok () w' ∧ Sim P C w' σ' ∧ Ext C (nx σ) w C (nx σ') w' := by
  obtain ⟨_, d, _, g2, g3, _⟩ := tiOf_spec hti
  have hu := g2.trans (by rw [← g3, hd])
  unfold sMapUpdate at h
  split at h
  · rename_i kv r hkv
    obtain ⟨hK, hT⟩ := keyOf_spec hkv hk
    split at h
    · rename_i kt' es ver hg
      split at h
      · rename_i hb
        rw [Bool.and_eq_true] at hb
        have hkt := Nat.eq_of_beq_eq_true hb.1; subst hkt
        unfold R at hm
        obtain ⟨c, rfl, _, hloc⟩ := hm
        obtain ⟨c', E, clock, l1, l2, l3⟩ := hs.obj r _ hg
        have := hloc c' 0 l1; subst this
        rcases l3.locate hK hT with ⟨x, hx, q, hq⟩ | ⟨hx, hno, hq⟩
        · simp only [hx, forceN_eq, Option.some.injEq, Prod.mk.injEq] at h
          obtain ⟨rfl, rfl⟩ := h
          obtain ⟨m1, _⟩ := l3.set q hv
          obtain ⟨s1, s2⟩ := setMap hs hg l1 l2 (Nat.lt_succ_self ver) m1
          refine ⟨rfl, _, ?_, s1, by rw [nx_set]; exact s2⟩
          have hold := old_key q.hE
          simp only [Instr.mapUpdate, Sem.run_bind, run_underlying' hu, Result.andThen_ok, run_getMap l2, run_checkKey' hT _ 9998, hq w, hold, Option.map_some, Option.getD_some, q.key, keyStays hT, run_setMap l2]
        · simp only [hx, forceN_eq, Option.some.injEq, Prod.mk.injEq] at h
          obtain ⟨rfl, rfl⟩ := h
          obtain ⟨s1, s2⟩ := setMap hs hg l1 l2 (Nat.lt_succ_self ver) (l3.ins hK hT hno hv)
          refine ⟨rfl, _, ?_, s1, by rw [nx_set]; exact s2⟩
          simp only [Instr.mapUpdate, Sem.run_bind, run_underlying' hu, Result.andThen_ok, run_getMap l2, run_checkKey' hT _ 9998, hq w, run_setMap l2]
      · cases h
    · cases h
  · cases h

theorem sDelete_sound (hs : Sim P C w σ) {t kt et ty t2 : TypeId} {ti : TI} (hti : tiOf P t = some ti) (hd : ti.desc = .map kt et) {k m : AV} {K M : Value} (hk : R C (nx σ) w k K) (hm : R C (nx σ) w m M)
    {u : AV} (h : sDelete kt (keyOf P kt k) m σ = some (u, σ')) : u = undefA ∧ ∃ w', (Builtin.delete_ #[t, t2] ty #[M, K]).run P w = .ok (.tuple #[]) w' ∧ Sim P C w' σ' ∧ Ext C (nx σ) w C (nx σ') w' := by
  obtain ⟨_, d, _, g2, g3, _⟩ := tiOf_spec hti
  have hu := g2.trans (by rw [← g3, hd])
  unfold sDelete at h
  split at h
  · rename_i kv r hkv
    obtain ⟨hK, hT⟩ := keyOf_spec hkv hk
    split at h
    · rename_i kt' es ver hg
      split at h
      · rename_i hb
        have hkt := Nat.eq_of_beq_eq_true hb; subst hkt
        unfold R at hm
        obtain ⟨c, rfl, _, hloc⟩ := hm
        obtain ⟨c', E, clock, l1, l2, l3⟩ := hs.obj r _ hg
        have := hloc c' 0 l1; subst this
        simp only [forceN_eq, Option.some.injEq, Prod.mk.injEq] at h
        obtain ⟨rfl, rfl⟩ := h
        rcases l3.locate hK hT with ⟨x, hx, q, hq⟩ | ⟨hx, hno, hq⟩
        · obtain ⟨s1, s2⟩ := setMap hs hg l1 l2 (Nat.lt_succ_self ver) (l3.del q)
          refine ⟨rfl, _, ?_, s1, by rw [nx_set]; exact s2⟩
          simp [Builtin.delete_, run_underlying' hu, run_getMap l2, run_checkKey' hT _ 9998, hq w, run_setMap l2]
        · obtain ⟨s1, s2⟩ := setMap hs hg l1 l2 (Nat.lt_succ_self ver) (E' := E) (clock' := clock) (es' := mdel kv es) (by rw [(mfind_none hx).2]; exact l3)
          refine ⟨rfl, _, ?_, s1, by rw [nx_set]; exact s2⟩
          simp [Builtin.delete_, run_underlying' hu, run_getMap l2, run_checkKey' hT _ 9998, hq w, run_setMap l2]
      · cases h
    · cases h
  · rename_i kv hkv
    obtain ⟨hK, hT⟩ := keyOf_spec hkv hk
    cases h
    unfold R at hm; obtain ⟨rfl, _⟩ := hm
    refine ⟨rfl, w, ?_, hs, Ext.refl _ _ _⟩
    simp [Builtin.delete_, run_underlying' hu, run_checkKey' hT _ 9998]
  · cases h

theorem sClearMap_sound (hs : Sim P C w σ) {t kt et ty : TypeId} {ti : TI} (hti : tiOf P t = some ti) (hd : ti.desc = .map kt et) {m : AV} {M : Value} (hm : R C (nx σ) w m M)
    {u : AV} (h : sClearMap m σ = some (u, σ')) : u = undefA ∧ ∃ w', (Builtin.clear_ #[t] ty #[M]).run P w = .ok (.tuple #[]) w' ∧ Sim P C w' σ' ∧ Ext C (nx σ) w C (nx σ') w' := by
  obtain ⟨_, d, _, g2, g3, _⟩ := tiOf_spec hti
  have hu := g2.trans (by rw [← g3, hd])
  unfold sClearMap at h
  split at h
  · rename_i r
    split at h
    · rename_i kt' es ver hg
      unfold R at hm
      obtain ⟨c, rfl, _, hloc⟩ := hm
      obtain ⟨c', E, clock, l1, l2, l3⟩ := hs.obj r _ hg
      have := hloc c' 0 l1; subst this
      simp only [forceN_eq, Option.some.injEq, Prod.mk.injEq] at h
      obtain ⟨rfl, rfl⟩ := h
      obtain ⟨s1, s2⟩ := setMap hs hg l1 l2 (Nat.lt_succ_self ver) (MapRel.empty (clock := clock))
      refine ⟨rfl, _, ?_, s1, by rw [nx_set]; exact s2⟩
      simp [Builtin.clear_, run_underlying' hu, run_getMap l2, run_setMap l2]
    · cases h
  · cases h
    unfold R at hm; obtain ⟨rfl, _⟩ := hm
    refine ⟨rfl, w, ?_, hs, Ext.refl _ _ _⟩
    simp [Builtin.clear_, run_underlying' hu]
  · cases h

theorem sLenMap_sound (hs : Sim P C w σ) {t kt et ty : TypeId} {ti : TI} (hti : tiOf P t = some ti) (hd : ti.desc = .map kt et) {m : AV} {M : Value} (hm : R C (nx σ) w m M)
    {u : AV} (h : sLenMap m σ = some (u, σ')) : σ' = σ ∧ PureR P C (nx σ) w (Builtin.len_ #[t] ty #[M]) u := by
  obtain ⟨_, d, _, g2, g3, _⟩ := tiOf_spec hti
  have hu := g2.trans (by rw [← g3, hd])
  unfold sLenMap at h
  split at h
  · rename_i r
    split at h
    · rename_i kt' es ver hg
      unfold R at hm
      obtain ⟨c, rfl, _, hloc⟩ := hm
      obtain ⟨c', E, clock, l1, l2, l3⟩ := hs.obj r _ hg
      have := hloc c' 0 l1; subst this
      simp only [forceN_eq, Option.some.injEq, Prod.mk.injEq] at h
      obtain ⟨rfl, rfl⟩ := h
      refine ⟨rfl, _, by simp [Builtin.len_, run_underlying' hu, run_getMap l2]; rfl, ?_⟩
      unfold goInt R; rw [l3.count]; rfl
    · cases h
  · cases h
    unfold R at hm; obtain ⟨rfl, _⟩ := hm
    exact ⟨rfl, _, by simp [Builtin.len_, run_underlying' hu]; rfl, by unfold goInt R; rfl⟩
  · cases h

end
end Go.AM

/- Maps: entries, iterators: sound. -/
namespace Go.AM
open Go

section
variable {P : Program} {C C' : Ctx} {N N' : Nat} {w w' : World} {σ σ' : Sto}

theorem array_ext {α : Type} {a b : Array α} (h : a.toList = b.toList) : a = b := Array.ext' h

theorem mapEntry_keep {E : Array MapEntry} {A B : List MapEntry} {e : MapEntry} (h : E.toList = A ++ e :: B) {V : Value} (hV : e.key = V) : (E.modify A.length fun e => { e with key := V }) = E := by
  apply array_ext
  rw [Array.toList_modify, h, modify_mid, ← hV]

theorem sMapEntry_sound (hs : Sim P C w σ) {t kt et : TypeId} {ti te : TI} (hti : tiOf P t = some ti) (hd : ti.desc = .map kt et) (hte : tiOf P et = some te) {z : AV} (hz : zeroOf te = some z) {k m : AV} {K M : Value} (hk : R C (nx σ) w k K) (hm : R C (nx σ) w m M)
    {u : AV} (h : sMapEntry kt (keyOf P kt k) z m σ = some (u, σ')) : RunsV P C w σ (Instr.mapEntry t M K) u σ' := by
  obtain ⟨_, d, _, g2, g3, _⟩ := tiOf_spec hti
  have hu := g2.trans (by rw [← g3, hd])
  obtain ⟨Z, z1, z2⟩ := zeroOf_run hte hz
  unfold sMapEntry at h
  split at h
  · rename_i kv r hkv
    obtain ⟨hK, hT⟩ := keyOf_spec hkv hk
    split at h
    · rename_i kt' es ver hg
      split at h
      · rename_i hb
        have hkt := Nat.eq_of_beq_eq_true hb; subst hkt
        unfold R at hm
        obtain ⟨c, rfl, hr, hloc⟩ := hm
        obtain ⟨c', E, clock, l1, l2, l3⟩ := hs.obj r _ hg
        have := hloc c' 0 l1; subst this
        rw [forceN_eq] at h
        -- the stamp behind the map's step
        have step : ∀ {es' : List (Key × AV)} {E' : Array MapEntry} {clock' : Nat} (m1 : MapRel P C (nx σ) w kt' es' E' clock') (e : MapEntry) (he : e ∈ E'.toList) (hek : e.key = K) {x : AV} {X : Value} (hx : R C (nx σ) w x X)
            (hrun : (Instr.mapEntry t (.map (some c)) K).run P w = .ok (.tuple #[X, goInt e.born]) { w with heap := w.heap.setIfInBounds c (.map E' clock') }),
            RunsV P C w σ (Instr.mapEntry t (.map (some c)) K) (.tup [x, .stp (nx σ)]) ((σ.set r (.map kt' es' (ver + 1))).new (.stamp r (ver + 1) kv)) := by
          intro es' E' clock' m1 e he hek x X hx hrun
          obtain ⟨s1, s2⟩ := setMap hs hg l1 l2 (Nat.lt_succ_self ver) m1
          have hn : nx (σ.set r (.map kt' es' (ver + 1))) = nx σ := nx_set _ _ _
          have hhere := (wr_set l2 (.map E' clock')).here
          obtain ⟨s3, s4⟩ := s1.newStamp e.born r (ver + 1) kv (by rw [hn]; exact hr) (fun kt₁ es₁ v₁ hg₁ => by
            rw [Sto.get_set, if_pos rfl] at hg₁; cases hg₁
            exact ⟨Nat.le_refl _, fun _ => ⟨c, E', clock', l1, hhere, e, he, by rw [hek]; exact hK, rfl⟩⟩)
          refine ⟨_, _, _, _, hrun, rfl, s3, ?_, ?_⟩
          · rw [nx_new]; rw [hn] at s4 ⊢; exact s2.trans s4
          · rw [nx_new]; rw [hn] at s4 ⊢
            unfold R
            refine ⟨_, rfl, ?_⟩
            unfold RL
            refine ⟨R.ext (s2.trans s4) _ _ hx, ?_⟩
            unfold RL
            refine ⟨?_, by unfold RL; trivial⟩
            unfold R
            exact ⟨by simp [goInt, Ctx.addStm], Nat.lt_succ_self _⟩
        rcases l3.locate hK hT with ⟨x, hx, q, hq⟩ | ⟨hx, hno, hq⟩
        · simp only [hx, Option.some.injEq, Prod.mk.injEq] at h
          obtain ⟨rfl, rfl⟩ := h
          refine step l3 q.e (by rw [q.hE]; simp) q.key q.val ?_
          have hold := old_key q.hE
          simp only [Instr.mapEntry, Sem.run_bind, run_underlying' hu, Result.andThen_ok, run_getMap l2, run_checkKey' hT _ 9998, hq w, hold, Option.map_some, Option.getD_some, q.key, keyStays hT, run_setMap l2, mapEntry_keep q.hE q.key, Sem.run_pure]
        · simp only [hx, Option.some.injEq, Prod.mk.injEq] at h
          obtain ⟨rfl, rfl⟩ := h
          refine step (l3.ins hK hT hno (z2 _ _ _)) ⟨K, Z, clock⟩ (by simp) rfl (z2 _ _ _) ?_
          simp only [Instr.mapEntry, Sem.run_bind, run_underlying' hu, Result.andThen_ok, run_getMap l2, run_checkKey' hT _ 9998, hq w, run_setMap l2, z1, Sem.run_pure]
      · cases h
    · cases h
  · cases h

theorem born_eq {kt : TypeId} {es : List (Key × AV)} {E : Array MapEntry} {clock : Nat} (h : MapRel P C N w kt es E clock) {e f : MapEntry} (he : e ∈ E.toList) (hf : f ∈ E.toList) (hb : f.born = e.born) : f = e := by
  obtain ⟨A, B, hE⟩ := List.append_of_mem he
  obtain ⟨j, hj⟩ := List.mem_iff_getElem?.1 hf
  have hnd := h.apart
  rw [hE] at hnd hj
  exact (nodup_at hnd hj hb).2

theorem key_eq {kt : TypeId} {es : List (Key × AV)} {E : Array MapEntry} {clock : Nat} (h : MapRel P C N w kt es E clock) {e f : MapEntry} (he : e ∈ E.toList) (hf : f ∈ E.toList) (hb : f.key = e.key) : f = e := by
  obtain ⟨A, B, hE⟩ := List.append_of_mem he
  obtain ⟨j, hj⟩ := List.mem_iff_getElem?.1 hf
  have hnd := h.keys
  rw [hE] at hnd hj
  exact (nodup_at hnd hj hb).2

theorem findIdx_list {α : Type} (E : Array α) (p : α → Bool) : E.findIdx? p = E.toList.findIdx? p := by
  cases E; simp

theorem sEntryStore_sound (hs : Sim P C w σ) {t : TypeId} {te : TI} {m st v : AV} {M S V : Value} (hm : R C (nx σ) w m M) (hst : R C (nx σ) w st S) (hv : R C (nx σ) w v V)
    {u : AV} (h : sEntryStore te m st v σ = some (u, σ')) : u = undefA ∧ ∃ w', (Instr.entryStore t M S V).run P w = .ok () w' ∧ Sim P C w' σ' ∧ Ext C (nx σ) w C (nx σ') w' := by
  unfold sEntryStore at h
  split at h
  · rename_i r a
    split at h
    · rename_i r' ver kv kt es ver' hga hg
      split at h
      · rename_i hb
        simp only [Bool.and_eq_true] at hb
        have h1 := Nat.eq_of_beq_eq_true hb.1.1; subst h1
        have h2 := Nat.eq_of_beq_eq_true hb.1.2; subst h2
        split at h
        · rename_i x hx
          simp only [forceN_eq, Option.some.injEq, Prod.mk.injEq] at h
          obtain ⟨rfl, rfl⟩ := h
          refine ⟨rfl, ?_⟩
          obtain ⟨_, o2⟩ := hs.obj a _ hga
          obtain ⟨cm, E, clock, l1, l2, e, he, hek, hstm⟩ := (o2 kt es ver hg).2 rfl
          obtain ⟨c', E', clock', l1', l2', l3⟩ := hs.obj r _ hg
          rw [l1] at l1'; cases l1'
          rw [l2] at l2'; cases l2'
          unfold R at hm hst
          obtain ⟨c, rfl, _, hloc⟩ := hm
          have := hloc _ _ l1; subst this
          obtain ⟨rfl, _⟩ := hst
          rcases l3.locate hek (l3.typed e he) with ⟨x', hx', q, _⟩ | ⟨hx', _⟩
          · have hqe : q.e = e := key_eq l3 he (by rw [q.hE]; simp) q.key
            obtain ⟨m1, m2⟩ := l3.set q hv
            obtain ⟨s1, s2⟩ := setMap hs hg l1 l2 (Nat.lt_succ_self ver) m1
            refine ⟨_, ?_, s1, by rw [nx_set]; exact s2⟩
            have hidx : E.findIdx? (fun f => (f.born : Int) == C.stm a) = some q.A.length := by
              rw [findIdx_list, q.hE, List.findIdx?_append]
              have hA : List.findIdx? (fun f : MapEntry => (f.born : Int) == C.stm a) q.A = none := by
                rw [List.findIdx?_eq_none_iff]
                intro f hf
                rw [hstm, ← hqe]
                have hnd := l3.apart
                rw [q.hE, List.map_append, List.nodup_append] at hnd
                have := hnd.2.2 f.born (List.mem_map_of_mem hf) q.e.born (by simp)
                exact beq_eq_false_iff_ne.2 fun hh => this (Int.ofNat_inj.1 hh)
              rw [hA]
              simp [List.findIdx?_cons, hstm, hqe]
            have harr : (E.modify q.A.length fun f => { f with val := V }) = E.modify q.A.length fun f => { f with key := e.key, val := V } := by
              apply array_ext
              rw [m2, Array.toList_modify, q.hE, modify_mid]
            simp only [Instr.entryStore, Sem.run_bind, run_getMap l2, Result.andThen_ok, asInt, asIntOf, Sem.run_pure, hidx, run_setMap l2, harr]
          · rw [hx] at hx'; cases hx'
        · cases h
      · cases h
    · cases h
  · cases h

theorem sMakeMap_sound (hs : Sim P C w σ) {t kt : TypeId} {u : AV} (h : sMakeMap kt σ = some (u, σ')) : RunsV P C w σ (Instr.makeMap t none) u σ' := by
  unfold sMakeMap at h
  cases h
  have p := pu_push w (.map #[] 0)
  obtain ⟨s1, s2⟩ := hs.new p (.map kt [] 0) rfl (fun e => ⟨w.heap.size, #[], 0, by simp [Ctx.add], p.here, MapRel.empty⟩)
  refine ⟨_, _, _, _, by simp [Instr.makeMap]; rfl, rfl, s1, by rw [nx_new]; exact s2, ?_⟩
  rw [nx_new]; unfold R
  exact ⟨_, rfl, Nat.lt_succ_self _, fun c' o hc => by simp [Ctx.add] at hc; exact hc.1⟩

theorem sMakeMapN_sound (hs : Sim P C w σ) {t kt et : TypeId} {ti : TI} (hti : tiOf P t = some ti) (hd : ti.desc = .map kt et) {x : AV} {X : Value} (hx : R C (nx σ) w x X) {u : AV} (h : sMakeMapN kt x σ = some (u, σ')) : RunsV P C w σ (Instr.makeMap t (some X)) u σ' := by
  obtain ⟨_, d, _, g2, g3, _⟩ := tiOf_spec hti
  have hu := g2.trans (by rw [← g3, hd])
  unfold sMakeMapN at h
  split at h
  · cases h
    unfold R at hx; subst hx
    have p := pu_push w (.map #[] 0)
    obtain ⟨s1, s2⟩ := hs.new p (.map kt [] 0) rfl (fun e => ⟨w.heap.size, #[], 0, by simp [Ctx.add], p.here, MapRel.empty⟩)
    refine ⟨_, _, _, _, by simp [Instr.makeMap, run_underlying' hu, asInt, asIntOf]; rfl, rfl, s1, by rw [nx_new]; exact s2, ?_⟩
    rw [nx_new]; unfold R
    exact ⟨_, rfl, Nat.lt_succ_self _, fun c' o hc => by simp [Ctx.add] at hc; exact hc.1⟩
  · cases h

theorem R.newIt {a c N : Nat} (ha : a < N) (hl : C.loc a = some (c, 0)) : R C N w (.it a) (.pointer (some ⟨c, 0, none⟩)) := by
  unfold R
  exact ⟨c, rfl, ha, fun c' o hc => by rw [hl] at hc; cases hc; rfl⟩

theorem sRange_sound (hs : Sim P C w σ) {t kt et : TypeId} {ti : TI} (hti : tiOf P t = some ti) (hd : ti.desc = .map kt et) {m : AV} {M : Value} (hm : R C (nx σ) w m M) {u : AV} (h : sRange m σ = some (u, σ')) : RunsV P C w σ (Instr.range t M) u σ' := by
  obtain ⟨_, d, _, g2, g3, _⟩ := tiOf_spec hti
  have hu := g2.trans (by rw [← g3, hd])
  unfold sRange at h
  split at h
  · cases h
    unfold R at hm; obtain ⟨rfl, _⟩ := hm
    have p := pu_push w (.mapIter none 0 #[] 0)
    obtain ⟨s1, s2⟩ := hs.new p (.iter none 0 [] none) rfl (fun e => ⟨w.heap.size, 0, #[], 0, by simp [Ctx.add], p.here, rfl⟩)
    refine ⟨_, _, _, _, by simp [Instr.range, run_underlying' hu]; rfl, rfl, s1, by rw [nx_new]; exact s2, ?_⟩
    rw [nx_new]; exact R.newIt (Nat.lt_succ_self _) (Ctx.add_loc ..)
  · rename_i r
    split at h
    · rename_i kt' es ver hg
      cases h
      unfold R at hm
      obtain ⟨c, rfl, hr, hloc⟩ := hm
      obtain ⟨c', E, clock, l1, l2, l3⟩ := hs.obj r _ hg
      have := hloc c' 0 l1; subst this
      have p := pu_push w (.mapIter (some c) clock #[] clock)
      have hlt := hs.lt r c 0 l1
      obtain ⟨s1, s2⟩ := hs.new p (.iter (some r) ver es none) rfl (fun e => by
        refine ⟨by rw [nx_new]; omega, w.heap.size, c, clock, #[], clock, by simp [Ctx.add], p.here, fun kt₁ es₁ v₁ hg₁ => ?_⟩
        rw [Sto.get_new, if_neg (by omega)] at hg₁
        rw [hg] at hg₁; cases hg₁
        refine ⟨Nat.le_refl _, fun _ => ⟨E, by simp only [Ctx.add]; rw [if_neg (by omega)]; exact l1, (p.other c hlt).trans l2, rfl, ?_, fun k v hk => by cases hk⟩⟩
        obtain ⟨L, q1, q2⟩ := l3.perm
        rw [nx_new]
        exact ⟨L, by rw [List.filter_eq_self.2 (by simp)]; exact q1, q2.ext e⟩)
      refine ⟨_, _, _, _, by simp [Instr.range, run_underlying' hu, run_getMap l2]; rfl, rfl, s1, by rw [nx_new]; exact s2, ?_⟩
      rw [nx_new]; exact R.newIt (Nat.lt_succ_self _) (Ctx.add_loc ..)
    · cases h
  · cases h

theorem sEntry_sound (hs : Sim P C w σ) {x : AV} {X : Value} (hx : R C (nx σ) w x X) {u : AV} (h : sEntry x σ = some (u, σ')) : σ' = σ ∧ PureR P C (nx σ) w (Instr.entry X) u := by
  unfold sEntry at h
  split at h
  · rename_i a
    split at h
    · rename_i r ver left k v hga
      split at h
      · rename_i kt es ver' hg
        cases hb : Nat.beq ver ver'
        · simp [hb] at h
        · simp only [hb, cond_true, Option.some.injEq, Prod.mk.injEq] at h
          obtain ⟨rfl, rfl⟩ := h
          have hv := Nat.eq_of_beq_eq_true hb; subst hv
          refine ⟨rfl, ?_⟩
          obtain ⟨_, c, cm, since, seen, last, o1, o2, o3⟩ := hs.obj a _ hga
          obtain ⟨E, l1, l2, hlast, _, hcur⟩ := (o3 kt es ver hg).2 rfl
          obtain ⟨e, he, hback, hk, hv⟩ := hcur k v rfl
          obtain ⟨c', E', clock', l1', l2', l3⟩ := hs.obj r _ hg
          rw [l1] at l1'; cases l1'
          rw [l2] at l2'; cases l2'
          unfold R at hx
          obtain ⟨c2, rfl, _, hloc⟩ := hx
          have := hloc c 0 o1; subst this
          refine ⟨.tuple #[e.key, e.val], ?_, ?_⟩
          · have hfind : E.find? (fun f => f.born == e.born) = some e := by
              cases hf : E.find? (fun f => f.born == e.born) with
              | none =>
                rw [Array.find?_eq_none] at hf
                exact absurd (by simp) (hf e (by simpa using he))
              | some f =>
                have h1 := Array.find?_some hf
                have h2 := Array.mem_of_find?_eq_some hf
                have hfe : f = e := born_eq l3 he (by simpa using h2) (by simpa using h1)
                rw [hfe]
            have hit : (getObj c2).run P w = .ok (.mapIter (some cm) since seen last) w := by simp only [getObj, Sem.run, o2]
            subst hlast
            simp [Instr.entry, hit, hback, run_getMap l2, hfind]
          · unfold R
            refine ⟨_, rfl, ?_⟩
            unfold RL
            refine ⟨KV_R hk (l3.typed e he), ?_⟩
            unfold RL
            exact ⟨hv, by unfold RL; trivial⟩
      · cases h
    · cases h
  · cases h

end
end Go.AM

/- 'next' of a map: sound, one way of many. -/
namespace Go.AM
open Go

section
variable {P : Program} {C C' : Ctx} {N N' : Nat} {w w' : World} {σ σ' : Sto}

theorem picks_mid {α : Type} (x : α) (b : List α) : ∀ a : List α, (x, a ++ b) ∈ picks (a ++ x :: b)
  | [] => by simp [picks]
  | y :: a => by
    have := picks_mid x b a
    simp only [List.cons_append, picks, List.mem_cons, List.mem_map]
    exact .inr ⟨(x, a ++ b), this, rfl⟩

theorem ER.mid : ∀ {l : List (Key × AV)} {A B : List MapEntry} {e : MapEntry}, ER C N w l (A ++ e :: B) → ∃ a x b, l = a ++ x :: b ∧ ER C N w a A ∧ KV x.1 e.key ∧ R C N w x.2 e.val ∧ ER C N w b B
  | [], [], B, e, h => by unfold ER at h; exact h.elim
  | [], _ :: _, B, e, h => by rw [List.cons_append] at h; unfold ER at h; exact h.elim
  | x :: l, [], B, e, h => by
    rw [List.nil_append] at h; unfold ER at h
    exact ⟨[], x, l, rfl, by unfold ER; trivial, h.1.1, h.1.2, h.2⟩
  | x :: l, f :: A, B, e, h => by
    rw [List.cons_append] at h; unfold ER at h
    obtain ⟨a, y, b, h1, h2, h3, h4, h5⟩ := ER.mid h.2
    exact ⟨x :: a, y, b, by simp [h1], by unfold ER; exact ⟨h.1, h2⟩, h3, h4, h5⟩

/- the iterator's object, turned -/
theorem setIter (hs : Sim P C w σ) {a : Nat} {O₀ : AO} (hg : σ.get a = some O₀) {c : Nat} {m₀ : Option Nat} {s₀ l₀ : Nat} {seen₀ : Array Nat} (hl : C.loc a = some (c, 0)) (hh : w.heap[c]? = some (.mapIter m₀ s₀ seen₀ l₀))
    {m₁ : Option Nat} {s₁ l₁ : Nat} {seen₁ : Array Nat} {m : Option Nat} {ver : Nat} {left : List (Key × AV)} {cur : Option (Key × AV)}
    (hO : Ext C (nx σ) w C (nx σ) { w with heap := w.heap.setIfInBounds c (.mapIter m₁ s₁ seen₁ l₁) } → OR P C { w with heap := w.heap.setIfInBounds c (.mapIter m₁ s₁ seen₁ l₁) } (σ.set a (.iter m ver left cur)) a (.iter m ver left cur)) :
    Sim P C { w with heap := w.heap.setIfInBounds c (.mapIter m₁ s₁ seen₁ l₁) } (σ.set a (.iter m ver left cur)) ∧ Ext C (nx σ) w C (nx σ) { w with heap := w.heap.setIfInBounds c (.mapIter m₁ s₁ seen₁ l₁) } := by
  have p := wr_set hh (.mapIter m₁ s₁ seen₁ l₁)
  exact hs.upd hl p (by unfold csize; rw [p.here, hh]) hg _ rfl (fun _ _ _ h => by cases h) hO

theorem setIfInBounds_same {α : Type} {a : Array α} {i : Nat} {x : α} (h : a[i]? = some x) : a.setIfInBounds i x = a := by
  apply Array.ext_getElem?
  intro j
  by_cases hj : i = j
  · subst hj
    have := (Array.getElem?_eq_some_iff.1 h).1
    rw [Array.getElem?_setIfInBounds_self_of_lt this, h]
  · rw [Array.getElem?_setIfInBounds_ne hj]

theorem filter_mid {α : Type} (f : α → Nat) {A B : List α} {e : α} (h : ((A ++ e :: B).map f).Nodup) : (A ++ e :: B).filter (fun x => !(f x == f e)) = A ++ B := by
  rw [List.map_append, List.nodup_append, List.map_cons, List.nodup_cons] at h
  obtain ⟨_, ⟨h2, _⟩, h3⟩ := h
  rw [List.filter_append, List.filter_cons]
  simp only [beq_self_eq_true, Bool.not_true, Bool.false_eq_true, if_false]
  rw [List.filter_eq_self.2, List.filter_eq_self.2]
  · intro x hx
    have : f x ≠ f e := fun hh => h2 (hh ▸ List.mem_map_of_mem hx)
    simpa using this
  · intro x hx
    have : f x ≠ f e := h3 (f x) (List.mem_map_of_mem hx) (f e) (by simp)
    simpa using this

theorem choose_next (w : World) {n : Nat} (h : 0 < n) : ∃ i dr, i < n ∧ (choose (.mapNext n)).run P w = .ok i { w with drawn := dr } := by
  by_cases h1 : n ≤ 1
  · exact ⟨0, w.drawn, h, by simp [choose, Sem.run, Question.forced, h1]⟩
  · exact ⟨w.tape w.drawn (.mapNext n) % n, w.drawn + 1, Nat.mod_lt _ h, by simp [choose, Sem.run, Question.forced, Question.cut, h1]⟩

theorem next_sound (hs : Sim P C w σ) {ty : TypeId} {a : Nat} {X : Value} (hx : R C (nx σ) w (.it a) X) {m : Option Nat} {ver : Nat} {left : List (Key × AV)} {cur : Option (Key × AV)} (hga : σ.get a = some (.iter m ver left cur)) (hv : sameVer σ m ver = true) :
    ∃ y w', (Instr.next X false ty).run P w = .ok y w' ∧ Ext C (nx σ) w C (nx σ) w' ∧
      ((left = [] ∧ Sim P C w' (σ.set a (.iter m ver [] none)) ∧ R C (nx σ) w' (.tup [.bool false]) y) ∨
       (∃ p ∈ picks left, Sim P C w' (σ.set a (.iter m ver p.2 (some p.1))) ∧ R C (nx σ) w' (.tup [.bool true, keyAV p.1.1, p.1.2]) y)) := by
  have hover : ∀ w, R C (nx σ) w (.tup [.bool false]) (.tuple #[.bool false]) := fun w => by
    unfold R; exact ⟨_, rfl, by unfold RL; exact ⟨by unfold R; rfl, by unfold RL; trivial⟩⟩
  unfold R at hx
  obtain ⟨c, rfl, _, hloc⟩ := hx
  cases m with
  | none =>
    obtain ⟨c', since, seen, last, o1, o2, rfl⟩ := hs.obj a _ hga
    have := hloc c' 0 o1; subst this
    have hit : (getObj c).run P w = .ok (.mapIter none since seen last) w := by simp only [getObj, Sem.run, o2]
    obtain ⟨s1, s2⟩ := setIter (m₁ := none) (s₁ := since) (l₁ := last) (seen₁ := seen) (m := none) (ver := ver) (left := []) (cur := none) hs hga o1 o2 (fun _ => ⟨c, since, seen, last, o1, (wr_set o2 _).here, rfl⟩)
    have hw : ({ w with heap := w.heap.setIfInBounds c (.mapIter none since seen last) } : World) = w := by rw [setIfInBounds_same o2]
    rw [hw] at s1 s2
    exact ⟨_, w, by simp [Instr.next, hit], s2, .inl ⟨rfl, s1, hover w⟩⟩
  | some r =>
    obtain ⟨hr, c', cm, since0, seen, since, o1, o2, o3⟩ := hs.obj a _ hga
    have := hloc c' 0 o1; subst this
    unfold sameVer at hv
    simp only at hv
    split at hv
    · rename_i kt es v hg
      have hvv := Nat.eq_of_beq_eq_true hv; subst hvv
      obtain ⟨E, l1, l2, hlast, ⟨L, hp, hL⟩, _⟩ := (o3 kt es v hg).2 rfl
      subst hlast
      obtain ⟨cm', E', clock', l1', l2', l3⟩ := hs.obj r _ hg
      rw [l1] at l1'; cases l1'
      rw [l2] at l2'; cases l2'
      have hit : (getObj c).run P w = .ok (.mapIter (some cm) since seen since) w := by simp only [getObj, Sem.run, o2]
      have hbornF : ∀ e ∈ E, e.born < since := fun e he => l3.born e (by simpa using he)
      -- no refusal
      have hall : (!seen.isEmpty && !E.isEmpty && E.all fun x => decide (x.born ≥ since)) = false := by
        rw [Bool.eq_false_iff]
        intro h
        simp only [Bool.and_eq_true] at h
        obtain ⟨⟨_, h2⟩, h3⟩ := h
        cases hE : E[0]? with
        | none =>
          have : E.size = 0 := by
            rw [Array.getElem?_eq_none_iff] at hE; omega
          simp at h2
          exact h2 (Array.eq_empty_of_size_eq_zero this)
        | some e =>
          have hm : e ∈ E := Array.mem_of_getElem? hE
          rw [Array.all_eq_true_iff_forall_mem] at h3
          have h4 := h3 e hm
          simp only [decide_eq_true_eq] at h4
          have := hbornF e hm; omega
      obtain ⟨F, hFd⟩ : ∃ F, E.filter (fun e => !seen.contains e.born) = F := ⟨_, rfl⟩
      have hF : F.toList = E.toList.filter fun e => !seen.contains e.born := by rw [← hFd]; simp
      have hFE : ∀ e ∈ F, e ∈ E := fun e he => by rw [← hFd] at he; exact (Array.mem_filter.1 he).1
      have hold : (F.filter fun e => decide (e.born < since)) = F := by
        rw [Array.filter_eq_self]; intro e he; simpa using hbornF e (hFE e he)
      have hnew : (F.filter fun e => decide (e.born ≥ since)) = #[] := by
        rw [Array.filter_eq_empty_iff]; intro e he; have := hbornF e (hFE e he); simp; omega
      have hgo : ∃ y w', (Instr.next (.pointer (some ⟨c, 0, none⟩)) false ty).run P w = .ok y w' ∧
          ((F = #[] ∧ y = .tuple #[.bool false] ∧ w' = w) ∨ ∃ e dr, e ∈ F.toList ∧ y = .tuple #[.bool true, e.key, e.val] ∧ w' = { w with drawn := dr, heap := w.heap.setIfInBounds c (.mapIter (some cm) since (seen.push e.born) since) }) := by
        have hset : ∀ (dr : Nat) (O : Obj), (setObj c O).run P { w with drawn := dr } = .ok () { w with drawn := dr, heap := w.heap.setIfInBounds c O } := fun dr O => by
          simp only [setObj, Sem.run, o2]
        by_cases h0 : F = #[]
        · refine ⟨.tuple #[.bool false], w, ?_, .inl ⟨h0, rfl, rfl⟩⟩
          subst h0
          simp only [Instr.next, Sem.run_bind, hit, Result.andThen_ok, run_getMap l2, hall, Bool.false_eq_true, if_false, hFd]
          simp [Question.forced]
        · simp only [Instr.next, Sem.run_bind, hit, Result.andThen_ok, run_getMap l2, hall, Bool.false_eq_true, if_false, hFd, hold, hnew]
          have hemp : F.isEmpty = false := by rw [Bool.eq_false_iff]; intro h; exact h0 (by simpa using h)
          have hK : ((if F.isEmpty = true then #[none] else #[]) ++ Array.map some (F ++ #[])) = F.map some := by rw [hemp]; simp
          rw [hK]
          have hpos : 0 < (F.map some).size := by
            simp only [Array.size_map]
            rcases Nat.eq_zero_or_pos F.size with h1 | h1
            · exact absurd (Array.eq_empty_of_size_eq_zero h1) h0
            · exact h1
          obtain ⟨i, dr, hi, hch⟩ := choose_next (P := P) w hpos
          rw [hch]
          simp only [Array.size_map] at hi
          have hget : (F.map some)[i]? = some (some F[i]) := by simp [hi]
          simp only [Result.andThen_ok, hget, Sem.run_bind, hset, Sem.run_pure]
          exact ⟨_, _, rfl, .inr ⟨F[i], dr, by simp, rfl, rfl⟩⟩
      obtain ⟨y, w', hrun, hcase⟩ := hgo
      refine ⟨y, w', hrun, ?_⟩
      rcases hcase with ⟨h0, rfl, rfl⟩ | ⟨e, dr, he, rfl, rfl⟩
      · rw [← hF, h0] at hp
        have hL0 : L = [] := by simpa using hp
        subst hL0
        have hl0 : left = [] := List.eq_nil_of_length_eq_zero (by rw [hL.length]; rfl)
        subst hl0
        have hra : r ≠ a := fun hh => by rw [hh, hga] at hg; cases hg
        obtain ⟨s1, s2⟩ := setIter (m₁ := some cm) (s₁ := since) (l₁ := since) (seen₁ := seen) (m := some r) (ver := v) (left := []) (cur := none) hs hga o1 o2 (fun ex => by
          refine ⟨by rw [nx_set]; exact hr, c, cm, since, seen, since, o1, (wr_set o2 _).here, fun kt₁ es₁ v₁ hg₁ => ?_⟩
          rw [Sto.get_set, if_neg hra, hg] at hg₁; cases hg₁
          refine ⟨Nat.le_refl _, fun _ => ⟨E, l1, ?_, rfl, ⟨[], by rw [← hF, h0], by unfold ER; trivial⟩, fun k v hk => by cases hk⟩⟩
          rw [(wr_set o2 _).other cm (fun hh => by rw [hh, o2] at l2; cases l2)]; exact l2)
        have hw : ({ w' with heap := w'.heap.setIfInBounds c (.mapIter (some cm) since seen since) } : World) = w' := by rw [setIfInBounds_same o2]
        rw [hw] at s1 s2
        exact ⟨s2, .inl ⟨rfl, s1, hover w'⟩⟩
      · have heL : e ∈ L := hp.symm.subset (by rw [← hF]; exact he)
        obtain ⟨A, B, hLs⟩ := List.append_of_mem heL
        have hL' := hL
        rw [hLs] at hL'
        obtain ⟨la, x, lb, hleft, ea, hk, hv', eb⟩ := hL'.mid
        obtain ⟨F1, F2, hFs⟩ := List.append_of_mem he
        have heE : e ∈ E.toList := by have := hFE e (by simpa using he); simpa using this
        have hra : r ≠ a := fun hh => by rw [hh, hga] at hg; cases hg
        obtain ⟨t1, t2⟩ := hs.same (w' := { w with drawn := dr }) (Nat.le_refl _) (fun _ _ => rfl) ⟨rfl, rfl⟩
        obtain ⟨s1, s2⟩ := setIter (m₁ := some cm) (s₁ := since) (l₁ := since) (seen₁ := seen.push e.born) (m := some r) (ver := v) (left := la ++ lb) (cur := some x) t1 hga o1 o2 (fun ex => by
          have ex2 := t2.trans ex
          refine ⟨by rw [nx_set]; exact hr, c, cm, since, seen.push e.born, since, o1, (wr_set (w := { w with drawn := dr }) o2 _).here, fun kt₁ es₁ v₁ hg₁ => ?_⟩
          rw [Sto.get_set, if_neg hra, hg] at hg₁; cases hg₁
          refine ⟨Nat.le_refl _, fun _ => ⟨E, l1, ?_, rfl, ⟨A ++ B, ?_, ?_⟩, fun k y hky => ?_⟩⟩
          · rw [(wr_set (w := { w with drawn := dr }) o2 _).other cm (fun hh => by rw [hh, o2] at l2; cases l2)]; exact l2
          · have hfil : (E.toList.filter fun f => !(seen.push e.born).contains f.born) = F1 ++ F2 := by
              have h1 : (E.toList.filter fun f => !(seen.push e.born).contains f.born) = F.toList.filter fun f => !(f.born == e.born) := by
                rw [hF, List.filter_filter]
                congr 1
                funext f
                by_cases hh : f.born = e.born <;> simp [Array.contains_push, hh]
              rw [h1, hFs]
              refine filter_mid _ ?_
              rw [← hFs, hF]
              exact (List.filter_sublist.map _).nodup l3.apart
            rw [hfil]
            have hp2 := hp
            rw [← hF, hLs, hFs] at hp2
            exact (List.perm_middle.symm.trans (hp2.trans List.perm_middle)).cons_inv
          · rw [nx_set]; exact (ea.append eb).ext ex2
          · cases hky
            exact ⟨e, heE, by simp, hk, by rw [nx_set]; exact R.ext ex2 _ _ hv'⟩)
        refine ⟨t2.trans s2, .inr ⟨(x, la ++ lb), by rw [hleft]; exact picks_mid x lb la, s1, ?_⟩⟩
        have ex2 := t2.trans s2
        unfold R
        refine ⟨_, rfl, ?_⟩
        unfold RL
        refine ⟨by unfold R; rfl, ?_⟩
        unfold RL
        refine ⟨KV_R hk (l3.typed e heE), ?_⟩
        unfold RL
        exact ⟨R.ext ex2 _ _ hv', by unfold RL; trivial⟩
    · cases hv

end
end Go.AM
