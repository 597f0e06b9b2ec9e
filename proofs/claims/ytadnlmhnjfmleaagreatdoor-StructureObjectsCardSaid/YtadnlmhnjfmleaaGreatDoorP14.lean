/- A part of the proof; shortened by program. -/
import Derived.Test.YtadnlmhnjfmleaaGreatDoorP13
set_option maxRecDepth 100000
set_option maxHeartbeats 4000000
set_option linter.unusedSimpArgs false
set_option linter.unusedVariables false
namespace Go.AM
open Go
theorem D8 {a b : Nat} {x y : List Nat} : Cq (a :: x) (b :: y) = true ↔ a < b ∨ (a = b /\ Cq x y = true) := by
  simp only [Cq];cases h : Nat.blt a b with
  | true => simp only [cond_true,true_iff]; exact .inl (by simpa [Nat.blt_eq] using h)
  | false =>
    have h' : ¬ a < b := fun hh => by rw [show Nat.blt a b = true from by rw [Nat.blt_eq]; exact hh] at h; cases h
    cases h2 : Nat.beq a b with
    | true => have := aa_ h2; subst this; simp
    | false => have : a ≠ b := fun hh => by subst hh; rw [bm_] at h2; cases h2
               simp only [cond_false,bf_,false_iff]; rintro (hh | ⟨hh,_⟩) <;> contradiction
theorem Z9 : ∀ a : List Nat,Cq a a = false
  | [] => rfl
  | x :: a => by
    cases h : Cq (x :: a) (x :: a) with
    | false => rfl
    | true => rcases D8.1 h with h | ⟨_,h⟩
              · omega
              · rw [Z9 a] at h; cases h
theorem Uf : ∀ {a b c : List Nat},Cq a b = true -> Cq b c = true -> Cq a c = true
 | a,b,[],_,h2 => by cases b <;> simp [Cq] at h2
 | a,[],c :: z,h1,_ => by cases a <;> simp [Cq] at h1
 | [],_ :: _,_ :: _,_,_ => rfl
 | a :: x,b :: y,c :: z,h1,h2 => by
  rcases D8.1 h1 with g1 | ⟨g0,g1⟩ <;> rcases D8.1 h2 with g2 | ⟨g3,g2⟩
  ·exact D8.2 (.inl Om)
  ·exact D8.2 (.inl Om)
  ·exact D8.2 (.inl Om)
  ·exact D8.2 (.inr ⟨by omega,Uf g1 g2⟩)
theorem Aaa : ∀ {a b : List Nat},Cq a b = false -> Cq b a = false -> a = b
 | [],[],_,_ => rfl
 | [],_ :: _,h,_ => by simp [Cq] at h
 | _ :: _,[],_,h => by simp [Cq] at h
 | a :: x,b :: y,h1,h2 => by
  have g1 : ¬ (a < b ∨ (a = b /\ Cq x y = true)) := fun hh => by rw [D8.2 hh] at h1; cases h1
  have g2 : ¬ (b < a ∨ (b = a /\ Cq y x = true)) := fun hh => by rw [D8.2 hh] at h2; cases h2
  have e : a = b := by omega
  subst e;rw [Aaa (bw_.2 fun hh => g1 (.inr ⟨rfl,hh⟩)) (bw_.2 fun hh => g2 (.inr ⟨rfl,hh⟩))]
theorem Asd (a b : Str) : Key.lt (kS a) (kS b) = ltS a b := rfl
theorem Afa (a : Str) : ltS a a = false := Z9 _
theorem Acx {a b c : Str} (h : ltS a b = true) (k : ltS b c = true) : ltS a c = true := Uf h k
theorem Ak2 {a b : Str} (h : ltS a b = false) (k : ltS b a = false) : a = b := Ev.1 (Aaa h k)
section
variable {α : Type}
def SM.Srt (m : SM α) : Prop := m.Pairwise fun p q => ltS p.1 q.1 = true
theorem SM.Srt.nil : SM.Srt ([] : SM α) := List.Pairwise.nil
theorem SM.get_none_of {m : SM α} {s : Str} (h : ∀ p ∈ m,p.1 ≠ s) : m.get s = none := by
 induction m with
 | nil => rfl
 | cons p m ih =>
  obtain ⟨k,v⟩ := p;simp only [SM.get];rw [if_neg (fun hh => h (k,v) (bn_ ..) hh.symm)]
  exact ih fun q hq => h q (am_ _ hq)
theorem SM.Srt.head {k : Str} {v : α} {m : SM α} (h : SM.Srt ((k,v) :: m)) {s : Str} (hs : ltS k s = false) (hne : s ≠ k) : SM.get ((k,v) :: m) s = none := by
 refine SM.get_none_of fun p hp hh => ?_
 rcases ai_.1 hp with rfl | hp
 ·exact hne hh.symm
 ·have := (bs_.1 h).1 p hp;rw [hh] at this; rw [this] at hs; cases hs
theorem SM.Srt.ext : ∀ {m n : SM α},SM.Srt m -> SM.Srt n -> (∀ s,m.get s = n.get s) -> m = n
 | [],[],_,_,_ => rfl
 | [],(k,v) :: n,_,_,h => by have := h k; simp [SM.get] at this
 | (k,v) :: m,[],_,_,h => by have := h k; simp [SM.get] at this
 | (k,v) :: m,(k',v') :: n,hm,hn,h => by
  have e : k = k' := by
   by_cases hk : k = k'
   ·exact hk
   ·cases h1 : ltS k k' with
    | false =>
     cases h2 : ltS k' k with
     | false => exact Ak2 h1 h2
     | true =>
      have := h k'; rw [hm.head h1 (go_ hk)] at this
      simp [SM.get] at this
    | true =>
     have h2 : ltS k' k = false := bw_.2 fun hh => by have := Acx h1 hh; rw [Afa] at this; cases this
     have := h k; rw [hn.head h2 hk] at this
     simp [SM.get] at this
  subst e
  have e2 : v = v' := by have := h k; simpa [SM.get] using this
  subst e2
  have := SM.Srt.ext (bs_.1 hm).2 (bs_.1 hn).2 fun s => by
   by_cases hs : s = k
   ·subst hs
    have g : ∀ {q : SM α},SM.Srt ((s,v) :: q) -> q.get s = none := fun hq => SM.get_none_of fun p hp hh => by
     have := (bs_.1 hq).1 p hp; rw [hh,Afa] at this; cases this
    rw [g hm,g hn]
   ·have := h s; simp only [SM.get,if_neg hs] at this; exact this
  rw [this]
theorem SM.Srt.set : ∀ {m : SM α} {s : Str} {x : α},SM.Srt m -> SM.Srt (m.set s x)
 | [],_,_,_ => List.Pairwise.nil
 | (k,v) :: m,s,x,h => by
  have mem : ∀ {m : SM α} {p : Str × α},p ∈ m.set s x -> ∃ q ∈ m,q.1 = p.1 := by
   intro m
   induction m with
   | nil => intro p hp; cases hp
   | cons r m ih =>
    intro p hp;obtain ⟨k,v⟩ := r;simp only [SM.set] at hp
    split at hp
    ·rcases ai_.1 hp with rfl | hp
     ·exact ⟨_,bn_ ..,rfl⟩
     ·exact ⟨p,am_ _ hp,rfl⟩
    ·rcases ai_.1 hp with rfl | hp
     ·exact ⟨_,bn_ ..,rfl⟩
     ·obtain ⟨q,h1,h2⟩ := ih hp; exact ⟨q,am_ _ h1,h2⟩
  simp only [SM.set]
  split
  ·exact bs_.2 ⟨fun p hp => (bs_.1 h).1 p hp,(bs_.1 h).2⟩
  ·refine bs_.2 ⟨fun p hp => ?_,SM.Srt.set (bs_.1 h).2⟩
   obtain ⟨q,h1,h2⟩ := mem hp;rw [← h2]; exact (bs_.1 h).1 q h1
theorem SM.Srt.ins : ∀ {m : SM α} {s : Str} {x : α},SM.Srt m -> m.get s = none -> SM.Srt (m.ins s x)
 | [],_,_,_,_ => List.pairwise_singleton _ _
 | (k,v) :: m,s,x,h,hn => by
  have mem : ∀ {m : SM α} {p : Str × α},p ∈ m.ins s x -> p = (s,x) ∨ p ∈ m := by
   intro m
   induction m with
   | nil => intro p hp; exact .inl (an_.1 hp)
   | cons r m ih =>
    intro p hp;obtain ⟨k,v⟩ := r;simp only [SM.ins] at hp
    split at hp
    ·rcases ai_.1 hp with rfl | hp
     ·exact .inl rfl
     ·exact .inr hp
    ·rcases ai_.1 hp with rfl | hp
     ·exact .inr (bn_ ..)
     ·exact (ih hp).imp id (am_ _)
  have hne : s ≠ k := fun hh => by subst hh; simp [SM.get] at hn
  cases hl : ltS s k with
  | true =>
   have e : SM.ins ((k,v) :: m) s x = (s,x) :: (k,v) :: m := by simp only [SM.ins,Asd,hl,if_true]
   rw [e];refine bs_.2 ⟨fun p hp => ?_,h⟩
   rcases ai_.1 hp with rfl | hp
   ·exact hl
   ·exact Acx hl ((bs_.1 h).1 p hp)
  | false =>
   have e : SM.ins ((k,v) :: m) s x = (k,v) :: SM.ins m s x := by simp [SM.ins,Asd,hl]
   rw [e]
   have hk : ltS k s = true := by
    cases hh : ltS k s with
    | true => rfl
    | false => exact absurd (Ak2 hl hh) hne
   refine bs_.2 ⟨fun p hp => ?_,SM.Srt.ins (bs_.1 h).2 (by simpa [SM.get,hne] using hn)⟩
   rcases mem hp with rfl | hp
   ·exact hk
   ·exact (bs_.1 h).1 p hp
theorem SM.Srt.put {m : SM α} {s : Str} {x : α} (h : SM.Srt m) : SM.Srt (m.put s x) := by
 unfold SM.put
 split
 ·exact h.set
 ·rename_i hn; exact h.ins hn
def SM.over (n m : SM α) : SM α := n.foldl (fun m p => m.put p.1 p.2) m
theorem SM.Srt.over : ∀ {n m : SM α},SM.Srt m -> SM.Srt (SM.over n m)
 | [],_,h => h
 | p :: n,m,h => SM.Srt.over (n := n) (m := m.put p.1 p.2) h.put
def SM.Key1 (m : SM α) : Prop := m.Pairwise fun p q => p.1 ≠ q.1
theorem SM.Srt.key1 {m : SM α} (h : SM.Srt m) : SM.Key1 m := h.imp fun {p q} hh => fun e => by rw [e,Afa] at hh; cases hh
theorem SM.get_over : ∀ {n m : SM α} {s : Str},SM.Key1 n -> (SM.over n m).get s = (n.get s).or (m.get s)
 | [],_,_,_ => by simp [SM.over,SM.get]
 | (k,v) :: n,m,s,h => by
  have ih := SM.get_over (n := n) (m := m.put k v) (s := s) (bs_.1 h).2
  show (SM.over n (m.put k v)).get s = _
  rw [ih,cc_];simp only [SM.get]
  by_cases hs : s = k
  ·subst hs;rw [SM.get_none_of fun p hp hh => (bs_.1 h).1 p hp hh.symm]; simp
  ·simp [hs]
theorem Aab : ∀ {m : SM α} {p : (Str × α) × SM α},SM.Key1 m -> p ∈ Fm m -> SM.Key1 p.2 /\ p.2.get p.1.1 = none /\ ∀ s,m.get s = if s = p.1.1 then some p.1.2 else p.2.get s
 | [],p,_,h => by simp [Fm] at h
 | (k,v) :: m,p,hk,h => by
  simp only [Fm,ai_,cf_] at h;obtain ⟨h1,h2⟩ := bs_.1 hk
  rcases h with rfl | ⟨q,hq,rfl⟩
  ·exact ⟨h2,SM.get_none_of fun p hp hh => h1 p hp hh.symm,fun s => rfl⟩
  ·obtain ⟨g1,g2,g3⟩ := Aab h2 hq;obtain ⟨m1,m2,_⟩ := Qu hq;have hne : k ≠ q.1.1 := h1 q.1 m1;refine ⟨bs_.2 ⟨fun p hp => h1 p ((m2 p).2 (.inr hp)),g1⟩,?_,fun s => ?_⟩
   ·simp only [SM.get]; rw [if_neg (go_ hne)]; exact g2
   ·simp only [SM.get,g3 s]
    by_cases hs : s = k
    ·subst hs; simp [hne]
    ·simp [hs]
end
end Go.AM
namespace Go.AM
open Go
def ItV (J : Sto) : Prop := ∀ c r ver left cur,J.get c = some (.iter (some r) ver left cur) -> ∀ kt es ver',J.get r = some (.map kt es ver') -> ver <= ver'
theorem Sim.itv {P : Program} {C : Ctx} {w : World} {J : Sto} (h : Sim P C w J) : ItV J := fun c r ver left cur hg kt es ver' hr => by
 have ho := h.obj c _ hg;obtain ⟨_,_,_,_,_,_,_,_,k3⟩ := ho;exact (k3 _ _ _ hr).1
theorem T_itv {E : Env} {nt B : Nat} {df : List (Nat × List AV)} {Q : Cz} {ρ : Ad} {J : Sto} {c : Code} (h : ItV J -> T E nt df B c Q ρ J) : T E nt df B c Q ρ J := fun ro n hn C w tm a ht st hB => h st.sim.itv ro n hn C w tm a ht st hB
theorem WFS.setMap {J : Sto} (hw : WFS J) (hi : ItV J) {r kt ver ver' : Nat} {es es' : List (Key × AV)} (hm : J.get r = some (.map kt es ver)) (hu : H9 (nx J) es' = true) (hv : ver < ver' ∨ (ver' = ver /\ es' = es)) : WFS (J.set r (.map kt es' ver')) := by
 intro a O hg;rw [a_] at hg;rw [Ae]
 split at hg
 ·rename_i ha; cases hg; subst ha; exact ⟨(hw _ _ hm).1,hu,trivial⟩
 ·obtain ⟨h1,h2,h3⟩ := hw a O hg;refine ⟨h1,h2,?_⟩;cases O with
  | iter m v left cur =>
   cases m with
   | none => trivial
   | some q =>
    intro kt2 es2 hr;rw [a_] at hr
    split at hr
    ·rename_i hq
     subst hq
     rcases hv with hv | ⟨rfl,rfl⟩
     ·have := hi a q v left cur hg _ _ _ hm;cases hr; omega
     ·cases hr; rw [Ae]; exact h3 _ _ hm
    ·rw [Ae]; exact h3 _ _ hr
  | cells _ => trivial
  | map _ _ _ => trivial
  | stamp _ _ _ => trivial
  | loop _ => trivial
theorem Hl.setMap {J τ : Sto} (hw : WFS J) (hi : ItV J) {r kt ver ver' : Nat} {es es' : List (Key × AV)} (hm : J.get r = some (.map kt es ver)) (hu : H9 (nx J) es' = true) (hv : ver < ver' ∨ (ver' = ver /\ es' = es))
  (hn : nx J <= nx τ) (hg : ∀ c,c < nx J -> c ≠ r -> τ.get c = J.get c) (hr : τ.get r = some (.map kt es' ver')) : Hl τ (J.set r (.map kt es' ver')) := by
 refine ag_ (hw.setMap hi hm hu hv) (by rw [Ae]; exact hn) fun c hc => ?_
 rw [Ae] at hc;rw [a_]
 split
 ·rename_i h; subst h; exact hr
 ·rename_i h; exact hg c hc (by intro hh; exact h Om)
theorem Afb (s : Str) : Key.eq (kS s) (kS s) = true := by rw [Acq]; simp
theorem Acy {k : Key} (hk : Key.eq k k = true) {v z : AV} : ∀ {es : List (Key × AV)},Dl k es = none -> Q7 k v (Ov k z es) = Ov k v es
 | [],_ => by
  simp only [Ov,Q7,hk,cond_true]
 | (k',v') :: r,h => by
  simp only [Dl] at h;cases h1 : Key.eq k k' with
  | true => rw [h1] at h; cases h
  | false =>
   rw [h1] at h;simp only [Ov];cases h2 : Key.lt k k' with
   | true => simp only [cond_true,Q7,hk]
   | false => simp only [cond_false,Q7,h1]; rw [Acy hk h]
section
variable {E : Env} {ρ : Ad} {J : Sto} {Rr : Rec} {t ty n r a : Nat} {x y w : Operand} {α : Type} {enc : α -> AV} {m : SM α} {s : Str}
def Sj (enc : α -> AV) (z : AV) (m : SM α) (s : Str) : List (Key × AV) := match m.get s with | some _ => B1 enc m | none => Ov (kS s) z (B1 enc m)
theorem Ag8 {z : AV} {sz ver : Nat} {agg : Bool} (h9 : Fb E.P 9 = true) (hi : mpI E.P t = some (9,z,sz,agg)) (hx : Ai E ρ x = some (.mp r)) (hm : J.get r = some (.map 9 (B1 enc m) ver)) (hy : Ai E ρ y = some (sV s)) :
  A0 E Rr (.mapEntry t x y) ρ J (.tup [((m.get s).map enc).getD z,.stp (nx J)]) ((J.set r (.map 9 (Sj enc z m s) (ver + 1))).new (.stamp r (ver + 1) (kS s))) := fun tm h => by
 obtain ⟨ti,et,te,h1,h2,h3,h4,h5,h6⟩ := Zk hi;simp only [opA,Ar,h1,h2,h3,h4,h.opd hx,h.opd hy,keyS h9,Qa,hm,bm_,Ag,Hm,Sj];cases m.get s <;> rfl
theorem Aby {z : AV} {sz ver : Nat} {agg : Bool} {v : α} (hi : mpI E.P t = some (9,z,sz,agg)) (hx : Ai E ρ x = some (.mp r)) (hy : Ai E ρ y = some (.stp a)) (hw : Ai E ρ w = some (enc v)) (hf : ∀ te : TI,te.size = sz -> te.isAgg = agg -> Q6 te (enc v) = true)
  (ha : J.get a = some (.stamp r ver (kS s))) (hm : J.get r = some (.map 9 (Sj enc z m s) ver)) : A0 E Rr (.entryStore t x y w) ρ J An (J.set r (.map 9 (B1 enc (m.put s v)) (ver + 1))) := fun tm h => by
 obtain ⟨ti,et,te,h1,h2,h3,h4,h5,h6⟩ := Zk hi
 have e1 : ∃ u,Dl (kS s) (Sj enc z m s) = some u := by
  unfold Sj
  split
  ·rename_i u hu; rw [Hm,hu]; exact ⟨_,rfl⟩
  ·rename_i hu
   have : ∀ es,Dl (kS s) (Ov (kS s) z es) = some z ∨ ∃ u,Dl (kS s) es = some u := by
    intro es
    induction es with
    | nil => left; simp [Ov,Dl,Afb]
    | cons p r ih =>
     obtain ⟨k',v'⟩ := p;simp only [Ov];cases h2 : Key.lt (kS s) k' with
     | true => left; simp [Dl,Afb]
     | false =>
      simp only [cond_false,Dl];cases h1 : Key.eq (kS s) k' with
      | true => exact .inr ⟨v',rfl⟩
      | false => exact ih
   rcases this (B1 enc m) with h | ⟨u,h⟩
   ·exact ⟨_,h⟩
   ·rw [Hm,hu] at h; cases h
 have e2 : Q7 (kS s) (enc v) (Sj enc z m s) = B1 enc (m.put s v) := by
  unfold Sj SM.put
  split
  ·rename_i u hu; rw [Zz]; try rw [hu]
  ·rename_i hu; rw [Acy (Afb s) (by rw [Hm,hu]; rfl),Z0]; try rw [hu]
 obtain ⟨u,e1⟩ := e1;simp only [opA,Ar,h1,h2,h3,h.opd hx,h.opd hy,h.opd hw,K2,ha,hm,bm_,hf te h5 h6,cy_,Ag,e1,e2]
theorem Ag9 {parts : Array (Nat × Operand)} {z cs : List AV} {sz len : Nat} {agg : Bool} {ps : List (Nat × Nat × AV)} (hz : (match Aw E.P t with | some ti => ti.zero | none => none) = some z) (hi : arI E.P t = some (len,sz,agg))
  (hp : Vr E ρ sz parts.toList = some ps) (hf : S0 z ps = some cs) : A0 E Rr (.build t parts) ρ J (.agg cs) J := fun tm h => by
 unfold arI at hi
 split at hi
 ·rename_i ti hti
  rw [hti] at hz;simp only at hz
  split at hi
  ·rename_i nn e he
   split at hi
   ·rename_i te hte
    simp only [ac_,ax_] at hi;obtain ⟨k1,k2,k3⟩ := hi;subst k1 k2;simp only [opA,Ar,hti,hz,he,hte,Zv h hp,Lk,hf]
   ·cases hi
  ·cases hi
 ·cases hi
theorem Amp {sz m : Nat} {agg : Bool} {k : IntKind} {cs : List AV} {v : AV} (hi : arI E.P t = some (m,sz,agg)) (hx : Ai E ρ x = some (.agg cs)) (hy : Ai E ρ y = some (.int k (.ofNat n)))
  (hn : n < m) (hv : Be sz agg (cs.drop (n * sz)) = some v) : A0 E Rr (.index t x y) ρ J v J := fun tm h => by
 unfold arI at hi
 split at hi
 ·rename_i ti hti
  split at hi
  ·rename_i nn e he
   split at hi
   ·rename_i te hte
    simp only [ac_,ax_] at hi;obtain ⟨k1,k2,k3⟩ := hi;subst k1 k2 k3
    have hb : Nat.blt n nn = true := by simpa using hn
    simp only [opA,Ar,hti,he,hte,h.opd hx,h.opd hy,Ju,hb,cond_true,Iz,hv]
   ·cases hi
  ·cases hi
 ·cases hi
end
section
variable {E : Env} {nt B : Nat} {Q Q' : Cz} {ρ ρ' : Ad} {J J' : Sto}
def TRd (E : Env) (nt B : Nat) (c : Code) (Q : Cz) (ρ : Ad) (J : Sto) : Prop :=
 ∀ (l₀ n : Nat) (C : Ctx) (w : World) (tm : Tr AV) (a : Act),Has tm ρ -> SSt E C w ⟨tm,nt,[],J⟩ a -> B <= nx J -> c.wpIn (B8 (some l₀)) n E.P (Km E nt [] B Q C w) a w
theorem Aos (h : Q .normal ρ J) : TRd E nt B .skip Q ρ J := fun l₀ n C w tm a ht st hB => wpIn_skip ⟨.normal,tm,ρ,J,C,rfl,ht,h,st,hB,bz_ _ _ _⟩
theorem Arh {x y : Code} (h : TRd E nt B x (Rj (TRd E nt B y Q) Q) ρ J) : TRd E nt B (.seq x y) Q ρ J := by
 intro l₀ n C w tm a ht st hB;refine wpIn_seq (wpIn_mono (h l₀ n C w tm a ht st hB) fun e a' w' he => ?_)
 obtain ⟨x',tm',ρ',J',C',h1,h2,h3,h4,hB',h5⟩ := he;subst h1;cases x' with
 | normal => exact wpIn_mono (h3 l₀ n C' w' tm' a' h2 h4 hB') fun e a'' w'' he => he.from h5
 | exit id => exact ⟨.exit id,tm',ρ',J',C',rfl,h2,h3,h4,hB',h5⟩
 | ret => exact ⟨.ret,tm',ρ',J',C',rfl,h2,h3,h4,hB',h5⟩
theorem Aot {c : Operand} {x y : Code} {b : Bool} (hc : Ai E ρ c = some (.bool b)) (h1 : b = true -> TRd E nt B x Q ρ J) (h2 : b = false -> TRd E nt B y Q ρ J) : TRd E nt B (.cond c x y) Q ρ J := by
 intro l₀ n C w tm a ht st hB;have hv := Bc st.glob st.tmps c;rw [ht.opd hc] at hv;unfold R at hv;cases b with
 | true => exact wpIn_cond_true hv (h1 rfl l₀ n C w tm a ht st hB)
 | false => exact wpIn_cond_false hv (h2 rfl l₀ n C w tm a ht st hB)
theorem Acz {id : Nat} {c : Code} (h : TRd E nt B c (Vn id Q) ρ J) : TRd E nt B (.block id c) Q ρ J := by
 intro l₀ n C w tm a ht st hB;refine wpIn_block (wpIn_mono (h l₀ n C w tm a ht st hB) fun e a' w' he => ?_)
 obtain ⟨x',tm',ρ',J',C',h1,h2,h3,h4,hB',h5⟩ := he;subst h1;cases x' with
 | normal => exact ⟨.normal,tm',ρ',J',C',rfl,h2,h3,h4,hB',h5⟩
 | ret => exact ⟨.ret,tm',ρ',J',C',rfl,h2,h3,h4,hB',h5⟩
 | exit j =>
  simp only [Vn] at h3
  by_cases hj : j = id
  ·subst hj;rw [bm_] at h3;simp only [Kh,Exit.inBlock,if_true];exact ⟨.normal,tm',ρ',J',C',rfl,h2,h3,h4,hB',h5⟩
  ·have hb : Nat.beq j id = false := by cases hb : Nat.beq j id with | true => exact absurd (aa_ hb) hj | false => rfl
   rw [hb] at h3;simp only [Kh,Exit.inBlock,if_neg hj];exact ⟨.exit j,tm',ρ',J',C',rfl,h2,h3,h4,hB',h5⟩
theorem Ks {id : Nat} {ops : Array Oper} (hn : E4 ops.toList = true) (h : TO E nt [] B ops.toList ops.toList (fun ρ J => Q .normal ρ J) ρ J) : TRd E nt B (.region id ops false) Q ρ J :=
 fun l₀ n => C7 h (some l₀) n (.inr hn)
end
def YTo (E : Env) (L : RF) (args : List AV) (J : Sto) (Post : Sto -> Prop) : Prop :=
 ∀ (C : Ctx) (w : World) (vs : Array Value),Fj L C (nx J) w -> Sim E.P C w J -> Fo C (nx J) w E -> RL C (nx J) w args vs.toList ->
  ∃ r,w.heap[(C.stm L.aY).toNat]? = some (.loop (C5 r .ready)) /\ vs.size = r.params.size /\ ∀ n,RoundIn Fence.wide n E.P (C.stm L.aY).toNat r.fn ((r.params.zip vs).foldl (fun tmps (t,a) => tmps.setIfInBounds t a) r.tmps) r.assign r.body w fun e w' =>
   e = .returned (.bool true) /\ ∃ C' J',Post J' /\ Sim E.P C' w' J' /\ Ext C (nx J) w C' (nx J') w'
def Aou : List Nat -> List AV -> Ad -> Ad
 | p :: ps,x :: xs,ρ => Aou ps xs ((p,x) :: ρ)
 | _,_,ρ => ρ
theorem W8 {C : Ctx} {N : Nat} {w : World} {nt : Nat} : ∀ {ps : List Nat} {args : List AV} {vs : List Value} {tm : Tr AV} {ρ : Ad} {tmps : Array Value},args.length = ps.length -> ps.all (fun p => Nat.blt p nt) = true -> Has tm ρ -> TR C N w tm tmps -> tmps.size = nt -> RL C N w args vs ->
  vs.length = ps.length /\ ∃ tm',Has tm' (Aou ps args ρ) /\ TR C N w tm' ((ps.zip vs).foldl (fun tmps (t,a) => tmps.setIfInBounds t a) tmps) /\ ((ps.zip vs).foldl (fun tmps (t,a) => tmps.setIfInBounds t a) tmps).size = nt
 | [],[],[],tm,ρ,tmps,_,_,ht,hT,hs,_ => ⟨rfl,tm,ht,hT,hs⟩
 | [],[],_ :: _,_,_,_,_,_,_,_,_,h => by unfold RL at h; exact h.elim
 | [],_ :: _,_,_,_,_,h,_,_,_,_,_ => by cases h
 | _ :: _,[],_,_,_,_,h,_,_,_,_,_ => by cases h
 | _ :: _,_ :: _,[],_,_,_,_,_,_,_,_,h => by unfold RL at h; exact h.elim
 | p :: ps,x :: xs,v :: vs,tm,ρ,tmps,hl,hb,ht,hT,hs,hr => by
  unfold RL at hr;simp only [dg_,ae_] at hb;obtain ⟨tm1,h1,h2⟩ := C8 (nt := nt) (dst := some p) hb.1 ht x;obtain ⟨k1,k2,_⟩ := TR.put (a := { tmps := tmps,defers := [] }) hT hs h1 hr.1
  have jc : (({ tmps := tmps,defers := [] } : Act).put (some p) v).tmps = tmps.setIfInBounds p v := by simp [Act.put]
  rw [jc] at k1 k2
  obtain ⟨q1,tm',q2,q3,q4⟩ := W8 (by simpa using hl) hb.2 h2 k1 k2 hr.2
  exact ⟨by simp [q1],tm',q2,q3,q4⟩
theorem Aov {E : Env} {L : RF} {ρL : Ad} {args : List AV} {J : Sto} {Post : Sto -> Prop} (hL : Has L.tm ρL) (hl : args.length = L.ps.toList.length) (hps : L.ps.toList.all (fun p => Nat.blt p L.nt) = true) (hrd : J.get L.aY = some (.loop .ready)) (hY0 : L.aY < nx J)
  (h : TRd E L.nt (nx J) L.assign (fun | .normal => fun ρ₁ J₁ => J₁.get L.aY = some (.loop .ready) /\ TRd E L.nt (nx J) L.body (fun | .normal => fun _ J₂ => J₂.get L.aY = some (.loop .busy) /\ Post (J₂.set L.aY (.loop .ready)) | _ => fun _ _ => False) ρ₁ (J₁.set L.aY (.loop .busy)) | _ => fun _ _ => False) (Aou L.ps.toList args ρL) J) :
  YTo E L args J Post := by
 intro C w vs hi hs hg bg;obtain ⟨hY1,hY2,r,hlr,hTR,hsz,hp,has,hbo⟩ := hi;obtain ⟨c,r',h1,h2,h3⟩ := hs.obj _ _ hrd;rw [hlr] at h2;cases h2;have hc := hY2 c 0 h1;subst hc;obtain ⟨q1,tm',q0,q2,q3⟩ := W8 (nt := L.nt) hl hps hL hTR hsz bg
 have od : (L.ps.toList.zip vs.toList).foldl (fun tmps (t,a) => tmps.setIfInBounds t a) r.tmps = (L.ps.zip vs).foldl (fun tmps (t,a) => tmps.setIfInBounds t a) r.tmps := by
  rw [← fd_,Array.toList_zip]
 rw [od] at q2 q3
 refine ⟨r,h3,by rw [hp]; simpa using q1,fun n => ?_⟩
 refine roundIn_of_wpIn (F := Fence.wide) trivial ?_;rw [has,hbo,hp]
 have st0 : SSt E C w ⟨tm',L.nt,[],J⟩ { tmps := (L.ps.zip vs).foldl (fun tmps (t,a) => tmps.setIfInBounds t a) r.tmps,defers := [] } := ⟨hs,hg,q2,q3,by unfold DR; trivial⟩
 refine wpIn_mono (h (C.stm L.aY).toNat n C w tm' _ q0 st0 nl) fun e a₁ w₁ hq => ?_
 obtain ⟨x₁,tm₁,ρ₁,J₁,C₁,hye,ht₁,hq₁,st₁,hB₁,e₁⟩ := hq;subst hye;cases x₁ with
 | ret => exact hq₁.elim
 | exit _ => exact hq₁.elim
 | normal =>
  obtain ⟨hrd₁,ck⟩ := hq₁;obtain ⟨c₁,r₁,j1,j2,j3,j4,j5⟩ := st₁.sim.turnLoop hrd₁ .busy
  have hr₁ : r₁ = r := by
   have := e₁.lr _ hY0;rw [j2,hlr] at this;exact ds_ this
  subst hr₁;have hc₁ : c₁ = (C.stm L.aY).toNat := hY2 c₁ 0 (e₁.loc _ hY0 _ j1);subst hc₁;refine ⟨_,run_beginRound j3 rfl,?_⟩;have st₂ : SSt E C₁ (w₁.putObj (C.stm L.aY).toNat (.loop (C5 r₁ .busy))) ⟨tm₁,L.nt,[],J₁.set L.aY (.loop .busy)⟩ a₁ :=
   ⟨j4,by show Fo _ (nx (J₁.set _ _)) _ _; rw [Ae]; exact st₁.glob.ext j5,by show TR _ (nx (J₁.set _ _)) _ _ _; rw [Ae]; exact st₁.tmps.ext j5,st₁.size,by show DR _ (nx (J₁.set _ _)) _ _ _; rw [Ae]; exact st₁.dfs.ext j5⟩
  refine wpIn_mono (ck (C.stm L.aY).toNat n C₁ _ tm₁ _ ht₁ st₂ (by rw [Ae]; exact hB₁)) fun e a₃ w₃ hq => ?_
  obtain ⟨x₃,tm₃,ρ₃,J₃,C₂,hye,ht₃,hq₃,st₃,hB₃,e₂⟩ := hq;subst hye;cases x₃ with
  | ret => exact hq₃.elim
  | exit _ => exact hq₃.elim
  | normal =>
   obtain ⟨hbu,gu⟩ := hq₃;obtain ⟨c₂,r₂,m1,m2,m3,m4,m5⟩ := st₃.sim.turnLoop hbu .ready
   have hr₂ : r₂ = r₁ := by
    have := e₂.lr _ hY0;rw [m2,j2] at this;exact ds_ this
   subst hr₂;have hc₂ : c₂ = (C.stm L.aY).toNat := hY2 c₂ 0 (e₁.loc _ hY0 _ (e₂.loc _ hY0 _ m1));subst hc₂;have dk := run_endRound (P := E.P) none m3;refine ⟨_,_,dk,rfl,C₂,_,gu,m4,?_⟩;rw [Ae];exact (((e₁.trans (j5.base hB₁)).trans e₂).trans (m5.base hB₃)).top hB₃
def TIt (E : Env) (L : RF) (nt B : Nat) (c : Code) (Q : Cz) (ρ : Ad) (J : Sto) : Prop :=
 ∀ (C : Ctx) (w : World) (tm : Tr AV) (a : Act),Fj L C B w -> Has tm ρ -> SSt E C w ⟨tm,nt,[],J⟩ a -> B <= nx J -> c.wp E.P (Km E nt [] B Q C w) a w
section
variable {E : Env} {L : RF} {nt B : Nat} {Q Q' : Cz} {ρ ρ' : Ad} {J J' : Sto}
theorem F0 {c : Code} (h : T E nt [] B c Q ρ J) : TIt E L nt B c Q ρ J := fun C w tm a _ ht st hB => (wpIn_wide (n := 0)).1 (h none 0 (.inl rfl) C w tm a ht st hB)
theorem TIt.mono {c : Code} (h : TIt E L nt B c Q ρ J) (hQ : ∀ x ρ J,Q x ρ J -> Q' x ρ J) : TIt E L nt B c Q' ρ J := fun C w tm a hi ht st hB => wp_mono (h C w tm a hi ht st hB) fun e a' w' he => he.mono hQ
theorem Mc (h : Q .normal ρ J) : TIt E L nt B .skip Q ρ J := F0 (Aja h)
theorem Aha {n : Nat} (h : Q (.exit n) ρ J) : TIt E L nt B (.exit n) Q ρ J := F0 (Ajb h)
theorem Ari (h : Q .ret ρ J) : TIt E L nt B .ret Q ρ J := F0 (Aoa h)
theorem Ak3 {c : Code} (h : WFS J -> TIt E L nt B c Q ρ J) : TIt E L nt B c Q ρ J := fun C w tm a hi ht st hB => h st.sim.wfs C w tm a hi ht st hB
theorem De {x y : Code} (h : TIt E L nt B x (Rj (TIt E L nt B y Q) Q) ρ J) : TIt E L nt B (.seq x y) Q ρ J := by
 intro C w tm a hi ht st hB;refine wp_seq (wp_mono (h C w tm a hi ht st hB) fun e a' w' he => ?_)
 obtain ⟨x',tm',ρ',J',C',h1,h2,h3,h4,hB',h5⟩ := he;subst h1;cases x' with
 | normal => exact wp_mono (h3 C' w' tm' a' (hi.ext h5) h2 h4 hB') fun e a'' w'' he => he.from h5
 | exit id => exact ⟨.exit id,tm',ρ',J',C',rfl,h2,h3,h4,hB',h5⟩
 | ret => exact ⟨.ret,tm',ρ',J',C',rfl,h2,h3,h4,hB',h5⟩
theorem Md {c : Operand} {x y : Code} {b : Bool} (hc : Ai E ρ c = some (.bool b)) (h1 : b = true -> TIt E L nt B x Q ρ J) (h2 : b = false -> TIt E L nt B y Q ρ J) : TIt E L nt B (.cond c x y) Q ρ J := by
 intro C w tm a hi ht st hB;have hv := Bc st.glob st.tmps c;rw [ht.opd hc] at hv;unfold R at hv;cases b with
 | true => exact wp_cond_true hv (h1 rfl C w tm a hi ht st hB)
 | false => exact wp_cond_false hv (h2 rfl C w tm a hi ht st hB)
theorem Qv {id : Nat} {c : Code} (h : TIt E L nt B c (Vn id Q) ρ J) : TIt E L nt B (.block id c) Q ρ J := by
 intro C w tm a hi ht st hB;refine wp_block (wp_mono (h C w tm a hi ht st hB) fun e a' w' he => ?_)
 obtain ⟨x',tm',ρ',J',C',h1,h2,h3,h4,hB',h5⟩ := he;subst h1;cases x' with
 | normal => exact ⟨.normal,tm',ρ',J',C',rfl,h2,h3,h4,hB',h5⟩
 | ret => exact ⟨.ret,tm',ρ',J',C',rfl,h2,h3,h4,hB',h5⟩
 | exit j =>
  simp only [Vn] at h3
  by_cases hj : j = id
  ·subst hj;rw [bm_] at h3;simp only [Kh,Exit.inBlock,if_true];exact ⟨.normal,tm',ρ',J',C',rfl,h2,h3,h4,hB',h5⟩
  ·have hb : Nat.beq j id = false := by cases hb : Nat.beq j id with | true => exact absurd (aa_ hb) hj | false => rfl
   rw [hb] at h3;simp only [Kh,Exit.inBlock,if_neg hj];exact ⟨.exit j,tm',ρ',J',C',rfl,h2,h3,h4,hB',h5⟩
theorem Aow {c : Code} (I : Nat -> Ad -> Sto -> Prop) (n : Nat) (h0 : ∃ ρ',Lq ρ' ρ /\ I n ρ' J)
  (hs : ∀ n ρ J,I n ρ J -> TIt E L nt B c (Rj (fun ρ' J' => ∃ m ρ'',m < n /\ Lq ρ'' ρ' /\ I m ρ'' J') Q) ρ J) : TIt E L nt B (.loop c) Q ρ J := by
 have key : ∀ (n : Nat) (ρ : Ad) (J : Sto),I n ρ J -> ∀ (C : Ctx) (w : World) (tm : Tr AV) (a : Act),Fj L C B w -> Has tm ρ -> SSt E C w ⟨tm,nt,[],J⟩ a -> B <= nx J -> ∀ (b : Frame) (k : List Item) (cs : List Frame),
   ∃ e a' w',Km E nt [] B Q C w e a' w' /\ Arrives E.P (lone (b.at a (.code c :: .inLoop c :: k)) cs w) b k cs e a' w' := by
  intro n
  induction n using Nat.strongRecOn with
  | _ n ih =>
   intro ρ J hI C w tm a hi ht st hB b k cs;obtain ⟨e,a₁,w₁,hq,bu⟩ := hs n ρ J hI C w tm a hi ht st hB b (.inLoop c :: k) cs;obtain ⟨x',tm',ρ',J',C',h1,h2,h3,h4,hB',h5⟩ := hq;subst h1;cases x' with
   | normal =>
    obtain ⟨m,ρ'',hm,cc,hI'⟩ := h3;obtain ⟨e₂,a₂,w₂,hq₂,harr₂⟩ := ih m hm ρ'' J' hI' C' w₁ tm' a₁ (hi.ext h5) (h2.subL cc) h4 hB' b k cs;exact ⟨e₂,a₂,w₂,hq₂.from h5,.of_steps (Steps.trans bu (.one step_inLoop)) harr₂⟩
   | exit id => exact ⟨.exit id,a₁,w₁,⟨_,tm',ρ',J',C',rfl,h2,h3,h4,hB',h5⟩,.pass (x := .inLoop c) rfl (fun _ _ => .inl (by simp)) bu⟩
   | ret => exact ⟨.ret,a₁,w₁,⟨_,tm',ρ',J',C',rfl,h2,h3,h4,hB',h5⟩,.pass (x := .inLoop c) rfl (fun _ _ => .inl (by simp)) bu⟩
 intro C w tm a hi ht st hB b k cs;obtain ⟨ρ',cc,hI⟩ := h0;obtain ⟨e,a',w',hq,bu⟩ := key n ρ' J hI C w tm a hi (ht.subL cc) st hB b k cs;exact ⟨e,a',w',hq,.of_steps (.one step_loop) bu⟩
theorem Ac0 {α : Type} {c : Code} (ρI : α -> Ad) (P : α -> Sto -> Prop) (μ : α -> Nat) (a₀ : α) (h0 : Lq (ρI a₀) ρ) (h1 : P a₀ J)
  (hs : ∀ a J,P a J -> TIt E L nt B c (Rj (fun ρ' J' => ∃ a',μ a' < μ a /\ Lq (ρI a') ρ' /\ P a' J') Q) (ρI a) J) : TIt E L nt B (.loop c) Q ρ J := by
 refine Aow (fun n ρ J => ∃ a,n = μ a /\ ρ = ρI a /\ P a J) (μ a₀) ⟨ρI a₀,h0,a₀,rfl,rfl,h1⟩ ?_
 rintro n ρ J ⟨a,rfl,rfl,hp⟩;refine (hs a J hp).mono fun x ρ' J' hq => ?_
 cases x with
 | normal => obtain ⟨a',g1,g2,g3⟩ := hq; exact ⟨μ a',ρI a',g1,g2,a',rfl,rfl,g3⟩
 | exit id => exact hq
 | ret => exact hq
def TOI (E : Env) (L : RF) (nt B : Nat) (ops r : List Oper) (K : Ad -> Sto -> Prop) (ρ : Ad) (J : Sto) : Prop :=
 ∀ (C : Ctx) (w : World) (tm : Tr AV) (a : Act),Fj L C B w -> Has tm ρ -> SSt E C w ⟨tm,nt,[],J⟩ a -> B <= nx J -> ∀ (arr : Array Oper) (i n : Nat) (QQ : Exit -> Act -> World -> Prop),arr.toList = ops -> (∀ j,j < r.length -> r[j]? = arr[i + j]?) ->
  (∀ C' w' a' tm' ρ' J',Has tm' ρ' -> K ρ' J' -> SSt E C' w' ⟨tm',nt,[],J'⟩ a' -> B <= nx J' -> Ext C B w C' B w' -> QQ .normal a' w') -> wpOpsIn Fence.wide n E.P arr QQ (List.range' i r.length) a w
variable {K : Ad -> Sto -> Prop} {ops r : List Oper}
theorem Sk {id : Nat} {ops : Array Oper} (h : TOI E L nt B ops.toList ops.toList (fun ρ J => Q .normal ρ J) ρ J) : TIt E L nt B (.region id ops false) Q ρ J := by
 intro C w tm a hi ht st hB;refine (wpIn_wide (n := 0)).1 (wpIn_region ?_);rw [dn_,← bv_]
 exact h C w tm a hi ht st hB ops 0 0 (Km E nt [] B Q C w) rfl (fun j _ => by simp) fun C' w' a' tm' ρ' J' h1 h2 h3 h4 h5 => ⟨.normal,tm',ρ',J',C',rfl,h1,h2,h3,h4,h5⟩
theorem Ug (h : K ρ J) : TOI E L nt B ops [] K ρ J := by
 intro C w tm a hi ht st hB arr i n QQ _ _ hQ;simp only [dr_,gk_,wpOpsIn];exact hQ C w a tm ρ J ht h st hB (bz_ _ _ _)
theorem Afc {o : Oper} {Rr : Rec} (hR : Ao E Rr) (hn : Tg o.op = false) {ρ₁ : Ad} {J₁ : Sto}
  (h : ∀ tm,Has tm ρ -> ∃ tm',Vb E ops o Rr ⟨tm,nt,[],J⟩ = some ⟨tm',nt,[],J₁⟩ /\ Has tm' ρ₁) (k : TOI E L nt B ops r K ρ₁ J₁) : TOI E L nt B ops (o :: r) K ρ J := by
 intro C w tm a hi ht st hB arr i n QQ bu hr hQ;obtain ⟨tm',h1,h2⟩ := h tm ht
 have ho : arr[i]? = some o := by have := hr 0 (by simp); simpa using this.symm
 simp only [ap_,cl_,wpOpsIn,ho]
 have h1' : Vb E arr.toList o Rr ⟨tm,nt,[],J⟩ = some ⟨tm',nt,[],J₁⟩ := by rw [bu]; exact h1
 have := Rw (K := wpOpsIn Fence.wide n E.P arr QQ (List.range' (i + 1) r.length)) (Q := QQ) hR st h1' (ro := none) (n := n) (hpl := .inl rfl) fun C' w' a' st' e' =>
  k C' w' tm' a' (hi.ext (e'.base hB)) h2 st' (bc_ hB e'.next) arr (i + 1) n QQ bu (fun j hj => by have := hr (j + 1) (by simpa using hj); simp only [bi_] at this; rw [this]; congr 1; omega)
   fun C2 w2 a2 tm2 ρ2 J2 q1 q2 q3 qB q4 => hQ C2 w2 a2 tm2 ρ2 J2 q1 q2 q3 qB ((e'.base hB).trans q4)
 rcases this with ⟨h2,h3⟩ | ⟨h2,h3⟩
 ·rw [if_pos h2]; exact h3
 ·rw [if_neg (by rw [h2]; simp)]; exact ⟨fun _ _ => trivial,h3⟩
theorem Sm {op : Op} (h : Fw op = true) : Tg op = false := by cases op <;> first | rfl | cases h
theorem Im {op : Op} {dst : Option Nat} {ty : Nat} {pos : String} {after : Array Edge} {Rr : Rec} {v : AV} {J₁ : Sto} (hR : Ao E Rr) (hn : Fw op = true) (hd : B9 nt dst = true) (h : A0 E Rr op ρ J v J₁)
  (k : TOI E L nt B ops r K (Dr dst v ρ) J₁) : TOI E L nt B ops ({ dst := dst,op := op,type := ty,pos := pos,after := after,guard := none } :: r) K ρ J := by
 refine Afc hR (Sm hn) (fun tm ht => ?_) k
 obtain ⟨tm',h1,h2⟩ := C8 (dst := dst) hd ht v;refine ⟨tm',?_,h2⟩;rw [Qk (s := ⟨tm,nt,[],J⟩) rfl hn];simp only [h tm ht,h1]
theorem Ajm {o oj : Oper} {Rr : Rec} {v : AV} {J₁ : Sto} {j d : Nat} {b want : Bool} (hg : o.guard = some (j,want)) (hj : ops[j]? = some oj) (hdj : oj.dst = some d) (hb : Ad.at ρ d = some (.bool b)) (hw : cond b want (!want) = true)
  (hR : Ao E Rr) (hn : Fw o.op = true) (hd : B9 nt o.dst = true) (h : A0 E Rr o.op ρ J v J₁) (k : TOI E L nt B ops r K (Dr o.dst v ρ) J₁) : TOI E L nt B ops (o :: r) K ρ J := by
 refine Afc hR (Sm hn) (fun tm ht => ?_) k
 obtain ⟨tm',h1,h2⟩ := C8 (dst := o.dst) hd ht v;refine ⟨tm',?_,h2⟩
 rw [Qk (s := ⟨tm,nt,[],J⟩) (by rw [F8 ht hg hj hdj hb,hw]) hn]
 simp only [h tm ht,h1]
theorem X8 {o oj : Oper} {j d : Nat} {b want : Bool} (hn : Fw o.op = true) (hg : o.guard = some (j,want)) (hj : ops[j]? = some oj) (hdj : oj.dst = some d) (hb : Ad.at ρ d = some (.bool b)) (hw : cond b want (!want) = false)
  (hd : B9 nt o.dst = true) (k : TOI E L nt B ops r K (Dr o.dst An ρ) J) : TOI E L nt B ops (o :: r) K ρ J := by
 refine Afc do_ (Sm hn) (fun tm ht => ?_) k
 obtain ⟨tm',h1,h2⟩ := C8 (dst := o.dst) hd ht An;refine ⟨tm',?_,h2⟩;unfold Vb;rw [F8 ht hg hj hdj hb,hw];simp only [h1]
theorem Ac1 {o : Oper} {f : Operand} {args : Array Operand} {tys : Array Nat} {vs : List AV} {Post : Sto -> Prop} (hg : ∀ tm,Has tm ρ -> B7 ops o tm = some true) (hop : o.op = .call ⟨.value f,args,tys⟩) (hd : B9 nt o.dst = true) (hf : Ai E ρ f = some (.yl L.aY)) (ha : La E ρ args.toList = some vs)
  (hy : YTo E L vs J Post) (k : ∀ J',Post J' -> nx J <= nx J' -> TOI E L nt B ops r K (Dr o.dst (.bool true) ρ) J') : TOI E L nt B ops (o :: r) K ρ J := by
 intro C w tm a hi ht st hB arr i n QQ bu hr hQ
 have ho : arr[i]? = some o := by have := hr 0 (by simp); simpa using this.symm
 simp only [ap_,cl_,wpOpsIn,ho]
 have hw : Region.wanted o (yielded arr a.tmps) = true := D5 st.tmps (by rw [bu]; exact hg tm ht)
 rw [if_pos hw]
 have hnd : Tg o.op = false := by rw [hop]; rfl
 have hV := Bc st.glob st.tmps f;rw [ht.opd hf] at hV;unfold R at hV;obtain ⟨hV,_⟩ := hV;have hA := Dh st.glob st.tmps args.toList;rw [ht.opds ha] at hA
 have hA' : RL C (nx J) w vs (args.map a.eval).toList := by simp only [c_]; exact hA
 have hi' : Fj L C (nx J) w := hi.ext ((bz_ C B w).top hB);obtain ⟨r',dg,hsz,ey⟩ := hy C w _ hi' st.sim st.glob hA';have hyl := run_yield (P := E.P) (args := args.map a.eval) dg hsz
 have bl : (execOp a.eval o).run E.P w = .ok (.round (C.stm L.aY).toNat r'.fn ((r'.params.zip (args.map a.eval)).foldl (fun tmps (t,a) => tmps.setIfInBounds t a) r'.tmps) r'.assign r'.body) w := by
  simp [execOp,hop,resolve,hV,Deferred.ofValue,invoke]
  simpa [C5] using hyl
 refine ⟨fun _ _ => trivial,?_⟩
 rw [Oper.semAt_eq _ _ _ (fun c hc => by rw [hc] at hnd; cases hnd),bl,Oper.uponIn_round]
 refine ⟨fun hh => (by cases hh),(ey (n - 1)).mono fun e w' he => ?_⟩
 obtain ⟨rfl,C',J',hp,k1,k2⟩ := he;obtain ⟨tm',h1,h2⟩ := C8 (nt := nt) (dst := o.dst) hd ht (.bool true)
 have st' := st.put (x := .bool true) k1 k2 (by unfold R; rfl) h1
 exact k J' hp k2.next C' w' tm' _ (hi.ext (k2.base hB)) h2 st' (bc_ hB k2.next) arr (i + 1) n QQ bu (fun j hj => by have := hr (j + 1) (by simpa using hj); simp only [bi_] at this; rw [this]; congr 1; omega)
  fun C2 w2 a2 tm2 ρ2 J2 q1 q2 q3 qB q4 => hQ C2 w2 a2 tm2 ρ2 J2 q1 q2 q3 qB ((k2.base hB).trans q4)
end
def Lt (E : Env) (L : RF) (f : Nat) (args : List AV) (J : Sto) (Post : Sto -> Prop) : Prop :=
 ∀ (C : Ctx) (w : World) (vs : Array Value),Fj L C (nx J) w -> Sim E.P C w J -> Fo C (nx J) w E -> RL C (nx J) w args vs.toList ->
  Calls E.P f vs w fun
   | .returned _,w' => ∃ J' C',Post J' /\ Sim E.P C' w' J' /\ Ext C (nx J) w C' (nx J') w'
   | _,_ => False
theorem Aox {E : Env} {L : RF} {f : Nat} {fn : Func} {c : Code} {args : List AV} {J : Sto} {Post : Sto -> Prop} (hfn : E.P.funcs[f]? = some fn) (hc : fn.body = some c) (hle : Nat.ble args.length fn.ntmps = true) (gz : fn.results = #[])
  (h : WFS J -> AV.unds (nx J) args = true -> TIt E L fn.ntmps (nx J) c (Amh fun _ J' => Post J') (F9 args 0) J) : Lt E L f args J Post := by
 intro C w vs hi hs hg bg;refine calls_of_wp_defers hfn hc ?_;have hle := ak_ hle;have st := L8 (E := E) (fn := fn) hs hg bg hle
 have ht : Has (Hw args 0 .e) (F9 args 0) := fun i v hv => by
  rw [Hk];rw [Kp] at hv
  split at hv
  ·rename_i hi; rw [if_pos hi]; exact hv
  ·cases hv
 refine wp_mono (h hs.wfs (RL.unds _ _ bg) C w _ _ hi ht st nl) fun e a' w' he => ?_
 obtain ⟨x,tm',ρ',J₁,C',h1,h2,h3,h4,hB,h5⟩ := he;subst h1;have fin : Post J₁ -> Leaves E.P fn a'.tmps (fun
   | .returned _,w' => ∃ J' C',Post J' /\ Sim E.P C' w' J' /\ Ext C (nx J) w C' (nx J') w'
   | _,_ => False) a'.defers .returning w' := by
  intro hx
  have hds : a'.defers = [] := by
   have hd := h4.dfs;cases hds : a'.defers with
   | nil => rfl
   | cons d ds => rw [hds] at hd; unfold DR at hd; exact hd.elim
  have r1 : T4 E ρ' J₁ fn.results.toList = some [] := by rw [gz]; rfl
  obtain ⟨x,k1,k2⟩ := Eb (fn := fn) h4.sim h4.tmps (Sa h2 r1);rw [hds];exact ⟨x,k1,J₁,C',hx,h4.sim,h5.top hB⟩
 cases x with
 | normal => exact fin h3
 | ret => exact fin h3
 | exit id => exact h3.elim
section
variable {E : Env} {nt B b : Nat} {Q Q' : Cz} {ρ ρ' : Ad} {J : Sto}
theorem Aoy {df0 : List (Nat × List AV)} {C : Ctx} {w : World} {tm : Tr AV} {a : Act} {Bs k : Nat} {f : Operand} {ps : Array Tmp} {assign body : Code} {cap : List AV} {kfn : Func} {Post : Sto -> Prop} (hi : Hz b Bs C (nx J) w) (ht : Has tm ρ) (st : SSt E C w ⟨tm,nt,df0,J⟩ a)
  (hf : Ai E ρ f = some (.fn (.func k) [] cap)) (eu : E.P.funcs[k]? = some kfn) (cq : (kfn.name == "runtime.NumGoroutine") = false) (ck : kfn.body.isNone = false)
  (hit : ∀ tm,Has tm ρ -> Lt E ⟨nx J + 1,tm,nt,ps,assign,body⟩ k (.yl (nx J + 1) :: cap) (J.bump.new (.loop .ready)) (fun J' => J'.get (nx J + 1) = some (.loop .ready) /\ Post J')) :
  (Code.rangeFunc f ps assign body).wp E.P (fun e a' w' => e = .normal /\ ∃ J' C' aD,Post J' /\ SSt E C' w' ⟨tm,nt,(Gh,[.yl aD,.yl b]) :: df0,J'.kill (nx J + 1)⟩ a' /\ Ext C (nx J) w C' (nx (J'.kill (nx J + 1))) w') a w := by
 have hV := Bc st.glob st.tmps f;rw [ht.opd hf] at hV;unfold R at hV;obtain ⟨p0,lb,hV,hp0,hlb⟩ := hV
 have jd : p0 = #[] := by
  have := hp0.length
  simp at this
  exact cw_ this.symm
 subst jd;refine (wpIn_wide (n := 1)).1 (wpIn_rangeFunc fun fn _ => ?_)
 obtain ⟨rc,hrc⟩ : ∃ rc : Loop,rc = { state := .ready,pending := none,fn,tmps := a.tmps,params := ps,assign,body,defers := w.heap.size } := ⟨_,rfl⟩
 have jf : C5 rc .ready = rc := by rw [hrc]; rfl
 obtain ⟨W0,hW0⟩ : ∃ W0,w.alloc (.deferred (some [])) = W0 := ⟨_,rfl⟩;obtain ⟨W1,hW1⟩ : ∃ W1,W0.alloc (.loop rc) = W1 := ⟨_,rfl⟩
 have hp1 : Pu w W0 (.deferred (some [])) := by rw [← hW0]; exact fk_ rfl ⟨rfl,rfl⟩
 have hp2 : Pu W0 W1 (.loop rc) := by rw [← hW1]; exact fk_ rfl ⟨rfl,rfl⟩
 have gb := hp1.size;have jg := hp2.size;obtain ⟨s1,e1⟩ := st.sim.push hp1;obtain ⟨s2,e2⟩ := s1.bump (w.heap.size : Int);obtain ⟨s3,e3⟩ := s2.newLoop jf hp2;rw [← Bi] at e2
 have hnx : nx (J.bump.new (.loop .ready)) = nx J + 1 + 1 := by rw [Ac,Bi]
 have e5 := (e1.trans e2).trans e3;rw [← Ac J.bump (.loop .ready)] at e5
 generalize hC4 : (((C.addStm (nx J) (w.heap.size : Int)).setLoop (nx J.bump) (W0.heap.size : Int) rc).add (nx J.bump) W0.heap.size 0) = C4 at s3 e5
 have gc : C4.stm (nx J) = (w.heap.size : Int) := by rw [← hC4]; simp [Ctx.add,Ctx.setLoop,Ctx.addStm,Bi]
 have d9 : C4.stm (nx J + 1) = ((w.heap.size + 1 : Nat) : Int) := by rw [← hC4]; simp [Ctx.add,Ctx.setLoop,Bi,gb]
 have gd : C4.lr (nx J + 1) = some rc := by rw [← hC4]; simp [Ctx.add,Ctx.setLoop,Bi]
 have dm : C4.loc (nx J + 1) = some (w.heap.size + 1,0) := by rw [← hC4]; simp [Ctx.add,Bi,gb]
 have hnD : ¬ C4.own w.heap.size := fun hh => by
  rcases hh with hh | ⟨x,o,hh⟩
  ·have hh' : C.res w.heap.size := by rw [← e5.res.1]; exact hh
   have := st.sim.rlt _ hh'; omega
  ·by_cases hx : x = nx J + 1
   ·subst hx; rw [dm] at hh; have := congrArg (fun o => o.map Prod.fst) hh; simp at this
   ·have : x < nx J := by
     obtain ⟨O,hO,_⟩ := s3.dom x _ hh;have hb := s3.bound x O hO;rw [hnx] at hb
     by_cases hx2 : x = nx J
     ·subst hx2;rw [ab_,Bi,if_neg Om,D6] at hO;have := st.sim.bound _ _ hO; omega
     ·omega
    have := st.sim.lt x _ _ (e5.loc x this _ hh); omega
 have er : W1.heap[w.heap.size]? = some (.deferred (some [])) := by rw [hp2.other _ Om]; exact hp1.here
 have hli : Fj ⟨nx J + 1,tm,nt,ps,assign,body⟩ C4 (nx (J.bump.new (.loop .ready))) W1 := by
  refine ⟨by rw [hnx]; show nx J + 1 < _; omega,fun c o hc => ?_,rc,gd,?_,?_,?_,?_,?_⟩
  ·have hc : C4.loc (nx J + 1) = some (c,o) := hc;rw [dm] at hc; cases hc; show _ = (C4.stm (nx J + 1)).toNat; rw [d9]; rfl
  ·have : TR C (nx J) w tm rc.tmps := by rw [hrc]; exact st.tmps
   exact this.ext e5
  ·rw [hrc]; exact st.size
  ·rw [hrc]
  ·rw [hrc]
  ·rw [hrc]
 have bg : RL C4 (nx (J.bump.new (.loop .ready))) W1 (.yl (nx J + 1) :: cap) (#[Value.func (.yield (w.heap.size + 1)) #[] #[]] ++ lb).toList := by
  simp only [cs_,av_,bt_];unfold RL;refine ⟨?_,RL.ext e5 _ _ hlb⟩;unfold R;rw [d9,hnx]
  exact ⟨rfl,by omega⟩
 have b8 := hit tm ht C4 W1 _ hli s3 (st.glob.ext e5) bg
 have eo : ∀ args w,(callFunc k args).run E.P w = .ok (.enter k args) w := fun args w => by
  have g2' : kfn.name ≠ "runtime.NumGoroutine" := by simpa using cq
  have g3' : kfn.body ≠ none := fun hh => by rw [hh] at ck; cases ck
  simp [callFunc,eu,g2',g3']
 refine ⟨w.heap.size + 1,[{ target := .collected w.heap.size,args := #[] }],W1,{ target := .fn (.func k) lb,args := #[.func (.yield (w.heap.size + 1)) #[] #[]] },W1,k,
  #[.func (.yield (w.heap.size + 1)) #[] #[]] ++ lb,W1,?_,?_,fun _ _ => trivial,?_,fun hh => (by cases hh),?_⟩
 ·rw [← hW1,← hW0,hrc]; exact run_enterLoop_outer _ _ _ _ _
 ·simp only [resolve,hV]
  simp [go_sem]
 ·simp [invoke,go_sem,eo]
 ·refine (callsIn_wide).2 (b8.mono fun e w₃ he => ?_)
  cases e with
  | returned x =>
   obtain ⟨J',C₃,⟨hgl,gu⟩,k1,k2⟩ := he
   have cb := (k2.stm (nx J) (by rw [hnx]; omega)).trans gc
   have jj := (k2.lr (nx J + 1) (by rw [hnx]; omega)).trans gd
   obtain ⟨hn4,hk4⟩ := k2.keep w.heap.size Om hnD;have hd3 := hk4.trans er;obtain ⟨c,r,g1,g2,g3⟩ := k1.obj _ _ hgl;rw [jj] at g2;cases g2
   have hcl := k2.loc _ (by rw [hnx]; omega) _ g1
   rw [dm] at hcl;cases hcl;obtain ⟨m1,m2⟩ := k1.kill (nx J + 1)
   have hnL : ¬ (C₃.del (nx J + 1)).own (w.heap.size + 1) := fun hh => by
    rcases hh with hh | ⟨x,o,hh⟩
    ·exact k1.rdis _ _ _ g1 hh
    ·by_cases hx : x = nx J + 1
     ·simp [Ctx.del,hx] at hh
     ·simp [Ctx.del,hx] at hh
      exact hx (k1.inj _ _ _ _ _ hh g1)
   have jk : ¬ (C₃.del (nx J + 1)).own w.heap.size := fun hh => hn4 (by
    rcases hh with hh | ⟨x,o,hh⟩
    ·exact .inl hh
    ·by_cases hx : x = nx J + 1
     ·simp [Ctx.del,hx] at hh
     ·simp [Ctx.del,hx] at hh; exact .inr ⟨x,o,hh⟩)
   have t : H8 w₃ (w₃.putObj (w.heap.size + 1) (.loop { C5 rc .ready with state := .exhausted })) (w.heap.size + 1) := gp_ g3 rfl rfl;have e6 := ((e5.trans k2).trans m2).turnNew t hnL Om;rw [← By J' (nx J + 1)] at e6
   have gg : SSt E (C₃.del (nx J + 1)) (w₃.putObj (w.heap.size + 1) (.loop { C5 rc .ready with state := .exhausted })) ⟨tm,nt,(Gh,[.yl (nx J),.yl b]) :: df0,J'.kill (nx J + 1)⟩ { a with defers := [{ target := .collected w.heap.size,args := #[] }] ++ a.defers } := by
    refine ⟨m1.turn t hnL,st.glob.ext e6,st.tmps.ext e6,st.size,?_⟩
    show DR _ _ _ _ ({ target := Target.collected w.heap.size,args := #[] } :: a.defers)
    unfold DR;refine ⟨.inr ⟨rfl,nx J,b,rfl,⟨?_,?_,?_⟩,?_,?_,?_,?_⟩,st.dfs.ext e6⟩
    ·show nx J < nx (J'.kill _); rw [By]; have := k2.next; rw [hnx] at this; omega
    ·show b < nx (J'.kill _); rw [By]; have := k2.next; rw [hnx] at this; have := hi.1; omega
    ·show (C₃.stm b).toNat <= (C₃.stm (nx J)).toNat
     have hb6 := e6.stm b hi.1;have hb6 : C₃.stm b = C.stm b := hb6;rw [cb,hb6,hi.2.1]; exact hi.2.2
    ·show _ = ({ target := .collected (C₃.stm (nx J)).toNat,args := #[] } : Deferred); rw [cb]; rfl
    ·show ¬ (C₃.del _).own (C₃.stm (nx J)).toNat; rw [cb]; exact jk
    ·show (w₃.putObj _ _).heap[(C₃.stm (nx J)).toNat]? = _
     rw [cb];exact (t.other w.heap.size Om).trans hd3
    ·intro y hy hk c d hcd;obtain ⟨z1,z2⟩ := MB.of_DR st.dfs y hy hk c d hcd;refine ⟨aq_ z1 e6.next,?_⟩
     show (C₃.stm c).toNat < (C₃.stm (nx J)).toNat
     have hb6 : C₃.stm c = C.stm c := e6.stm c z1;rw [cb,hb6]; exact z2
   have dk := run_endLoop (P := E.P) g3 (by simp [C5])
   exact ⟨none,_,dk,⟨rfl,J',_,nx J,gu,gg,e6⟩⟩
  | panicked _ => exact he.elim
  | outgrown => exact he.elim
def Ak4 (E : Env) (nt b : Nat) (B : Nat) (Q : Cz) (C : Ctx) (w : World) : Exit -> Act -> World -> Prop := fun e a' w' =>
 ∃ x tm' ρ' J' C' df,Kh x = e /\ Has tm' ρ' /\ Q x ρ' J' /\ SSt E C' w' ⟨tm',nt,df,J'⟩ a' /\ (df = [] ∨ ∃ aD,df = [(Gh,[.yl aD,.yl b])]) /\ B <= nx J' /\ Ext C B w C' B w'
theorem Ak4.from {C C₀ : Ctx} {w w₀ : World} {e : Exit} {a : Act} {w' : World} (h : Ak4 E nt b B Q C w e a w') (hx : Ext C₀ B w₀ C B w) : Ak4 E nt b B Q C₀ w₀ e a w' := by
 obtain ⟨x,tm',ρ',J',C',df,h1,h2,h3,h4,h5,hB,h6⟩ := h;exact ⟨x,tm',ρ',J',C',df,h1,h2,h3,h4,h5,hB,hx.trans h6⟩
def TM (E : Env) (nt b B : Nat) (c : Code) (Q : Cz) (ρ : Ad) (J : Sto) : Prop :=
 ∀ (Bs : Nat) (C : Ctx) (w : World) (tm : Tr AV) (a : Act),Hz b Bs C B w -> Has tm ρ -> SSt E C w ⟨tm,nt,[],J⟩ a -> B <= nx J -> c.wp E.P (Ak4 E nt b B Q C w) a w
theorem Sn {x y : Code} (h : T E nt [] B x (Rj (TM E nt b B y Q) Q) ρ J) : TM E nt b B (.seq x y) Q ρ J := by
 intro Bs C w tm a hi ht st hB;refine wp_seq (wp_mono (h.wp C w tm a ht st hB) fun e a' w' he => ?_)
 obtain ⟨x',tm',ρ',J',C',h1,h2,h3,h4,hB',h5⟩ := he;subst h1;cases x' with
 | normal => exact wp_mono (h3 Bs C' w' tm' a' (hi.ext h5) h2 h4 hB') fun e a'' w'' he => he.from h5
 | exit id => exact ⟨.exit id,tm',ρ',J',C',[],rfl,h2,h3,h4,.inl rfl,hB',h5⟩
 | ret => exact ⟨.ret,tm',ρ',J',C',[],rfl,h2,h3,h4,.inl rfl,hB',h5⟩
def Arj (E : Env) (nt b B : Nat) (f : Operand) (ps : Array Tmp) (assign body y : Code) (Q : Cz) (ρ : Ad) (J : Sto) : Prop :=
 ∃ (k : Nat) (cap : List AV) (kfn : Func) (Post : Sto -> Prop), Ai E ρ f = some (.fn (.func k) [] cap) /\ E.P.funcs[k]? = some kfn /\ (kfn.name == "runtime.NumGoroutine") = false /\ kfn.body.isNone = false /\
  (∀ tm,Has tm ρ -> Lt E ⟨nx J + 1,tm,nt,ps,assign,body⟩ k (.yl (nx J + 1) :: cap) (J.bump.new (.loop .ready)) (fun J' => J'.get (nx J + 1) = some (.loop .ready) /\ Post J')) /\
  ∀ J' aD,Post J' -> nx J <= nx J' -> T E nt [(Gh,[.yl aD,.yl b])] B y Q ρ (J'.kill (nx J + 1))
theorem Ac2 {id : Nat} {f : Operand} {ps : Array Tmp} {assign body x y : Code} (h : T E nt [] B x (Rj (Arj E nt b B f ps assign body y Q) Q) ρ J) : TM E nt b B (.seq (.seq x (.block id (.rangeFunc f ps assign body))) y) Q ρ J := by
 intro Bs C w tm a hi ht st hB;refine wp_seq (wp_seq (wp_mono (h.wp C w tm a ht st hB) fun e a' w' he => ?_))
 obtain ⟨x',tm',ρ',J',C',h1,h2,h3,h4,hB',h5⟩ := he;subst h1;cases x' with
 | exit id => exact ⟨.exit id,tm',ρ',J',C',[],rfl,h2,h3,h4,.inl rfl,hB',h5⟩
 | ret => exact ⟨.ret,tm',ρ',J',C',[],rfl,h2,h3,h4,.inl rfl,hB',h5⟩
 | normal =>
  obtain ⟨k,cap,kfn,Post,hf,eu,cq,ck,hit,hy⟩ := h3;have hi' : Hz b Bs C' (nx J') w' := (hi.ext h5).ext ((bz_ C' B w').top hB');refine wp_block (wp_mono (Aoy hi' h2 h4 hf eu cq ck hit) fun e a₂ w₂ he => ?_)
  obtain ⟨rfl,J₂,C₂,aD,hp,st',e'⟩ := he;have hn : nx J' <= nx (J₂.kill (nx J' + 1)) := e'.next;have hB₂ : B <= nx (J₂.kill (nx J' + 1)) := bc_ hB' hn
  refine wp_mono ((hy J₂ aD hp (by rw [By] at hn; exact hn)).wp C₂ w₂ tm' a₂ h2 st' hB₂) fun e a'' w'' he => ?_
  obtain ⟨x,tm₃,ρ₃,J₃,C₃,g1,g2,g3,g4,gB,g5⟩ := he;exact ⟨x,tm₃,ρ₃,J₃,C₃,_,g1,g2,g3,g4,.inr ⟨aD,rfl⟩,gB,h5.trans ((e'.base hB').trans g5)⟩
theorem Ase {f : Nat} {fn : Func} {c : Code} {args : List AV} {Post : AV -> Sto -> Prop} (hfn : E.P.funcs[f]? = some fn) (cq : (fn.name == "runtime.NumGoroutine") = false) (hc : fn.body = some c) (hle : Nat.ble args.length fn.ntmps = true)
  (h : WFS J -> AV.unds (nx J) args = true -> TM E fn.ntmps (nx J) (nx J + 1) c (Amh (Ae2 E fn (nx J) Post)) (F9 args 0) J.bump) : Aq E f args J Post := by
 intro C w vs hs hg bg
 refine ⟨⟨fn,hfn,cq,by rw [hc]; rfl⟩,?_⟩
 have hle := ak_ hle;obtain ⟨s1,e1⟩ := hs.bump (w.heap.size : Int);rw [← Bi] at e1;refine (callsIn_wide (n := 1)).1 (callsIn_of_wp_marks hfn hc trivial ((wpIn_wide (n := 1)).2 ?_))
 have hi : Hz (nx J) w.heap.size (C.addStm (nx J) (w.heap.size : Int)) (nx J + 1) w := ⟨by omega,by simp [Ctx.addStm],nl⟩
 have ht : Has (Hw args 0 .e) (F9 args 0) := fun i v hv => by
  rw [Hk];rw [Kp] at hv
  split at hv
  ·rename_i hi; rw [if_pos hi]; exact hv
  ·cases hv
 have st := L8 (E := E) (fn := fn) s1 (hg.ext e1) (RL.ext e1 _ _ bg) hle
 refine wp_mono (h hs.wfs (RL.unds _ _ bg) w.heap.size _ w _ _ hi ht st (by rw [Bi]; exact nl)) fun e a' w' he => ?_
 obtain ⟨x,tm',ρ',J₁,C',df,h1,h2,h3,h4,hdf,hB,h5⟩ := he;subst h1;rw [Bi] at e1;have b7 : Ext C (nx J) w C' (nx J + 1) w' := e1.trans h5;have hi5 : Hz (nx J) w.heap.size C' (nx J + 1) w' := hi.ext h5;have fin : Ae2 E fn (nx J) Post ρ' J₁ -> LeavesInM Fence.wide 1 E.P fn a'.tmps (fun
   | .returned x,w' => ∃ v J' C',Post v J' /\ Sim E.P C' w' J' /\ Ext C (nx J) w C' (nx J') w' /\ R C' (nx J') w' v x
   | _,_ => False) a'.defers .returning w' := by
  intro hx;obtain ⟨vs₁,r1,v',J',r2,r3,r4,r5⟩ := hx
  rcases hdf with rfl | ⟨aD,rfl⟩
  ·have hds : a'.defers = [] := by
    have hd := h4.dfs;cases hds : a'.defers with
    | nil => rfl
    | cons d ds => rw [hds] at hd; unfold DR at hd; exact hd.elim
   rw [hds]
   show LeavesIn _ _ _ _ _ _ [] .returning _
   obtain ⟨y,k1,k2⟩ := Eb (fn := fn) h4.sim h4.tmps (Sa h2 r1);exact ⟨y,k1,v',J',_,r5,h4.sim.frz r2,((b7.base nl).trans (fg_ C' J' _ w')).top r3,r4.R h4.sim k2⟩
  ·have hd := h4.dfs
   obtain ⟨d,hds⟩ : ∃ d,a'.defers = [d] /\ DR C' (nx J₁) w' [(Gh,[.yl aD,.yl (nx J)])] [d] := by
    cases hds : a'.defers with
    | nil => rw [hds] at hd; unfold DR at hd; exact hd.elim
    | cons d ds =>
     rw [hds] at hd;cases ds with
     | nil => exact ⟨d,rfl,hd⟩
     | cons d' ds' => unfold DR at hd; have := hd.2; unfold DR at this; exact this.elim
   obtain ⟨hds,hd⟩ := hds;unfold DR at hd;obtain ⟨hd,_⟩ := hd
   rcases hd with ⟨h0,_⟩ | ⟨_,a1,b1,h1,⟨g2,g3,g4⟩,g5,g6,g7,_⟩
   ·exact absurd rfl h0
   ·simp only [de_,AV.yl.injEq,and_true] at h1;obtain ⟨rfl,rfl⟩ := h1;rw [hds,g5]
    refine ⟨by simp,.inl ⟨_,_,rfl,run_takeDeferred g7,?_⟩⟩
    show LeavesIn _ _ _ _ _ _ [] .returning _
    have t : H8 w' (w'.putObj (C'.stm aD).toNat (.deferred none)) (C'.stm aD).toNat := gp_ g7 rfl rfl
    have hge : w.heap.size <= (C'.stm aD).toNat := by rw [← hi5.2.1]; exact g4
    have st2 : Sim E.P C' _ J₁ := h4.sim.turn t g6;have tm2 : TR C' (nx J₁) _ tm' a'.tmps := fun i v hv => R.turn t _ _ (h4.tmps i v hv)
    obtain ⟨y,k1,k2⟩ := Eb (fn := fn) st2 tm2 (Sa h2 r1);exact ⟨y,k1,v',J',_,r5,st2.frz r2,(((b7.turnNew t g6 hge).base nl).trans (fg_ C' J' _ _)).top r3,r4.R st2 k2⟩
 cases x with
 | normal => exact fin h3
 | ret => exact fin h3
 | exit id => exact h3.elim
end
section
variable {E : Env} {ρ : Ad} {J J' τ : Sto} {N : Nat} {α : Type} {enc enc' : α -> List AV} {sz by' : Nat} {l : List α} {v : AV}
theorem Own.app1 (he : ∀ a,(enc a).length = sz) (hN : N <= nx J) (h : Own J N enc sz l v) (b : α) (bo : (l.length + 1) * (by' + 1) <= sizeLim) :
  ∃ J',Cf J sz by' v 1 (enc b) = some (.sr (nx J) 0 sz (l.length + 1) none,J') /\ J'.get (nx J) = some (.cells ((l ++ [b]).flatMap enc)) /\ nx J' = nx J + 1 /\ Own J' N enc sz (l ++ [b]) (.sr (nx J) 0 sz (l.length + 1) none) /\
   (∀ a,a < nx J -> (∀ c,v = .sr c 0 sz l.length none -> a ≠ c) -> J'.get a = J.get a) := by
 obtain ⟨v',J',h1,h2,h3,h4⟩ := h.app (by' := by') he hN [b] (by simpa using bo)
 have hb : Nat.ble ((l.length + 1) * (by' + 1)) sizeLim = true := bd_ bo
 have h1' : Cf J sz by' v 1 (enc b) = some (v',J') := by simpa using h1
 have key : v' = .sr (nx J) 0 sz (l.length + 1) none /\ J'.get (nx J) = some (.cells ((l ++ [b]).flatMap enc)) /\ nx J' = nx J + 1 := by
  rcases h with ⟨rfl,rfl | rfl⟩ | ⟨a,tl,k1,k2,rfl,k3⟩
  ·have hb' : Nat.ble ((0 + 1) * (by' + 1)) sizeLim = true := hb
   simp only [Cf,Jw,hb',cond_true,Ag,bt_,ac_,ax_] at h1';obtain ⟨rfl,rfl⟩ := h1'
   exact ⟨rfl,by rw [ab_,if_pos rfl]; simp,Ac _ _⟩
  ·have hb' : Nat.ble ((0 + 1) * (by' + 1)) sizeLim = true := hb
   have h0 : Nat.ble (0 + 1) 0 = false := rfl;simp only [Cf,bm_,h0,gs_,cy_,cond_true,Jw,hb',Ag,bt_,ac_,ax_] at h1';obtain ⟨rfl,rfl⟩ := h1'
   exact ⟨rfl,by rw [ab_,if_pos rfl]; simp,Ac _ _⟩
  ·have fg : J.cells a = some (l.flatMap enc ++ tl) := by unfold Sto.cells; rw [k3]
   have dp : Di (l.length * sz) ((l.flatMap enc ++ tl).drop 0) = some (l.flatMap enc) := by
    have := E8 (l := l.flatMap enc) (r := tl)
    rwa [D7 he] at this
   simp only [Cf,bm_,cond_true,fg,dp,Jw,hb,Ag,By,ac_,ax_] at h1';obtain ⟨rfl,rfl⟩ := h1'
   exact ⟨rfl,by rw [ab_,By,if_pos rfl,da_]; simp,by rw [Ac,By]⟩
 obtain ⟨rfl,e2,e3⟩ := key;exact ⟨J',h1',e2,e3,h2,h4⟩
theorem FzL.app : ∀ {a b c d : List AV},FzL J τ a b -> FzL J τ c d -> FzL J τ (a ++ c) (b ++ d)
 | _,_,_,_,.nil,h => h
 | _,_,_,_,.cons h1 h2,h => .cons h1 (h2.app h)
theorem FzL.flat (h : ∀ a,FzL J τ (enc a) (enc' a)) : ∀ l : List α,FzL J τ (l.flatMap enc) (l.flatMap enc')
 | [] => .nil
 | a :: l => by simp only [ch_]; exact (h a).app (FzL.flat h l)
theorem Own.fzE (he : ∀ a,(enc a).length = sz) (h : Own J N enc sz l v) (hτ : ∀ a,N <= a -> τ.get a = none) (hu : ∀ a,FzL J τ (enc a) (enc' a)) : Fz J τ v (slV enc' sz l) := by
 rcases h with ⟨rfl,rfl | rfl⟩ | ⟨a,tl,h1,_,rfl,h3⟩
 ·exact .nils (fun q hq => by cases hq)
 ·exact .sv (fun q hq => by cases hq) .nil
 ·have dp : Di (l.length * sz) ((l.flatMap enc ++ tl).drop 0) = some (l.flatMap enc) := by
   have := E8 (l := l.flatMap enc) (r := tl)
   rwa [D7 he] at this
  exact .sr h3 (hτ a h1) dp (FzL.flat hu l)
end
section
set_option linter.unusedSectionVars false
class KE (κ : Type) [DecidableEq κ] where
 k : κ -> Key
 eq : ∀ a b,Key.eq (k a) (k b) = decide (a = b)
theorem Ac3 (a b : Int) : Ot a b = decide (a = b) := by
 cases a with
 | ofNat x => cases b with
  | ofNat y =>
   show Nat.beq x y = _
   by_cases h : x = y
   ·subst h; simp
   ·rw [decide_eq_false (fun hh => h (Int.ofNat.inj hh))]
    cases hb : Nat.beq x y with
    | true => exact absurd (aa_ hb) h
    | false => rfl
  | negSucc y => rfl
 | negSucc x => cases b with
  | ofNat y => rfl
  | negSucc y =>
   show Nat.beq x y = _
   by_cases h : x = y
   ·subst h; simp
   ·rw [decide_eq_false (fun hh => h (Int.negSucc.inj hh))]
    cases hb : Nat.beq x y with
    | true => exact absurd (aa_ hb) h
    | false => rfl
instance : KE Int where
 k n := .int .i64 n
 eq a b := by show (Es .i64 .i64 && Ot a b) = _; rw [Ac3]; rfl
abbrev Kk := Str × Int × Int
instance : KE Kk where
 k p := .agg [kS p.1,.int .i64 p.2.1,.int .i64 p.2.2]
 eq a b := by
  obtain ⟨s,x,y⟩ := a;obtain ⟨t,u,v⟩ := b;simp only [Key.eq,Key.eqs,Acq,Ac3,Es]
  by_cases h1 : s = t <;> by_cases h2 : x = u <;> by_cases h3 : y = v <;> simp [h1,h2,h3]
abbrev GM (κ α : Type) := List (κ × α)
section
variable {κ α : Type} [DecidableEq κ] [KE κ]
variable {enc : α -> AV} {m : GM κ α} {s t : κ} {x : α}
end
section
variable {E : Env} {ρ : Ad} {J J' : Sto} {Rr : Rec} {t kt sz r a : Nat} {x y w : Operand} {agg : Bool} {z u : AV} {κ α : Type} [DecidableEq κ] [KE κ] {enc : α -> AV} {m : GM κ α} {k : κ} {v : α}
end
end
section
variable {E : Env} {ρ : Ad} {J J' τ : Sto} {Rr : Rec} {t ty n a i k N off sz sz0 by' : Nat} {x y : Operand} {agg : Bool} {cs cs' c tl : List AV} {u v : AV} {α : Type} {enc : α -> List AV} {l : List α} {e : α}
theorem A4 (hg : J.get a = some (.cells cs)) (hi : ldI E.P t = some (sz,agg)) (hx : Ai E ρ x = some (.pr a off)) (hv : Be sz agg (cs.drop off) = some v) : A0 E Rr (.load t x) ρ J v J :=
 Ah hi hx (by simp only [Cn,Sto.cells,hg]) hv
theorem F3 (hg : J.get a = some (.cells cs)) (hi : ldI E.P t = some (sz,agg)) (hx : Ai E ρ x = some (.pr a off)) (hy : Ai E ρ y = some v) (hc : v.cellsN sz = some c) (hs : setAt cs off c = some cs') : A0 E Rr (.store t x y) ρ J An (J.set a (.cells cs')) :=
 A6 hi hx hy hc (by simp only [Sto.cells,hg]) hs
theorem Own.sr (h : Own J N enc sz l v) (hi : i < l.length) : ∃ a tl,N <= a /\ a < nx J /\ v = .sr a 0 sz l.length none /\ J.get a = some (.cells (l.flatMap enc ++ tl)) := by
 rcases h with ⟨rfl,_⟩ | h
 ·exact absurd hi (Nat.not_lt_zero _)
 ·exact h
end
end Go.AM
