/- A part of the proof; shortened by program. -/
import Derived.Test.YtcnkdbldfpaebaaGreatDoorP23
set_option maxRecDepth 100000
set_option maxHeartbeats 4000000
set_option linter.unusedSimpArgs false
set_option linter.unusedVariables false
namespace Go.AM
open Go Go.Proofs
structure Md where
 n : Int
 des : List Int
 tabs : List Tb
def eTb (t : Tb) : List AV := [sV t.label,slV eI 1 t.vals]
def eVl (v : Vl) : List AV := [sV v.var,iV v.val]
def mdV (m : Md) : AV := .agg [iV m.n,slV eI 1 m.des,slV eTb 2 m.tabs]
def leB : Option Int -> Int -> Bool
 | none,_ => false
 | some b,a => decide (a <= b)
def Ajy (n : Int) : Option Int -> List Int -> Bool
 | _,[] => false
 | p,a :: r => ((decide (a < 0) || decide (n <= a)) || leB p a) || Ajy n (some a) r
def Wl (n : Int) (l : List Int) : Int := if (decide (n < 1) || decide (5 < n)) = true then 3 else if Ajy n none l = true then 1 else 0
theorem Aly {n : Int} : ∀ {l : List Int} {p : Option Int},Ajy n p l = false -> ∀ a ∈ l,0 <= a /\ a < n
 | [],_,_,a,h => by cases h
 | b :: r,p,h,a,ha => by
  unfold Ajy at h;simp only [cp_,decide_eq_false_iff_not] at h
  rcases aj_.1 ha with rfl | ha
  ·omega
  ·exact Aly h.2 a ha
theorem Alz {n : Int} {l : List Int} (h : Wl n l = 0) : 1 <= n /\ n <= 5 /\ ∀ a ∈ l,0 <= a /\ a < n := by
 unfold Wl at h
 split at h
 ·cases h
 ·rename_i h1
  split at h
  ·cases h
  ·rename_i h2
   simp only [bc_,decide_eq_true_eq,not_or] at h1;rw [Bool.not_eq_true] at h2
   exact ⟨by omega,by omega,Aly h2⟩
def Ahf {α : Type} (l : List α) (i : Nat) : Option α := if i = 0 then none else l[i - 1]?
theorem Ajz {α : Type} {l : List α} {i : Nat} {a : α} (h : l[i]? = some a) : Ahf l (i + 1) = some a := by unfold Ahf; rw [if_neg Om]; exact h
def Hj (n m : Int) : Nat -> Int -> Int
 | 0,c => c
 | k + 1,c => if decide (m < c * n) = true then m + 1 else Hj n m k (c * n)
theorem Ac6 {n m : Int} : ∀ {k : Nat} {c : Int},Hj n m k c <= m -> Hj n m k c = c * n ^ k
 | 0,c,_ => by simp [Hj]
 | k + 1,c,h => by
  unfold Hj at h ⊢
  split at h
  ·omega
  ·rename_i h1
   rw [if_neg h1,Ac6 h,Int.pow_succ,Int.mul_assoc,Int.mul_comm n]
def Mk (g : List Rl) (n : Int) : List Tb -> SM (List Int) -> Int × SM (List Int)
 | [],tm => (0,tm)
 | t :: r,tm => match Cf g t.label with
  | none => (360,tm)
  | some x => if (x.var || (tm.get t.label).isSome) = true then (360,tm) else
   if decide (10000 < Hj n 10000 (Eh x) 1) = true then (4,tm) else
   if (!decide (Int.ofNat t.vals.length = Hj n 10000 (Eh x) 1) || t.vals.any fun v => decide (v < 0) || decide (n <= v)) = true then (360,tm) else Mk g n r (tm.put t.label t.vals)
def axR (g : List Rl) : List Rl := g.filter fun r => !r.var
def Ml (g : List Rl) (n : Int) (l : List Tb) : Int × SM (List Int) :=
 let x := Mk g n l []
 if x.1 = 0 then (if x.2.length = (axR g).length then x else (360,x.2)) else x
def Fa (gr : Gr × Int) (m : Md) : Int :=
 if gr.2 = 0 then (if Wl m.n m.des = 0 then (Ml gr.1.rules m.n m.tabs).1 else Wl m.n m.des) else gr.2
theorem Ahg {g : List Rl} {n : Int} (hn : 1 <= n) : ∀ {l : List Tb} {tm : SM (List Int)},Abq g tm n -> (Mk g n l tm).1 = 0 -> Abq g (Mk g n l tm).2 n
 | [],tm,ht,_ => ht
 | t :: r,tm,ht,h => by
  unfold Mk at h ⊢
  split at h
  ·cases h
  ·rename_i x hx
   split at h
   ·cases h
   ·rename_i h1
    rw [if_neg h1]
    split at h
    ·cases h
    ·rename_i h2
     rw [if_neg h2]
     split at h
     ·cases h
     ·rename_i h3
      rw [if_neg h3];simp only [bc_,not_or,Bool.not_eq_true,decide_eq_true_eq,bt_,decide_eq_false_iff_not,Decidable.not_not,dt_,not_exists,not_and] at h1 h2 h3;have hL := Ac6 (n := n) (m := 10000) (k := Eh x) (c := 1) Om;refine Ahg hn ⟨hn,fun s tab hs => ?_,fun s tab hs => ?_,fun s tab hs => ?_⟩ h
      ·rw [bz_] at hs
       split at hs
       ·rename_i he
        cases hs; subst he
        exact ⟨x,hx,h1.1,by rw [h3.1,hL,Int.one_mul]⟩
       ·exact ht.key s tab hs
      ·rw [bz_] at hs
       split at hs
       ·rename_i he
        cases hs; subst he;intro v hv;have := h3.2 v hv;omega
       ·exact ht.val s tab hs
      ·rw [bz_] at hs
       split at hs
       ·rename_i he
        cases hs; subst he;have h9 := h3.1;simp only [am_] at h9; omega
       ·exact ht.len s tab hs
theorem Aqg {g : List Rl} {n : Int} {l : List Tb} (hn : 1 <= n) (h : (Ml g n l).1 = 0) : Abq g (Ml g n l).2 n := by
 unfold Ml at h ⊢;simp only at h ⊢
 split at h
 ·rename_i h1
  rw [if_pos h1]
  split at h
  ·rename_i h2
   rw [if_pos h2]
   exact Ahg hn ⟨hn,fun s tab hs => (by cases hs),fun s tab hs => (by cases hs),fun s tab hs => (by cases hs)⟩ h1
  ·cases h
 ·rename_i h1
  exact absurd h h1
theorem f40 (p : Tb -> Bool) (l : List Tb) (k : Nat) (cap : List AV) (J : Sto) (hb : l.length < 4611686018427387904) (hk : ∀ a ∈ l,A6 Ew k ([.agg (eTb a)] ++ cap) J fun v J' => v = .bool (p a) /\ J' = J) :
  Cv 40 [slV eTb 2 l,.fn (.func k) [] cap] J (iV (A7 p l 0)) := by
 refine Az Tryz.func40 rfl rfl fun hw hu => ?_
 refine Ac (Aa (OA rfl (Ab (Ac (Ac (Aa (OM rfl ?_)))))));refine O1 (Aq sl27 rfl) (OM rfl (Ab (Am ?_)));refine B8 l.length (fun i => [(0,slV eTb 2 l),(1,.fn (.func k) [] cap),(7,iV (.ofNat l.length)),(8,iV (.ofNat i))]) (fun i J' => J' = J /\ A7 p l 0 = A7 p (l.drop i) i) SL ⟨rfl,rfl⟩ ?_
 rintro i J' hi ⟨rfl,hf⟩;refine Ac (Aa (O1 (A8 ok3 rfl rfl) (Ab (Ac ?_))));refine Ah rfl ?_ ?_ <;> intro h
 ·have hlt : i < l.length := by simpa using h
  obtain ⟨a,ha⟩ : ∃ a,l[i]? = some a := ⟨_,ao_ hlt⟩
  have hd : l.drop i = a :: l.drop (i + 1) := by
   obtain ⟨h1,rfl⟩ := ae_.1 ha;exact b_ h1
  refine Ai (Ac (Am (Ac (Aa (OM rfl (OA rfl (Ab ?_)))))));refine Ac (Aa (OM rfl (OM rfl (OM rfl (O1 (Ax el27 (fun _ => rfl) rfl rfl ha) ?_)))))
  refine O1 (Ae Apm rfl rfl (Cj ((fun _ => rfl : ∀ a,(eTb a).length = 2) a) _)) ?_
  refine B4 rfl rfl rfl rfl (hk a (af_ ha)) ?_;rintro _ _ ⟨rfl,rfl⟩;refine Ab ?_;refine Ah rfl (fun h' => ?_) (fun h' => ?_)
  ·refine Ac (Aa (OM rfl (OA rfl (Ab ?_))));refine An ?_;refine ⟨_,rfl,iV (.ofNat i),_,ag_ hw nl (fun _ _ => rfl),nl,.same rfl,?_,rfl⟩
   rw [hf,hd]; simp only [A7,h',cond_true]
  ·refine Ai (Aa (O1 (Ay (p := i) (q := 1) ok3 rfl rfl Om) ?_));refine OM rfl (Ab ?_);refine ⟨hlt,SL,rfl,?_⟩;rw [hf,hd]; simp only [A7,h',cond_false]
 ·have hge : l.length <= i := by simpa using h
  refine Ba ?_;refine Ac (Aa (OA rfl (Ab ?_)));refine An ?_;refine ⟨_,rfl,iV (-1),_,ag_ hw nl (fun _ _ => rfl),nl,.same rfl,?_,rfl⟩
  rw [hf,ah_ hge]; rfl
theorem f17 (p : Tb -> Bool) (l : List Tb) (k : Nat) (cap : List AV) (J : Sto) (hb : l.length < 4611686018427387904) (hk : ∀ a ∈ l,A6 Ew k ([.agg (eTb a)] ++ cap) J fun v J' => v = .bool (p a) /\ J' = J) :
  Cv 17 [slV eTb 2 l,.fn (.func k) [] cap] J (.bool (l.any p)) := by
 refine Az Tryz.func17 rfl rfl fun hw _ => ?_
 refine Ac (Aa (OA rfl (Ab (Ac (Aa (OM rfl (OM rfl ?_)))))));refine B4 rfl rfl rfl rfl (f40 p l k cap J hb hk) ?_;rintro _ _ ⟨rfl,rfl⟩;refine O1 (Eq ok3 rfl rfl) (OA rfl (Ab ?_));refine An (Bq hw rfl ?_);exact congrArg AV.bool (E5 l)
theorem f77 (p : Int -> Bool) (l : List Int) (k : Nat) (cap : List AV) (J : Sto) (hb : l.length < 4611686018427387904) (hk : ∀ a ∈ l,A6 Ew k ([iV a] ++ cap) J fun v J' => v = .bool (p a) /\ J' = J) :
  Cv 77 [slV eI 1 l,.fn (.func k) [] cap] J (iV (A7 p l 0)) := by
 refine Az Tryz.func77 rfl rfl fun hw hu => ?_
 refine Ac (Aa (OA rfl (Ab (Ac (Ac (Aa (OM rfl ?_)))))));refine O1 (Aq Aep rfl) (OM rfl (Ab (Am ?_)));refine B8 l.length (fun i => [(0,slV eI 1 l),(1,.fn (.func k) [] cap),(7,iV (.ofNat l.length)),(8,iV (.ofNat i))]) (fun i J' => J' = J /\ A7 p l 0 = A7 p (l.drop i) i) SL ⟨rfl,rfl⟩ ?_
 rintro i J' hi ⟨rfl,hf⟩;refine Ac (Aa (O1 (A8 ok3 rfl rfl) (Ab (Ac ?_))));refine Ah rfl ?_ ?_ <;> intro h
 ·have hlt : i < l.length := by simpa using h
  obtain ⟨a,ha⟩ : ∃ a,l[i]? = some a := ⟨_,ao_ hlt⟩
  have hd : l.drop i = a :: l.drop (i + 1) := by
   obtain ⟨h1,rfl⟩ := ae_.1 ha;exact b_ h1
  refine Ai (Ac (Am (Ac (Aa (OM rfl (OA rfl (Ab ?_)))))));refine Ac (Aa (OM rfl (OM rfl (OM rfl (O1 (Ax Agr (fun _ => rfl) rfl rfl ha) ?_)))))
  refine O1 (Ae ld3 rfl rfl rfl) (B4 rfl rfl rfl rfl (hk a (af_ ha)) ?_);rintro _ _ ⟨rfl,rfl⟩;refine Ab ?_;refine Ah rfl (fun h' => ?_) (fun h' => ?_)
  ·refine Ac (Aa (OM rfl (OA rfl (Ab ?_))));refine An ?_;refine ⟨_,rfl,iV (.ofNat i),_,ag_ hw nl (fun _ _ => rfl),nl,.same rfl,?_,rfl⟩
   rw [hf,hd]; simp only [A7,h',cond_true]
  ·refine Ai (Aa (O1 (Ay (p := i) (q := 1) ok3 rfl rfl Om) ?_));refine OM rfl (Ab ?_);refine ⟨hlt,SL,rfl,?_⟩;rw [hf,hd]; simp only [A7,h',cond_false]
 ·have hge : l.length <= i := by simpa using h
  refine Ba ?_;refine Ac (Aa (OA rfl (Ab ?_)));refine An ?_;refine ⟨_,rfl,iV (-1),_,ag_ hw nl (fun _ _ => rfl),nl,.same rfl,?_,rfl⟩
  rw [hf,ah_ hge]; rfl
theorem f57 (p : Int -> Bool) (l : List Int) (k : Nat) (cap : List AV) (J : Sto) (hb : l.length < 4611686018427387904) (hk : ∀ a ∈ l,A6 Ew k ([iV a] ++ cap) J fun v J' => v = .bool (p a) /\ J' = J) :
  Cv 57 [slV eI 1 l,.fn (.func k) [] cap] J (.bool (l.any p)) := by
 refine Az Tryz.func57 rfl rfl fun hw _ => ?_
 refine Ac (Aa (OA rfl (Ab (Ac (Aa (OM rfl (OM rfl ?_)))))));refine B4 rfl rfl rfl rfl (f77 p l k cap J hb hk) ?_;rintro _ _ ⟨rfl,rfl⟩;refine O1 (Eq ok3 rfl rfl) (OA rfl (Ab ?_));refine An (Bq hw rfl ?_);exact congrArg AV.bool (E5 l)
theorem f34 (p : Vl -> Bool) (l : List Vl) (k : Nat) (cap : List AV) (J : Sto) (hb : l.length < 4611686018427387904) (hk : ∀ a ∈ l,A6 Ew k ([.agg (eVl a)] ++ cap) J fun v J' => v = .bool (p a) /\ J' = J) :
  Cv 34 [slV eVl 2 l,.fn (.func k) [] cap] J (iV (A7 p l 0)) := by
 refine Az Tryz.func34 rfl rfl fun hw hu => ?_
 refine Ac (Aa (OA rfl (Ab (Ac (Ac (Aa (OM rfl ?_)))))));refine O1 (Aq sl42 rfl) (OM rfl (Ab (Am ?_)));refine B8 l.length (fun i => [(0,slV eVl 2 l),(1,.fn (.func k) [] cap),(7,iV (.ofNat l.length)),(8,iV (.ofNat i))]) (fun i J' => J' = J /\ A7 p l 0 = A7 p (l.drop i) i) SL ⟨rfl,rfl⟩ ?_
 rintro i J' hi ⟨rfl,hf⟩;refine Ac (Aa (O1 (A8 ok3 rfl rfl) (Ab (Ac ?_))));refine Ah rfl ?_ ?_ <;> intro h
 ·have hlt : i < l.length := by simpa using h
  obtain ⟨a,ha⟩ : ∃ a,l[i]? = some a := ⟨_,ao_ hlt⟩
  have hd : l.drop i = a :: l.drop (i + 1) := by
   obtain ⟨h1,rfl⟩ := ae_.1 ha;exact b_ h1
  refine Ai (Ac (Am (Ac (Aa (OM rfl (OA rfl (Ab ?_)))))));refine Ac (Aa (OM rfl (OM rfl (OM rfl (O1 (Ax Aer (fun _ => rfl) rfl rfl ha) ?_)))))
  refine O1 (Ae ld45 rfl rfl (Cj ((fun _ => rfl : ∀ a,(eVl a).length = 2) a) _)) ?_
  refine B4 rfl rfl rfl rfl (hk a (af_ ha)) ?_;rintro _ _ ⟨rfl,rfl⟩;refine Ab ?_;refine Ah rfl (fun h' => ?_) (fun h' => ?_)
  ·refine Ac (Aa (OM rfl (OA rfl (Ab ?_))));refine An ?_;refine ⟨_,rfl,iV (.ofNat i),_,ag_ hw nl (fun _ _ => rfl),nl,.same rfl,?_,rfl⟩
   rw [hf,hd]; simp only [A7,h',cond_true]
  ·refine Ai (Aa (O1 (Ay (p := i) (q := 1) ok3 rfl rfl Om) ?_));refine OM rfl (Ab ?_);refine ⟨hlt,SL,rfl,?_⟩;rw [hf,hd]; simp only [A7,h',cond_false]
 ·have hge : l.length <= i := by simpa using h
  refine Ba ?_;refine Ac (Aa (OA rfl (Ab ?_)));refine An ?_;refine ⟨_,rfl,iV (-1),_,ag_ hw nl (fun _ _ => rfl),nl,.same rfl,?_,rfl⟩
  rw [hf,ah_ hge]; rfl
theorem Al0 {E : Env} {ρ : Ao} {J : Sto} {Rr : Rec} {t ty : Nat} {x y : Operand} {p q : Int} (hi : okI E.P t = true) (hx : A4 E ρ x = some (.int .i64 p)) (hy : A4 E ρ y = some (.int .i64 q)) (h1 : -9223372036854775808 <= p * q) (h2 : p * q < 9223372036854775808) :
  Bo E Rr (.binOp .mul t x y ty) ρ J (iV (p * q)) J := Lv hi hx hy (by simp only [G0,Vw h1 h2]; rfl)
def bigT (t : Tb) : Bool := decide ((700 : Int) < Int.ofNat t.vals.length)
def fewM (m : Md) : Bool := (decide (Int.ofNat m.des.length <= (10 : Int)) && decide (Int.ofNat m.tabs.length <= (20 : Int))) && !m.tabs.any bigT
theorem f18 (t : Tb) (J : Sto) : Cv 18 [.agg (eTb t)] J (.bool (bigT t)) := by
 refine Az Tryz.func18 rfl rfl fun hw hu0 => ?_
 refine Ac (Aa (Ar Apm rfl rfl rfl (OA rfl (Ab (Ac (Aa (O1 (Ad Auh rfl rfl) ?_)))))));refine O1 (Ae Wc rfl rfl rfl) (O1 (Aq Aep rfl) (O1 (Ca (q := 700) ok3 rfl rfl) (OA rfl (Ab ?_))));refine An (Bq hw rfl ?_)
 rfl
theorem f5 (m : Md) (J : Sto) : Cv 5 [mdV m] J (.bool (fewM m)) := by
 refine Az Tryz.func5 rfl rfl fun hw hu0 => ?_
 refine Ac (Aa (Ar Apg rfl rfl rfl (OA rfl (Ab (Ac (Aa (O1 (Ad Aph rfl rfl) ?_)))))));refine O1 (Ae Wc rfl rfl rfl) (O1 (Aq Aep rfl) (O1 (R4 (q := 10) ok3 rfl rfl) (OM rfl ?_)));refine Cy 4 _ ?_ rfl rfl rfl rfl rfl (Aw rfl) (fun hg => ?_) (fun hg => ?_) ?_
 rotate_left
 ·refine On hg (Ad Ajk rfl rfl) (On hg (Ae ld27 rfl rfl rfl) (On hg (Aq sl27 rfl) (On hg (R4 (q := 20) ok3 rfl rfl) (Ab ?_))));refine ⟨rfl,?_,?_⟩
  ·exact sb
  ·exact rfl
 ·refine Of hg (Of hg (Of hg (Of hg (Ab ?_))));exact ⟨rfl,sb⟩
 refine OM rfl ?_;refine Cy 4 _ ?_ rfl rfl rfl rfl rfl (Aw rfl) (fun hg => ?_) (fun hg => ?_) ?_
 rotate_left
 ·refine On hg (Ad Ajk rfl rfl) (On hg (Ae ld27 rfl rfl rfl) (B5 rfl rfl rfl (by rw [hg]; rfl) rfl rfl rfl rfl (f17 bigT m.tabs 18 [] _ (by simp at hg; omega) (fun a _ => f18 a _)) ?_))
  refine On hg (Bb rfl) (Ab ?_);refine ⟨rfl,?_,?_⟩
  ·exact sb
  ·exact rfl
 ·refine Of hg (Of hg (Of hg (Of hg (Ab ?_))));exact ⟨rfl,sb⟩
 refine OA rfl (Ab ?_);refine An (Bq hw rfl ?_)
 rfl
theorem f35 (x : Vl) (s : Str) (J : Sto) : Cv 35 [.agg (eVl x),.pv [sV s]] J (.bool (decide (x.var = s))) := by
 refine Az Tryz.func35 rfl rfl fun hw hu0 => ?_
 refine Ac (Aa (Ar ld45 rfl rfl rfl (OA rfl (Ab (Ac (Aa (O1 (Ad Aug rfl rfl) ?_)))))));refine O1 (Ae ld9 rfl rfl rfl) (O1 (Ae ld9 rfl rfl rfl) (O1 (I0 ok9 rfl rfl) (OA rfl (Ab ?_))));refine An (Bq hw rfl ?_)
 rfl
theorem f58 (a : Int) (m : Md) (J : Sto) : Cv 58 [iV a,.pv [iV m.n,slV eI 1 m.des,slV eTb 2 m.tabs]] J (.bool (decide (a < 0) || decide (m.n <= a))) := by
 refine Az Tryz.func58 rfl rfl fun hw hu0 => ?_
 refine Ac (Aa (OA rfl (Ab (Ac (Aa (OM rfl (O1 (A8 (q := 0) ok3 rfl rfl) ?_)))))));refine OM rfl ?_;refine Cm 4 _ ?_ rfl rfl rfl rfl rfl (Aw rfl) (fun hg => ?_) (fun hg => ?_) ?_
 rotate_left
 ·refine On hg (Ag rfl) (On hg (Ad Aeq rfl rfl) (On hg (Ae ld3 rfl rfl rfl) (On hg (Eq ok3 rfl rfl) (Ab ?_))));refine ⟨rfl,?_,?_⟩
  ·exact sb
  ·exact rfl
 ·refine Of hg (Of hg (Of hg (Of hg (Ab ?_))));exact ⟨rfl,sb⟩
 refine OA rfl (Ab ?_);refine An (Bq hw rfl ?_)
 rfl
theorem f73 (r : Rl) (s : Str) (J : Sto) : Cv 73 [.agg (eR r),.pv [sV s]] J (.bool (decide (r.label = s))) := by
 refine Az Tryz.func73 rfl rfl fun hw hu0 => ?_
 refine Ac (Aa (Ar Ey rfl rfl rfl (OA rfl (Ab (Ac (Aa (O1 (Ad Aam rfl rfl) ?_)))))));refine O1 (Ae ld9 rfl rfl rfl) (O1 (Ae ld9 rfl rfl rfl) (O1 (I0 ok9 rfl rfl) (OA rfl (Ab ?_))));refine An (Bq hw rfl ?_)
 rfl
theorem f80 (r : Rl) (J : Sto) : Cv 80 [.agg (eR r)] J (.bool r.var) := by
 refine Az Tryz.func80 rfl rfl fun hw hu0 => ?_
 refine Ac (Aa (Ar Ey rfl rfl rfl (OA rfl (Ab (Ac (Aa (O1 (Ad Aan rfl rfl) ?_)))))));refine O1 (Ae ld4 rfl rfl rfl) (OA rfl (Ab ?_));refine An (Bq hw rfl ?_)
 rfl
theorem f48 (g : Gr) (s : Str) (J : Sto) (hb : g.rules.length < 1000000) : Cv 48 [grV g,sV s] J (iV (A7 (fun r => decide (r.label = s)) g.rules 0)) := by
 refine Az Tryz.func48 rfl rfl fun hw hu0 => ?_
 refine Ac (Aa (Ar D3 rfl rfl rfl (Ar ld9 rfl rfl rfl (OA rfl (Ab (Ac (Aa ?_)))))));refine O1 (Ad Gh rfl rfl) (O1 (Ae Qg rfl rfl rfl) (O1 (Fw rfl rfl) (Ap rfl rfl rfl rfl (f72 (fun r => decide (r.label = s)) g.rules 73 [.pv [sV s]] _ Om (fun a _ => f73 a s _)) ?_)))
 refine OA rfl (Ab ?_);refine An (Bq hw rfl ?_)
 rfl
theorem Ae6 (r : Rl) : (eR r).length = 4 := rfl
def zRl : Rl := ⟨[],[],[],false⟩
def L0 (l : List Rl) (s : Str) : Rl := (Cf l s).getD zRl
theorem Aqh {J τ : Sto} : FzL J τ [.str [],.str [],.nil (.slice none 0 0),.bool false] (eR zRl) := .cons (.same rfl) (.cons (.same rfl) (.cons Ds (.cons (.same rfl) .nil)))
theorem f28 (g : Gr) (s : Str) (J : Sto) (hb : g.rules.length < 1000000) : Cv 28 [grV g,sV s] J (.agg (eR (L0 g.rules s))) := by
 refine Az Tryz.func28 rfl rfl fun hw hu0 => ?_
 refine Ac (Aa (Ar D3 rfl rfl rfl (O1 (Cw X1) (Ab (Ac (Ac (Aa ?_)))))));refine O1 (Ae D3 rfl rfl rfl) (OM rfl (Ap rfl rfl rfl rfl (f48 g s _ hb) (OA rfl (Ab (Ac (Aa (OM rfl ?_)))))));refine O1 (Eq (q := 0) ok3 rfl rfl) (Ab ?_);refine Ah rfl ?_ ?_ <;> intro h1
 ·obtain ⟨n,r,e1,e2,e3⟩ : ∃ n r,A7 (fun r => decide (r.label = s)) g.rules 0 = Int.ofNat n /\ g.rules[n]? = some r /\ Cf g.rules s = some r := by
   rcases Nx (l := g.rules) (s := s) with ⟨e1,_⟩ | h
   ·rw [e1] at h1; exact absurd h1 (by decide)
   ·exact h
  rw [e1];refine Ac (Aa (O1 (Ad Gh rfl rfl) (O1 (Ae Qg rfl rfl rfl) (OM rfl (O1 (Ax La (fun _ => rfl) rfl rfl e2) ?_)))))
  refine O1 (Ae Ey rfl rfl (Cj (Ae6 r) _)) (O1 (Dg (a := nx J) (off := 0) (cs := [.str [],.str [],.nil (.slice none 0 0),.bool false]) (cs' := eR r) (by rw [ab_,if_pos rfl]) Ey rfl rfl rfl rfl) ?_)
  refine Ab ?_;refine An ?_
  exact ⟨[.agg (eR r)],B6 Ey rfl (by simp only [Sto.cells]; rw [a_,if_pos rfl]) rfl rfl,_,J,ap_ hw ⟨by rw [Ak,Aj]; omega,fun b hb => by rw [a_,if_neg Om,ab_,if_neg Om]⟩,nl,.same (Nv r),by unfold L0; rw [e3]; rfl,rfl⟩
 ·have e0 : Cf g.rules s = none := by
   rcases Nx (l := g.rules) (s := s) with ⟨_,e⟩ | ⟨n,r,e1,_⟩
   ·exact e
   ·rw [e1] at h1; exact absurd h1 (by simp)
  refine Ai (Ac (Aa (O1 (B1 Am8 rfl rfl) (O1 (Dg (a := nx J) (off := 0) (cs := [.str [],.str [],.nil (.slice none 0 0),.bool false]) (cs' := [.str [],.str [],.nil (.slice none 0 0),.bool false]) (by rw [ab_,if_pos rfl]) Ey rfl rfl rfl rfl) ?_))))
  refine Ab ?_;refine An ?_
  exact ⟨[.agg [.str [],.str [],.nil (.slice none 0 0),.bool false]],B6 Ey rfl (by simp only [Sto.cells]; rw [a_,if_pos rfl]) rfl rfl,_,J,ap_ hw ⟨by rw [Ak,Aj]; omega,fun b hb => by rw [a_,if_neg Om,ab_,if_neg Om]⟩,nl,.agg Aqh,by unfold L0; rw [e0]; rfl,rfl⟩
theorem f56 (r : Rl) (J : Sto) (hb : r.parts.length < 1000000) : Cv 56 [.agg (eR r)] J (iV (.ofNat (Eh r))) := by
 refine Az Tryz.func56 rfl rfl fun hw hu0 => ?_
 refine Ac (Aa (Ar Ey rfl rfl rfl (OA rfl (Ab (Ac (Aa (OA rfl ?_)))))));refine Ab (Ac (Ac (Aa (O1 (Ad Lz rfl rfl) (O1 (Ae Abo rfl rfl rfl) (O1 (Aq Ags rfl) (OM rfl ?_)))))));refine Ab (Am ?_);refine B8 r.parts.length (fun i0 => [(3,iV (.ofNat ((r.parts.take i0).filter fun p => !decide (p.sort = [])).length)),(7,slV ePt 3 r.parts),(8,iV (.ofNat r.parts.length)),(9,iV (.ofNat i0))]) (fun i0 J0 => J0 = J) SL rfl ?_
 rintro i0 J0 hi0 rfl;refine Ac (Aa (O1 (A8 ok3 rfl rfl) (Ab (Ac ?_))));refine Ah rfl ?_ ?_ <;> intro h1
 ·have bf : i0 < r.parts.length := by simpa using h1
  obtain ⟨a0,ha0⟩ := Bt bf;have hd0 := Bh ha0
  have hl0 : ((r.parts.take i0).filter fun p => !decide (p.sort = [])).length <= i0 := ax_ (df_ _ _) (by rw [bl_]; omega)
  have ht0 : ((r.parts.take (i0 + 1)).filter fun p => !decide (p.sort = [])).length = ((r.parts.take i0).filter fun p => !decide (p.sort = [])).length + if (!decide (a0.sort = [])) = true then 1 else 0 := by
   rw [Ci ha0,dw_,az_]
   congr 1
   cases hq : (!decide (a0.sort = [])) <;> simp [hq]
  refine Ai (Ac (Am (Ac (Aa (O1 (Ax Abp (fun _ => rfl) rfl rfl ha0) ?_)))))
  refine O1 (Ae Ox rfl rfl rfl) (Bz Ak9 Ox rfl (fun _ => rfl) rfl rfl rfl rfl ?_)
  refine Ab (Ac (Aa (O1 (Ad Q7 rfl rfl) (O1 (Ae ld9 rfl rfl rfl) (O1 (Lx (q := []) ok9 rfl rfl) (Ab ?_))))));refine Ah rfl ?_ ?_ <;> intro h2
  ·rw [if_pos h2] at ht0;refine Aa (OM rfl (O1 (Ay (q := 1) ok3 rfl rfl Om) ?_));refine OA rfl (Ab (Aa (O1 (Ay (q := 1) ok3 rfl rfl Om) ?_)));refine OM rfl (Ab ?_)
   refine ⟨bf,⟨by rw [ht0]; rfl,rfl,rfl,rfl,trivial⟩,rfl⟩
  ·rw [if_neg (by rw [h2]; simp),dn_] at ht0
   refine Ai (Aa (O1 (Ay (q := 1) ok3 rfl rfl Om) ?_));refine OM rfl (Ab ?_)
   refine ⟨bf,⟨by rw [ht0]; rfl,rfl,rfl,rfl,trivial⟩,rfl⟩
 ·have bq : r.parts.length <= i0 := by simpa using h1
  refine Ba ?_;refine Ac (Aa (OM rfl (OA rfl (Ab ?_))));refine An (Bq hw rfl ?_);rw [at_ bq]; rfl
theorem f55 (n : Int) (k : Nat) (J : Sto) (g1 : 1 <= n) (h5 : n <= 5) (hk : k < 1000000) : Cv 55 [iV n,iV (.ofNat k),iV 10000] J (iV (Hj n 10000 k 1)) := by
 refine Az Tryz.func55 rfl rfl fun hw hu0 => ?_
 refine Ac (Aa (OA rfl (Ab (Ac (Aa (OA rfl (Ab ?_)))))));refine Ac (Ac (Aa (OM rfl (OM rfl (Ab (Am ?_))))))
 refine B8 k (fun i0 => [(0,iV n),(2,iV 10000),(7,iV (n ^ i0)),(8,iV (.ofNat k)),(9,iV (.ofNat i0))]) (fun i0 J0 => J0 = J /\ n ^ i0 <= 10000 /\ Hj n 10000 k 1 = Hj n 10000 (k - i0) (n ^ i0)) ⟨rfl,rfl,congrArg (fun x => some (iV x)) (Int.pow_zero n).symm,rfl,rfl,trivial⟩ ⟨rfl,(by show n ^ 0 <= 10000; rw [Int.pow_zero]; omega),(by rw [Int.pow_zero]; rfl)⟩ ?_
 rintro i0 J0 hi0 ⟨rfl,hp0,hf0⟩;refine Ac (Aa (O1 (A8 ok3 rfl rfl) (Ab (Ac ?_))));refine Ah rfl ?_ ?_ <;> intro h1
 ·have bf : i0 < k := by simpa using h1
  have hn0 : 0 <= n ^ i0 := Int.pow_nonneg Om;have hm0 : n ^ i0 * n <= 10000 * 5 := Int.mul_le_mul hp0 h5 Om Om;have hm1 : 0 <= n ^ i0 * n := Int.mul_nonneg hn0 Om
  rw [show k - i0 = (k - (i0 + 1)) + 1 by omega,Hj] at hf0
  refine Ai (Ac (Am (Ac (Aa (OM rfl (OM rfl (O1 (Al0 ok3 rfl rfl Om Om) ?_)))))));refine OA rfl (Ab (Ac (Aa (OM rfl (OM rfl (O1 (Ca ok3 rfl rfl) (Ab ?_)))))));refine Ah rfl ?_ ?_ <;> intro h2
  ·skip
   refine Ac (Aa (OM rfl (O1 (Aku (p := 10000) (q := 1) ok3 rfl rfl Om Om) ?_)));refine OA rfl (Ab ?_);refine An (Bq hw rfl ?_);rw [hf0,if_pos h2]; rfl
  ·skip
   refine Ai (Aa (O1 (Ay (q := 1) ok3 rfl rfl Om) ?_));refine OM rfl (Ab ?_)
   refine ⟨bf,⟨rfl,rfl,congrArg (fun x => some (iV x)) (Int.pow_succ n i0).symm,rfl,rfl,trivial⟩,rfl,(by rw [Int.pow_succ]; simpa using h2),(by rw [hf0,if_neg (by simpa using h2),Int.pow_succ])⟩
 ·have bq : k <= i0 := by simpa using h1
  refine Ba ?_;refine Ac (Aa (OM rfl (OA rfl (Ab ?_))));refine An (Bq hw rfl ?_)
  rw [hf0,show k - i0 = 0 by omega,Hj]; rfl
theorem f53 (n : Int) (l : List Int) (J : Sto) (hb : l.length < 1000000) : Cv 53 [iV n,slV eI 1 l] J (iV (Wl n l)) := by
 refine Az Tryz.func53 rfl rfl fun hw hu0 => ?_
 refine Ac (Aa (OA rfl (Ab (Ac (Ac (Aa (OM rfl ?_)))))));refine O1 (A8 (q := 1) ok3 rfl rfl) (OM rfl ?_);refine Cm 2 _ ?_ rfl rfl rfl rfl rfl (Aw rfl) (fun hg => ?_) (fun hg => ?_) ?_
 rotate_left
 ·refine On hg (Ag rfl) (On hg (Ca (q := 5) ok3 rfl rfl) (Ab ?_));refine ⟨rfl,?_,?_⟩
  ·exact sb
  ·exact rfl
 ·refine Of hg (Of hg (Ab ?_));exact ⟨rfl,sb⟩
 refine Ab ?_;refine Ah rfl ?_ ?_ <;> intro h1
 ·skip
  refine Ac (Aa (OA rfl (Ab ?_)));refine An (Bq hw rfl ?_);unfold Wl; rw [if_pos h1]; rfl
 ·skip
  refine Ai (Ac (Ac (Aa (OM rfl (O1 (Aq Aep rfl) (OM rfl (Ab ?_)))))));refine Am ?_;refine B8 l.length (fun i0 => [(0,iV n),(1,slV eI 1 l),(13,slV eI 1 l),(14,iV (.ofNat l.length)),(15,iV (.ofNat i0))]) (fun i0 J0 => J0 = J /\ Ajy n none l = Ajy n (Ahf l i0) (l.drop i0)) SL ⟨rfl,rfl⟩ ?_
  rintro i0 J0 hi0 ⟨rfl,hf0⟩;refine Ac (Aa (O1 (A8 ok3 rfl rfl) (Ab (Ac ?_))));refine Ah rfl ?_ ?_ <;> intro h2
  ·have bf : i0 < l.length := by simpa using h2
   obtain ⟨a0,ha0⟩ := Bt bf;have hd0 := Bh ha0
   obtain ⟨p0,hp0⟩ : ∃ p,0 < i0 -> l[i0 - 1]? = some p := by
    by_cases hz : 0 < i0
    ·obtain ⟨p,hp⟩ := Bt (show i0 - 1 < l.length by omega)
     exact ⟨p,fun _ => hp⟩
    ·exact ⟨0,fun h => absurd h hz⟩
   have hm0 : leB (Ahf l i0) a0 = (decide ((0 : Int) < Int.ofNat i0) && decide (a0 <= p0)) := by
    unfold Ahf
    by_cases hz : 0 < i0
    ·rw [if_neg Om,hp0 hz]
     show decide (a0 <= p0) = _
     rw [show decide ((0 : Int) < Int.ofNat i0) = true by simpa using hz]; rfl
    ·rw [if_pos Om]
     show false = _
     rw [show decide ((0 : Int) < Int.ofNat i0) = false by simpa using hz]; rfl
   rw [hd0,Ajy,hm0] at hf0;refine Ai (Ac (Am (Ac (Aa (OM rfl (O1 (Ax Agr (fun _ => rfl) rfl rfl ha0) ?_))))))
   refine O1 (Ae ld3 rfl rfl rfl) (OA rfl (OA rfl (Ab (Ac (Aa (OM rfl (O1 (A8 (q := 0) ok3 rfl rfl) ?_)))))));refine OM rfl ?_;refine Cm 3 _ ?_ rfl rfl rfl rfl rfl (Aw rfl) (fun hg => ?_) (fun hg => ?_) ?_
   rotate_left
   ·refine On hg (Ag rfl) (On hg (Ag rfl) (On hg (Eq ok3 rfl rfl) (Ab ?_)));refine ⟨rfl,?_,?_⟩
    ·exact sb
    ·exact rfl
   ·refine Of hg (Of hg (Of hg (Ab ?_)));exact ⟨rfl,sb⟩
   refine OM rfl ?_;refine Cm 11 _ ?_ rfl rfl rfl rfl rfl (Aw rfl) (fun hg => ?_) (fun hg => ?_) ?_
   rotate_left
   ·refine On hg (Ag rfl) (On hg (Ca (q := 0) ok3 rfl rfl) (On hg (Ag rfl) ?_))
    refine Cy 7 _ ?_ rfl rfl rfl rfl rfl (Ke rfl rfl rfl rfl (by rw [hg]; rfl)) (fun hg => ?_) (fun hg => ?_) ?_
    rotate_left
    ·refine On hg (Ag rfl) (On hg (Ag rfl) (On hg (Ag rfl) (On hg (Aei (q := 1) ok3 rfl rfl (by simp at hg; omega) Om) ?_)))
     refine On hg (Ax Agr (fun _ => rfl) rfl rfl (hp0 (by simp at hg; omega))) ?_
     refine On hg (Ae ld3 rfl rfl rfl) (On hg (R4 ok3 rfl rfl) (Ab ?_));refine ⟨rfl,?_,?_⟩
     ·exact sb
     ·exact rfl
    ·refine Of hg (Of hg (Of hg (Of hg (Of hg (Of hg (Of hg (Ab ?_)))))));exact ⟨rfl,sb⟩
    refine Ab ?_;refine ⟨rfl,?_,?_⟩
    ·exact sb
    ·exact rfl
   ·refine Of hg (Of hg (Of hg (Ou (Ou (Ou (Ou (Ou ?_)))))));refine Ou (Ou (Of hg (Ab ?_)));exact ⟨rfl,sb⟩
   refine Ab ?_;refine Ah rfl ?_ ?_ <;> intro h3
   ·have h3' : ((decide (a0 < 0) || decide (n <= a0)) || (decide ((0 : Int) < Int.ofNat i0) && decide (a0 <= p0))) = true := h3
    refine Ac (Aa (OA rfl (Ab ?_)));refine An (Bq hw rfl ?_)
    unfold Wl; rw [if_neg (by rw [show (decide (n < 1) || decide (5 < n)) = false from h1]; simp),hf0,h3']; rfl
   ·have h3' : ((decide (a0 < 0) || decide (n <= a0)) || (decide ((0 : Int) < Int.ofNat i0) && decide (a0 <= p0))) = false := h3
    refine Ai (Aa (O1 (Ay (q := 1) ok3 rfl rfl Om) ?_));refine OM rfl (Ab ?_)
    refine ⟨bf,SL,rfl,(by rw [hf0,Ajz ha0,h3']; rfl)⟩
  ·have bq : l.length <= i0 := by simpa using h2
   refine Ba ?_;refine Ac (Aa (OA rfl (Ab ?_)));refine An (Bq hw rfl ?_)
   unfold Wl; rw [if_neg (by rw [show (decide (n < 1) || decide (5 < n)) = false from h1]; simp),hf0,ah_ bq]; rfl
section
variable {E : Env} {ρ : Ao} {J : Sto} {Rr : Rec} {t t' : Nat} {x : Operand} {v z : AV}
def coI (P : Program) (t : Nat) : Option (Option AV) := match Bf P t with
 | some ti => match ti.desc with
  | .interface _ => none
  | _ => some (H0 ti)
 | none => none
theorem Aqi {o : Option AV} (hi : coI E.P t = some o) (hx : A4 E ρ x = some v) : Bo E Rr (.makeInterface t x) ρ J (.ifc t v) J := fun tm h => by
 unfold coI at hi
 split at hi
 ·rename_i ti hti
  simp only [opA,Bd,hti,h.opd hx]
  split at hi
  ·cases hi
  ·rename_i hd
   split
   ·rename_i hd2; exact absurd hd2 (hd _)
   ·rfl
 ·cases hi
theorem Ahh {s : Nat} {o : Option AV} (hi : coI E.P t = some o) (hx : A4 E ρ x = some (.ifc t v)) : Bo E Rr (.typeAssert x s t true) ρ J (.tup [v,.bool true]) J := fun tm h => by
 unfold coI at hi
 split at hi
 ·rename_i ti hti
  simp only [opA,Bd,hti,h.opd hx]
  split at hi
  ·cases hi
  ·rename_i hd
   split
   ·rename_i hd2; exact absurd hd2 (hd _)
   ·simp only [Mu,bg_]; rfl
 ·cases hi
theorem Ano {s : Nat} (hi : coI E.P t = some (some z)) (hx : A4 E ρ x = some (.ifc t' v)) (hb : Nat.beq t' t = false) : Bo E Rr (.typeAssert x s t true) ρ J (.tup [z,.bool false]) J := fun tm h => by
 unfold coI at hi
 split at hi
 ·rename_i ti hti
  simp only [opA,Bd,hti,h.opd hx]
  split at hi
  ·cases hi
  ·rename_i hd
   split
   ·rename_i hd2; exact absurd hd2 (hd _)
   ·have hz : H0 ti = some z := dr_ hi;simp only [Mu,hb,hz]
 ·cases hi
end
theorem Ato : coI Ew.P 252 = some (some (.str [])) := Kr
theorem Aqj : coI Ew.P 254 = some (some (.agg [.str [],.nil (.slice none 0 0)])) := Kr
theorem I5 {ρ : Ao} {J : Sto} {Rr : Rec} {t n : Nat} {z : List AV} (hi : zI Ew.P t = some z) (hn : nx J = n) : Bo Ew Rr (.alloc t) ρ J (.pr n 0) (J.new (.cells z)) := by subst hn; exact Cw hi
def iN (n : Nat) : AV := iV (.ofNat n)
theorem Aqk {te : TI} {n : Nat} {i : Nat} (_ : te.size = n) (h : te.isAgg = false) : O4 te (iN i) = true := by unfold iN iV O4; rw [h]; rfl
def Il : List Hp -> Nat -> SM Nat -> SM Nat
 | [],_,m => m
 | h :: r,i,m => Il r (i + 1) (m.put (txv h) i)
theorem Ahi : ∀ {l : List Hp} {n : Nat} {m : SM Nat},(∀ s i,m.get s = some i -> i < n) -> ∀ s i,(Il l n m).get s = some i -> i < n + l.length
 | [],n,m,h,s,i,hs => by simpa using h s i hs
 | x :: r,n,m,h,s,i,hs => by
  have := Ahi (l := r) (n := n + 1) (m := m.put (txv x) n) (fun s i hh => by
   rw [bz_] at hh
   split at hh
   ·cases hh; omega
   ·have := h s i hh; omega) s i hs
  simp only [aq_]; omega
def Aql (hyps : List Hp) (i : Nat) : Str := match hyps[i]? with | some h => h.text.headD [] | none => []
def axP (args : SM Nat) (hyps : List Hp) : List Str -> SM Bool -> List Pt -> Option (List Pt)
 | [],_,ps => some ps
 | s :: r,met,ps => match args.get s with
  | none => axP args hyps r met (ps ++ [⟨s,[],0⟩])
  | some i => if met.has s = true then none else axP args hyps r (met.put s true) (ps ++ [⟨[],Aql hyps i,Int.ofNat i⟩])
def Im (f : Fr) : Option Rl := match axP (Il f.hyps 0 []) f.hyps (f.text.drop 1) [] [] with
 | none => none
 | some ps => some ⟨f.label,f.text.headD [],ps,false⟩
def axV : Option Rl -> AV
 | none => .tup [.agg (eR ⟨[],[],[],false⟩),.bool false]
 | some r => .tup [.agg (eR r),.bool true]
def zR : List AV := [.str [],.str [],.nil (.slice none 0 0),.bool false]
theorem f70 (f : Fr) (J : Sto) (t0 : Str) (hB : FrB f) (htx : ∃ tl,f.text = t0 :: tl) (hh : ∀ h ∈ f.hyps,∃ a b,h.text = [a,b]) : Cv 70 [.agg (eF f)] J (axV (Im f)) := by
 refine Az Tryz.func70 rfl rfl fun hw hu0 => ?_
 obtain ⟨tl,htx⟩ := htx;have hbh := hB.h;have hbt := hB.t
 have hbt1 : (f.text.drop 1).length < 1000000 := by rw [cu_]; omega
 refine Ac (Aa (Ar Qf rfl rfl rfl (O1 (Cw X1) (OA rfl (Ab (Ac (Aa ?_)))))));refine O1 (C6 (n := nx J + 1) Uh (nx1 rfl)) (OA rfl (Ab (Ac (Ac (Aa (O1 (Ad Hf rfl rfl) (O1 (Ae K7 rfl rfl rfl) ?_)))))));refine O1 (Aq F3 rfl) (OM rfl (Ab ?_));have c9 : nx ((J.new (.cells zR)).new (.map 9 [] 0)) = nx J + 2 /\ ((J.new (.cells zR)).new (.map 9 [] 0)).get (nx J) = some (.cells zR) /\ (∀ b,b < nx J -> ((J.new (.cells zR)).new (.map 9 [] 0)).get b = J.get b) /\ ∃ m,Bx iN ((J.new (.cells zR)).new (.map 9 [] 0)) (nx J + 1) m /\ Il f.hyps 0 [] = Il (f.hyps.drop 0) 0 m :=
  ⟨by rw [Aj,Aj],by rw [ab_,if_neg (by rw [Aj]; omega),ab_,if_pos rfl],fun b hb => by rw [ab_,if_neg (by rw [Aj]; omega),ab_,if_neg Om],[],⟨0,by rw [ab_,if_pos (by rw [Aj])]; rfl⟩,rfl⟩
 refine Am ?_;refine B8 f.hyps.length (fun i0 => [(1,.pv (eF f)),(2,.pr (nx J) 0),(4,.mp (nx J + 1)),(15,slV eH 3 f.hyps),(16,iV (.ofNat f.hyps.length)),(17,iV (.ofNat i0))]) (fun i0 J0 => nx J0 = nx J + 2 /\ J0.get (nx J) = some (.cells zR) /\ (∀ b,b < nx J -> J0.get b = J.get b) /\ ∃ m,Bx iN J0 (nx J + 1) m /\ Il f.hyps 0 [] = Il (f.hyps.drop i0) i0 m) SL c9 ?_
 rintro i0 J0 hi0 ⟨hn0,h20,hg0,m,hm0,hf0⟩;refine Ac (Aa (O1 (A8 ok3 rfl rfl) (Ab (Ac ?_))));refine Ah rfl ?_ ?_ <;> intro h1
 ·have bf : i0 < f.hyps.length := by simpa using h1
  obtain ⟨a0,ha0⟩ := Bt bf;have hd0 := Bh ha0;obtain ⟨u0,u1,hux⟩ := hh a0 (af_ ha0);obtain ⟨vm,hvm⟩ := id hm0;refine Ai (Ac (Am (Ac (Aa (OM rfl (O1 (Ax Ih (fun _ => rfl) rfl rfl ha0) ?_))))))
  refine O1 (Ae D2 rfl rfl rfl) (Ub Sm D2 rfl rfl (fun _ => rfl) rfl (fun _ => rfl) rfl rfl rfl rfl rfl ?_)
  refine Ab (Aa (OM rfl (O1 (Ad C7 rfl rfl) (O1 (Ae Ce rfl rfl rfl) (O1 (Ax Da (fun _ => rfl) rfl rfl (by rw [hux]; rfl : a0.text[1]? = some u1) (i := 1)) ?_)))))
  refine O1 (Ae ld9 rfl rfl rfl) (OM rfl (O1 (E8 (v := i0) (enc := iN) st9 Uh rfl hvm rfl rfl (fun te k1 k2 => Aqk k1 k2)) ?_))
  refine Ab (Aa (O1 (Ay (q := 1) ok3 rfl rfl Om) ?_));refine OM rfl (Ab ?_)
  refine ⟨bf,SL,by rw [Ak]; exact hn0,by rw [a_,if_neg Om]; exact h20,fun b hb => by rw [a_,if_neg Om]; exact hg0 b hb,m.put u1 i0,dh_,by rw [hf0,hd0,Il,Yg hux]⟩
 ·have bq : f.hyps.length <= i0 := by simpa using h1
  have bm : Il f.hyps 0 [] = m := by rw [hf0,ah_ bq]; rfl
  subst bm;refine Ba ?_;refine Ac (Aa (O1 (C6 (n := nx J + 2) Uj hn0) (OA rfl (Ab (Ac ?_)))));refine Dp fun hw5 => ?_
  refine Ig 1 (anns := [aP 0 1,aR 0 1,aP 0 1,aR 0 1,aP 0 1,aR 0 1,aP 0 1,aE 0 1,aE 1 2]) A1 (As (l := []) trivial) Kr Kr ?_
  refine DF (Ad Sl rfl rfl) (DF (Ae ld9 rfl rfl rfl) (DF (Ad Wf rfl rfl) (DF (Ae Ce rfl rfl rfl) (DF (Ax Da (fun _ => rfl) rfl rfl (by rw [htx]; rfl : f.text[0]? = some t0) (i := 0)) ?_))))
  refine DF (Ae ld9 rfl rfl rfl) (DF (B1 Am8 rfl rfl) (DT (I5 (n := nx J + 3) X1 (nx1 hn0)) (DT (B9 (ad := nx J + 3) (off := 0) (vs := zR) (vs' := [sV f.label,sV t0,.nil (.slice none 0 0),.bool false]) (cs := [sV f.label,sV t0,.nil (.slice none 0 0),.bool false]) Ey rfl rfl rfl (by simp only [Sto.cells]; rw [ab_,if_pos (by rw [Aj,hn0])]; rfl) rfl) ?_)))
  refine Bi ?_
  refine ⟨(by intro e he; simp at he; rcases he with rfl | rfl <;> first | exact .refl | exact Uf hw5),?_⟩
  refine Ac (Ac (Aa (O1 (Ad Wf rfl rfl) (O1 (Ae Ce rfl rfl rfl) (O1 (Aek (enc := e1) Da (fun _ => rfl) rfl rfl (by rw [htx]; simp)) ?_)))))
  refine O1 (Aq Ee rfl) (OM rfl (Ab ?_))
  have ez : ∃ met ps vp,(((J0.new (.map 9 [] 0)).new (.cells zR)).set (nx J + 3) (.cells [sV f.label,sV t0,.nil (.slice none 0 0),.bool false])).get (nx J + 3) = some (.cells [sV f.label,sV t0,vp,.bool false]) /\ Own (((J0.new (.map 9 [] 0)).new (.cells zR)).set (nx J + 3) (.cells [sV f.label,sV t0,.nil (.slice none 0 0),.bool false])) (nx J + 4) ePt 3 ps vp /\ E7 (((J0.new (.map 9 [] 0)).new (.cells zR)).set (nx J + 3) (.cells [sV f.label,sV t0,.nil (.slice none 0 0),.bool false])) (nx J + 2) met /\ Bx iN (((J0.new (.map 9 [] 0)).new (.cells zR)).set (nx J + 3) (.cells [sV f.label,sV t0,.nil (.slice none 0 0),.bool false])) (nx J + 1) (Il f.hyps 0 []) /\ (((J0.new (.map 9 [] 0)).new (.cells zR)).set (nx J + 3) (.cells [sV f.label,sV t0,.nil (.slice none 0 0),.bool false])).get (nx J) = some (.cells zR) /\ (∀ b,b < nx J -> (((J0.new (.map 9 [] 0)).new (.cells zR)).set (nx J + 3) (.cells [sV f.label,sV t0,.nil (.slice none 0 0),.bool false])).get b = J.get b) /\ nx J + 4 <= nx (((J0.new (.map 9 [] 0)).new (.cells zR)).set (nx J + 3) (.cells [sV f.label,sV t0,.nil (.slice none 0 0),.bool false])) /\ ps.length <= 0 /\ axP (Il f.hyps 0 []) f.hyps (f.text.drop 1) [] [] = axP (Il f.hyps 0 []) f.hyps ((f.text.drop 1).drop 0) met ps := by
   have hlo : ∀ b,b < nx J + 2 -> (((J0.new (.map 9 [] 0)).new (.cells zR)).set (nx J + 3) (.cells [sV f.label,sV t0,.nil (.slice none 0 0),.bool false])).get b = J0.get b := fun b hb => by rw [a_,if_neg Om,ab_,if_neg (by rw [Aj,hn0]; omega),ab_,if_neg (by rw [hn0]; omega)]
   refine ⟨[],[],.nil (.slice none 0 0),by rw [a_,if_pos rfl],.nil,⟨0,?_⟩,hm0.of_get (hlo _ Om),(hlo _ Om).trans h20,fun b hb => (hlo b Om).trans (hg0 b hb),by rw [Ak,Aj,Aj,hn0]; exact nl,nl,rfl⟩
   rw [a_,if_neg Om,ab_,if_neg (by rw [Aj,hn0]; omega),ab_,if_pos hn0.symm]; rfl
  refine Am ?_;refine B8 (f.text.drop 1).length (fun i2 => [(1,.pv (eF f)),(2,.pr (nx J) 0),(4,.mp (nx J + 1)),(7,.mp (nx J + 2)),(8,.pr (nx J + 3) 0),(39,slV e1 1 (f.text.drop 1)),(40,iV (.ofNat (f.text.drop 1).length)),(41,iV (.ofNat i2))]) (fun i2 J2 => ∃ met ps vp,J2.get (nx J + 3) = some (.cells [sV f.label,sV t0,vp,.bool false]) /\ Own J2 (nx J + 4) ePt 3 ps vp /\ E7 J2 (nx J + 2) met /\ Bx iN J2 (nx J + 1) (Il f.hyps 0 []) /\ J2.get (nx J) = some (.cells zR) /\ (∀ b,b < nx J -> J2.get b = J.get b) /\ nx J + 4 <= nx J2 /\ ps.length <= i2 /\ axP (Il f.hyps 0 []) f.hyps (f.text.drop 1) [] [] = axP (Il f.hyps 0 []) f.hyps ((f.text.drop 1).drop i2) met ps) SL ez ?_
  rintro i2 J2 hi2 ⟨met,ps,vp,h8,bn,hs2,hm2,h22,hg2,hn2,hpl,hf2⟩;refine Ac (Aa (O1 (A8 ok3 rfl rfl) (Ab (Ac ?_))));refine Ah rfl ?_ ?_ <;> intro h2
  ·have br : i2 < (f.text.drop 1).length := by simpa using h2
   obtain ⟨a2,ha2⟩ := Bt br;have hd2 := Bh ha2;obtain ⟨vm,hvm⟩ := id hs2;refine Ai (Ac (Am (Ac (Aa (O1 (Ax Da (fun _ => rfl) rfl rfl ha2) ?_)))))
   refine O1 (Ae ld9 rfl rfl rfl) (OA rfl (Ab (Ac (Aa (OM rfl (OM rfl (O1 (Kf (enc := iN) st9 Uh rfl hm2 rfl) ?_)))))));refine OM rfl (O1 (Al rfl rfl) (O1 (Al rfl rfl) (OA rfl (OA rfl (Ab (Ac (Am ?_)))))));refine Ac (Aa (OM rfl (O1 (Bb rfl) (OA rfl (Ab ?_)))));refine Ah rfl ?_ ?_ <;> intro h3
   ·have hna : (Il f.hyps 0 []).get a2 = none := by simpa using h3
    have bh : (ps.length + [(⟨a2,[],0⟩ : Pt)].length) * (40 + 1) <= sizeLim := by have h11 := br; rw [cu_] at h11; simp [sizeLim]; omega
    obtain ⟨v1,τ1,hap,ho1,hb1,_⟩ := ej_ (by' := 40) (enc := ePt) (sz := 3) (fun _ => rfl) hn2 bn [(⟨a2,[],0⟩ : Pt)] bh
    have h8t : τ1.get (nx J + 3) = some (.cells [sV f.label,sV t0,vp,.bool false]) := (hb1.2 _ Om).trans h8
    refine Ac (Aa (O1 (Ad Lz rfl rfl) (O1 (Ae (u := .pr (nx J + 3) 2) (cs := [vp,.bool false]) Abo rfl (by simp only [Dq,Sto.cells,h8]; rfl) rfl) ?_)))
    refine OM rfl (O1 (B1 Alb rfl rfl) (E6 (Bn Abp byW rfl rfl rfl) (Gd (len := 1)) rfl rfl (O1 (B0 Abp rfl Ags rfl rfl rfl (new := ePt (⟨a2,[],0⟩ : Pt)) rfl hap) (O1 (Ad Lz rfl rfl) (O1 (B9 (ad := nx J + 3) (off := 2) (vs := [sV f.label,sV t0,vp,.bool false]) (vs' := [sV f.label,sV t0,v1,.bool false]) (cs := [v1]) Abo rfl rfl (Mi ho1) (by simp only [Sto.cells,h8t]) rfl) ?_)))))
    refine Ab ?_;refine Ba ?_;refine Aa (O1 (Ay (q := 1) ok3 rfl rfl Om) ?_);refine OM rfl (Ab ?_)
    refine ⟨br,SL,met,ps ++ [(⟨a2,[],0⟩ : Pt)],v1,by rw [a_,if_pos rfl],ho1.mono (by rw [Ak]; exact nl) fun a tl _ h11 h12 _ => by rw [a_,if_neg Om],(hs2.of_get (hb1.2 _ Om)).set Om,(hm2.of_get (hb1.2 _ Om)).set Om,by rw [a_,if_neg Om,hb1.2 _ Om]; exact h22,fun b hb => by rw [a_,if_neg Om,hb1.2 b Om]; exact hg2 b hb,by rw [Ak]; exact ax_ hn2 hb1.1,by rw [az_]; simp; omega,by rw [hf2,hd2,axP,hna]⟩
   ·obtain ⟨iA,hna⟩ : ∃ iA,(Il f.hyps 0 []).get a2 = some iA := bp_.1 (by simpa using h3)
    have hlA : iA < f.hyps.length := by have := Ahi (l := f.hyps) (n := 0) (m := []) (fun _ _ h => by cases h) a2 iA hna; omega
    obtain ⟨hI,hIA⟩ := Bt hlA;obtain ⟨u0,u1,hux⟩ := hh hI (af_ hIA)
    rw [show ((SM.get (Il f.hyps 0 []) a2).map iN).getD (.int .i64 0) = iN iA by rw [hna]; rfl]
    refine Ac (Aa (OM rfl (OM rfl (O1 (De st9 Uj rfl hs2 rfl) (OA rfl (Ab ?_))))));refine Ah rfl ?_ ?_ <;> intro h4
    ·refine Ac (Aa (O1 (B1 Am8 rfl rfl) (O1 (B9 (ad := nx J) (off := 0) (vs := zR) (vs' := zR) (cs := zR) Ey rfl rfl rfl (by simp only [Sto.cells,h22]) rfl) ?_)))
     refine OA rfl (Ab ?_)
     have hF : Im f = none := by unfold Im; rw [hf2,hd2,axP,hna]; simp only []; rw [if_pos (show met.has a2 = true from h4)]
     refine An ?_
     exact ⟨[.agg zR,.bool false],B6 Ey rfl (by simp only [Sto.cells]; rw [a_,if_pos rfl]) rfl (Dj rfl rfl),axV none,J,ap_ hw ⟨by rw [Ak]; omega,fun b hb => by rw [a_,if_neg Om]; exact hg2 b hb⟩,nl,.tup (.cons (.agg (.cons (.same rfl) (.cons (.same rfl) (.cons Ds (.cons (.same rfl) .nil))))) (.cons (.same rfl) .nil)),by rw [hF],rfl⟩
    ·have mf : Own (J2.set (nx J + 2) (.map 9 (Cp bV (met.put a2 true)) (vm + 1))) (nx J + 4) ePt 3 ps vp := bn.mono (by rw [Ak]; exact nl) fun a tl _ h11 h12 _ => by rw [a_,if_neg Om]
     have h8' : (J2.set (nx J + 2) (.map 9 (Cp bV (met.put a2 true)) (vm + 1))).get (nx J + 3) = some (.cells [sV f.label,sV t0,vp,.bool false]) := by rw [a_,if_neg Om]; exact h8
     have bh : (ps.length + [(⟨[],u0,Int.ofNat iA⟩ : Pt)].length) * (40 + 1) <= sizeLim := by have h11 := br; rw [cu_] at h11; simp [sizeLim]; omega
     obtain ⟨v1,τ1,hap,ho1,hb1,_⟩ := ej_ (by' := 40) (enc := ePt) (sz := 3) (fun _ => rfl) (by rw [Ak]; exact hn2) mf [(⟨[],u0,Int.ofNat iA⟩ : Pt)] bh
     have h8t : τ1.get (nx J + 3) = some (.cells [sV f.label,sV t0,vp,.bool false]) := (hb1.2 _ Om).trans h8'
     refine Ai (Ac (Aa (OM rfl (OM rfl (O1 (E8 (v := true) st9 Uj rfl hvm rfl rfl (fun te k1 k2 => by first | exact Fq k1 k2 | exact Fs k1 k2 | exact Ge k1 k2 | exact Gf k1 k2 | exact Ft k1 k2 rfl)) ?_)))))
     refine Ab ?_;refine Cc (anns := [aP 0 0,aR 0 0,aP 0 0,aR 0 0,aP 0 0,aP 0 0,aP 0 0,aR 0 0,aP 0 0,aR 0 0,aP 0 0,aP 0 0,aP 0 0,aE 0 1,aP 1 1,aE 1 2]) A1 (As (l := []) trivial) Kr Kr ?_
     refine DF (Ad Lz rfl rfl) (DF (Ae (u := .pr (nx J + 3) 2) (cs := [vp,.bool false]) Abo rfl (by simp only [Dq,Sto.cells,h8']; rfl) rfl) ?_)
     refine DF (Ad Hf rfl rfl) (DF (Ae K7 rfl rfl rfl) (DF (Ag rfl) (DF (Ax Ih (fun _ => rfl) rfl rfl hIA) ?_)))
     refine DF (Ad C7 rfl rfl) (DF (Ae Ce rfl rfl rfl) (DF (Ax Da (fun _ => rfl) rfl rfl (by rw [hux]; rfl : hI.text[0]? = some u0) (i := 0)) ?_))
     refine DF (Ae ld9 rfl rfl rfl) (DF (Ag rfl) (DF (B1 Alb rfl rfl) (DF (Bn Abp byW rfl rfl rfl) (DT (B0 Abp rfl Ags rfl rfl rfl (new := ePt (⟨[],u0,Int.ofNat iA⟩ : Pt)) rfl hap) (DF (Ad Lz rfl rfl) (DT (B9 (ad := nx J + 3) (off := 2) (vs := [sV f.label,sV t0,vp,.bool false]) (vs' := [sV f.label,sV t0,v1,.bool false]) (cs := [v1]) Abo rfl rfl (Mi ho1) (by simp only [Sto.cells,h8t]) rfl) ?_))))))
     refine Bi (Aa (O1 (Ay (q := 1) ok3 rfl rfl Om) ?_));refine OM rfl (Ab ?_)
     refine ⟨br,SL,met.put a2 true,ps ++ [(⟨[],u0,Int.ofNat iA⟩ : Pt)],v1,by rw [a_,if_pos rfl],ho1.mono (by rw [Ak]; exact nl) fun a tl _ h11 h12 _ => by rw [a_,if_neg Om],Bx.set (Bx.of_get dh_ (hb1.2 _ Om)) Om,Bx.set (Bx.of_get (hm2.set Om) (hb1.2 _ Om)) Om,by rw [a_,if_neg Om,hb1.2 _ Om,a_,if_neg Om]; exact h22,fun b hb => by rw [a_,if_neg Om,hb1.2 b Om,a_,if_neg Om]; exact hg2 b hb,by rw [Ak]; exact ax_ (by rw [Ak]; exact hn2) hb1.1,by rw [az_]; simp; omega,by rw [hf2,hd2,axP,hna]; simp only []; rw [if_neg (by rw [show met.has a2 = false from h4]; simp),Aql,hIA]; simp only [hux]; rfl⟩
  ·have b8 : (f.text.drop 1).length <= i2 := by simpa using h2
   have hax : axP (Il f.hyps 0 []) f.hyps (f.text.drop 1) [] [] = some ps := by rw [hf2,ah_ b8]; rfl
   refine Ba ?_
   refine Ac (Aa (O1 (Ae (u := .pr (nx J + 3) 0) (cs := [sV f.label,sV t0,vp,.bool false]) Ey rfl (by simp only [Dq,Sto.cells,h8]; rfl) rfl) ?_))
   refine O1 (B9 (ad := nx J) (off := 0) (vs := zR) (vs' := [sV f.label,sV t0,vp,.bool false]) (cs := [sV f.label,sV t0,vp,.bool false]) Ey rfl rfl rfl (by simp only [Sto.cells,h22]) rfl) ?_
   refine OA rfl (Ab ?_)
   have hF : Im f = some ⟨f.label,t0,ps,false⟩ := by unfold Im; rw [hax]; simp only [htx]; rfl
   refine An ?_
   exact ⟨[.agg [sV f.label,sV t0,vp,.bool false],.bool true],B6 Ey rfl (by simp only [Sto.cells]; rw [a_,if_pos rfl]) rfl (Dj rfl rfl),axV (some ⟨f.label,t0,ps,false⟩),J,ap_ hw ⟨by rw [Ak]; omega,fun b hb => by rw [a_,if_neg Om]; exact hg2 b hb⟩,nl,.tup (.cons (.agg (.cons (.same rfl) (.cons (.same rfl) (.cons (bn.mono (by rw [Ak]; exact nl) (fun a tl _ h11 h12 _ => by rw [a_,if_neg Om]) |>.fz (fun _ => rfl) (fun a ha => hw.none Om) (Co Aav _)) (.cons (.same rfl) .nil))))) (.cons (.same rfl) .nil)),by rw [hF],rfl⟩
theorem f81r (l : List Str) (s : Str) (a : Nat) (tl : List AV) (J : Sto) (hg : J.get a = some (.cells (l.flatMap e1 ++ tl))) (hb : l.length < 1000000) : Cv 81 [.sr a 0 1 l.length none,sV s] J (iV (A7 (fun x => decide (s = x)) l 0)) := by
 refine Az Tryz.func81 rfl rfl fun hw hu0 => ?_
 refine Ac (Aa (OA rfl (Ab (Ac (Ac (Aa (OM rfl ?_)))))));refine O1 (Em Ee rfl rfl rfl) (OM rfl (Ab (Am ?_)));refine B8 l.length (fun i0 => [(0,.sr a 0 1 l.length none),(1,sV s),(7,iV (.ofNat l.length)),(8,iV (.ofNat i0))]) (fun i0 J0 => J0 = J /\ A7 (fun x => decide (s = x)) l 0 = A7 (fun x => decide (s = x)) (l.drop i0) i0) SL ⟨rfl,rfl⟩ ?_
 rintro i0 J0 hi0 ⟨rfl,hf0⟩;refine Ac (Aa (O1 (A8 ok3 rfl rfl) (Ab (Ac ?_))));refine Ah rfl ?_ ?_ <;> intro h1
 ·have bf : i0 < l.length := by simpa using h1
  obtain ⟨a0,ha0⟩ := Bt bf;have hd0 := Bh ha0;refine Ai (Ac (Am (Ac (Aa (OM rfl (OA rfl (Ab ?_)))))));refine Ac (Aa (OM rfl (OM rfl (OM rfl (O1 (Ie Da rfl rfl bf) (O1 (Qb (enc := e1) (v := sV a0) (fun _ => rfl) ld9 rfl hg ha0 (fun _ => rfl)) ?_))))))
  refine O1 (I0 ok9 rfl rfl) (Ab ?_);refine Ah rfl ?_ ?_ <;> intro h2
  ·refine Ac (Aa (OM rfl (OA rfl (Ab ?_))));refine An (Bq hw rfl ?_)
   exact (by rw [hf0,hd0]; simp only [A7,show decide (s = a0) = true from h2,cond_true]; rfl)
  ·refine Ai (Aa (O1 (Ay (q := 1) ok3 rfl rfl Om) ?_));refine OM rfl (Ab ?_)
   refine ⟨bf,SL,rfl,by rw [hf0,hd0]; simp only [A7,show decide (s = a0) = false from h2,cond_false]⟩
 ·have bq : l.length <= i0 := by simpa using h1
  refine Ba ?_;refine Ac (Aa (OA rfl (Ab ?_)));refine An (Bq hw rfl ?_)
  exact (by rw [hf0,ah_ bq]; rfl)
theorem f61r (l : List Str) (s : Str) (a : Nat) (tl : List AV) (J : Sto) (hg : J.get a = some (.cells (l.flatMap e1 ++ tl))) (hb : l.length < 1000000) : Cv 61 [.sr a 0 1 l.length none,sV s] J (.bool (l.any fun x => decide (s = x))) := by
 refine Az Tryz.func61 rfl rfl fun hw hu0 => ?_
 refine Ac (Aa (OA rfl (Ab (Ac (Aa (OM rfl (OM rfl ?_)))))));refine Ap rfl rfl rfl rfl (f81r l s a tl _ hg hb) (O1 (Eq (q := 0) ok3 rfl rfl) (OA rfl (Ab ?_)));refine An (Bq hw rfl ?_);exact congrArg AV.bool (E5 l)
theorem Aqm {N : Nat} (l : List Str) (s : Str) (v : AV) (J : Sto) (h : Own J N e1 1 l v) (hb : l.length < 1000000) : A6 Ew 61 [v,sV s] J fun u J' => u = .bool (l.any fun x => decide (s = x)) /\ J' = J := by
 rcases h with ⟨rfl,rfl | rfl⟩ | ⟨a,tl,_,_,rfl,hg⟩
 ·exact (f61 [] s J (by simp)).wk (.cons Z2 .refl)
 ·exact (f61 [] s J (by simp)).wk (.cons Gd .refl)
 ·exact f61r l s a tl J hg hb
def Hx (l : List Hp) (m : SM Hp) : SM Hp := l.foldl (fun m h => m.put (txv h) h) m
theorem Ac7 : ∀ {l : List Hp} {m : SM Hp} {v : Str},(∃ h ∈ l,txv h = v) -> ∃ h ∈ l,(Hx l m).get v = some h /\ txv h = v
 | [],_,_,⟨_,h,_⟩ => by cases h
 | x :: l,m,v,hx => by
  by_cases hl : ∃ h ∈ l,txv h = v
  ·obtain ⟨h,h1,h2⟩ := Ac7 (m := m.put (txv x) x) hl;exact ⟨h,ak_ _ h1,h2⟩
  ·obtain ⟨h,hm,e⟩ := hx
   rcases aj_.1 hm with rfl | hm
   ·refine ⟨h,bi_ ..,?_,e⟩
    show (Hx l (m.put (txv h) h)).get v = some h
    have key : ∀ {l : List Hp} {m : SM Hp},(∀ y ∈ l,txv y ≠ v) -> (Hx l m).get v = m.get v := by
     intro l
     induction l with
     | nil => intro m _; rfl
     | cons y l ih =>
      intro m hy
      show (Hx l (m.put (txv y) y)).get v = _
      rw [ih (fun z hz => hy z (ak_ _ hz)),bz_,if_neg (gj_ (hy y (bi_ ..)))]
    rw [key (fun y hy e => hl ⟨y,hy,e⟩),bz_,if_pos e.symm]
   ·exact absurd ⟨h,hm,e⟩ hl
def zG : Gr := ⟨[],[]⟩
def Ae7 (g : Gr) (t0 : Str) : List Str := if (!(g.sorts.any fun x => decide (t0 = x))) = true then g.sorts ++ [t0] else g.sorts
def varG (h : Hp) (v : Str) (g : Gr) : Gr := ⟨Ae7 g (h.text.headD []),g.rules ++ [⟨h.label,h.text.headD [],[⟨v,[],0⟩],true⟩]⟩
def O2 (hy : SM Hp) : List Str -> Gr -> Option Gr
 | [],g => some g
 | v :: r,g => match hy.get v with
  | none => none
  | some h => if decide (h.text.headD [] = [124,45]) = true then none else O2 hy r (varG h v g)
def Ac8 (f : Fr) (g : Gr) : Bool := (f.thm || f.hyps.any (fun h => !h.floating)) || !(g.sorts.any fun x => decide (f.text.headD [] = x))
def Gt : List Fr -> Gr -> Option Gr
 | [],g => some g
 | f :: r,g => if Ac8 f g = true then Gt r g else match Im f with
  | none => none
  | some rl => Gt r ⟨g.sorts,g.rules ++ [rl]⟩
def ofF (d : Db) : Gr × Int :=
 if (!decide (Dt d = 0)) = true then (zG,Dt d)
 else match O2 (Hx (B2 d) []) d.vars zG with
  | none => (zG,11)
  | some g => match Gt d.frames g with
   | none => (zG,150)
   | some g => if (!decide (Gy g = 0)) = true then (zG,4) else (g,0)
def eRg (r : Rl) : List AV := [sV r.label,sV r.sort,.sv (r.parts.flatMap ePt) 3 r.parts.length (if r.var = true then some 1 else none),.bool r.var]
theorem Auq {J τ : Sto} (r : Rl) : FzL J τ (eRg r) (eR r) := .cons (.same rfl) (.cons (.same rfl) (.cons (.sv (fun q h => by cases h) (.same (Co Aav _))) (.cons (.same rfl) .nil)))
theorem Aj0 {f : Fr} {r : Rl} (h : Im f = some r) : r.var = false := by
 unfold Im at h
 split at h
 ·cases h
 ·cases h; rfl
theorem Aur {r : Rl} (h : r.var = false) : eRg r = eR r := by unfold eRg eR slV; rw [h]; rfl
theorem Ae8 {args : SM Nat} {hyps : List Hp} : ∀ {l : List Str} {met : SM Bool} {ps q : List Pt},axP args hyps l met ps = some q -> q.length = ps.length + l.length
 | [],_,ps,q,h => by cases h; rfl
 | s :: l,met,ps,q,h => by
  unfold axP at h
  split at h
  ·have := Ae8 h; rw [this,az_]; simp; omega
  ·split at h
   ·cases h
   ·have := Ae8 h; rw [this,az_]; simp; omega
theorem Aj1 {f : Fr} {r : Rl} (h : Im f = some r) : r.parts.length <= f.text.length := by
 unfold Im at h
 split at h
 ·cases h
 ·rename_i ps hp; cases h
  have := Ae8 hp
  show ps.length <= _
  rw [this]; simp
theorem Ahj {pw : Str -> Bool} {k : Kn} {f : Fr} {before : List Hp} (h : Es pw k f before = 0) : ∃ t0 tl,f.text = t0 :: tl := by
 have ht : (k.fr f.label).textF f.text = 0 := by
  unfold Es at h
  split at h
  ·cases h
  ·split at h
   ·cases h
   ·split at h
    ·cases h
    ·split at h
     ·rename_i hc; rw [h] at hc; exact absurd hc (by decide)
     ·split at h
      ·exact h
      ·rename_i hc; simpa using hc
 cases hx : f.text with
 | nil => unfold Kn.textF at ht; rw [hx] at ht; simp at ht
 | cons a l => exact ⟨a,l,rfl⟩
theorem Aj2 {pw : Str -> Bool} {d : Db} (h : Et pw d = 0) {f : Fr} (hf : f ∈ d.frames) : ∃ t0 tl,f.text = t0 :: tl := by
 obtain ⟨k',be',_,h2⟩ := Sp (Ag7 h) f hf;exact Ahj h2
theorem Anp {d : Db} (h : Dt d = 0) : Et Ei d = 0 /\ (∀ x ∈ B2 d,∃ a b,x.text = [a,b]) /\ ∀ v ∈ d.vars,∃ x ∈ B2 d,txv x = v := by
 unfold Dt at h
 split at h
 ·rename_i hc
  split at h
  ·rename_i ho
   obtain ⟨l,hl⟩ := bp_.1 ho
   have e : B2 d = l := by unfold B2; rw [if_pos hc,hl]; rfl
   rw [e];exact ⟨hc,Ag9 hc hl⟩
  ·cases h
 ·rename_i hc; exact absurd h hc
theorem Ahk {vars : List Str} {s : Ord} : ∀ {n : Nat} {done : SM Bool} {out l : List Hp},Wh vars s n done out = some l -> l.length = out.length + n
 | 0,_,_,_,e => by cases e; rfl
 | n + 1,done,out,l,e => by
  unfold Wh at e
  split at e
  ·cases e
  ·split at e
   ·cases e
   ·rw [Ahk e,az_]; simp; omega
theorem Ahl (d : Db) : (B2 d).length <= d.vars.length := by
 unfold B2
 split
 ·cases ho : Eu d with
  | none => simp
  | some l =>
   show l.length <= _
   unfold Eu at ho
   split at ho
   ·split at ho
    ·cases ho; simp
    ·cases ho
   ·split at ho
    ·cases ho
    ·rw [Ahk ho]; simp
 ·simp
def Ip : List AV := [.nil (.slice none 0 0),.nil (.slice none 0 0)]
structure GSt (J τ : Sto) (hy : SM Hp) (g : Gr) (vS vR : AV) : Prop where
 n : nx J + 3 <= nx τ
 g0 : ∀ b,b < nx J -> τ.get b = J.get b
 t : τ.get (nx J) = some (.cells Ip)
 m : Bx hV τ (nx J + 1) hy
 c : τ.get (nx J + 2) = some (.cells [vS,vR])
 s : Own τ (nx J + 3) e1 1 g.sorts vS
 r : Own τ (nx J + 3) eRg 4 g.rules vR
 d : ∀ a b x y,vS = .sr a 0 1 x none -> vR = .sr b 0 4 y none -> a ≠ b
theorem Ae9 {J : Sto} {N sz a : Nat} {α : Type} {enc : α -> List AV} {l : List α} {v : AV} (h : Own J N enc sz l v) {n : Nat} (e : v = .sr a 0 sz n none) : N <= a /\ a < nx J := by
 rcases h with ⟨_,rfl | rfl⟩ | ⟨b,tl,h1,h2,h3,_⟩
 ·cases e
 ·cases e
 ·rw [h3] at e; cases e; exact ⟨h1,h2⟩
theorem GSt.addS {J τ : Sto} {hy : SM Hp} {g : Gr} {vS vR : AV} (h : GSt J τ hy g vS vR) (t0 : Str) (bh : (g.sorts.length + 1) * (16 + 1) <= sizeLim) :
  ∃ J1 v1,Di τ 1 16 vS 1 (e1 t0) = some (v1,J1) /\ v1.cellsN 1 = some [v1] /\ J1.get (nx J + 2) = some (.cells [vS,vR]) /\ GSt J (J1.set (nx J + 2) (.cells [v1,vR])) hy ⟨g.sorts ++ [t0],g.rules⟩ v1 vR := by
 have hn := h.n
 obtain ⟨J1,h1,h2,h3,h4,h5⟩ := Own.app1 (sz := 1) (enc := e1) (by' := 16) (fun _ => rfl) (show nx J + 3 <= nx τ from hn) h.s t0 bh
 have lo : ∀ b,b < nx J + 3 -> J1.get b = τ.get b := fun b hb => h5 b Om fun c hc e => by have := (Ae9 h.s hc).1; omega
 refine ⟨J1,_,h1,rfl,(lo _ Om).trans h.c,⟨by rw [Ak,h3]; omega,fun b hb => by rw [a_,if_neg Om,lo b Om]; exact h.g0 b hb,by rw [a_,if_neg Om,lo _ Om]; exact h.t,(h.m.of_get (lo _ Om)).set Om,by rw [a_,if_pos rfl],h4.mono (by rw [Ak]; exact nl) fun a tl _ k1 _ _ => by rw [a_,if_neg Om],?_,fun a b x y e1' e2 => ?_⟩⟩
 ·refine h.r.mono (by rw [Ak,h3]; omega) fun a tl hv k1 k2 _ => ?_
  rw [a_,if_neg Om];exact h5 a k2 fun c hc e => h.d c a _ _ hc hv e.symm
 ·cases e1';have := (Ae9 h.r e2).2;omega
theorem GSt.addR {J τ : Sto} {hy : SM Hp} {g : Gr} {vS vR : AV} (h : GSt J τ hy g vS vR) (r : Rl) (bh : (g.rules.length + 1) * (64 + 1) <= sizeLim) :
  ∃ J1 v1,Di τ 4 64 vR 1 (eRg r) = some (v1,J1) /\ v1.cellsN 1 = some [v1] /\ J1.get (nx J + 2) = some (.cells [vS,vR]) /\ GSt J (J1.set (nx J + 2) (.cells [vS,v1])) hy ⟨g.sorts,g.rules ++ [r]⟩ vS v1 := by
 have hn := h.n
 obtain ⟨J1,h1,h2,h3,h4,h5⟩ := Own.app1 (sz := 4) (enc := eRg) (by' := 64) (fun _ => rfl) (show nx J + 3 <= nx τ from hn) h.r r bh
 have lo : ∀ b,b < nx J + 3 -> J1.get b = τ.get b := fun b hb => h5 b Om fun c hc e => by have := (Ae9 h.r hc).1; omega
 refine ⟨J1,_,h1,rfl,(lo _ Om).trans h.c,⟨by rw [Ak,h3]; omega,fun b hb => by rw [a_,if_neg Om,lo b Om]; exact h.g0 b hb,by rw [a_,if_neg Om,lo _ Om]; exact h.t,(h.m.of_get (lo _ Om)).set Om,by rw [a_,if_pos rfl],?_,h4.mono (by rw [Ak]; exact nl) fun a tl _ k1 _ _ => by rw [a_,if_neg Om],fun a b x y e1' e2 => ?_⟩⟩
 ·refine h.s.mono (by rw [Ak,h3]; omega) fun a tl hv k1 k2 _ => ?_
  rw [a_,if_neg Om];exact h5 a k2 fun c hc e => h.d a c _ _ hv hc e
 ·cases e2;have := (Ae9 h.s e1').2;omega
theorem Abr {pw : Str -> Bool} {d : Db} (h : Et pw d = 0) {f : Fr} (hf : f ∈ d.frames) (ha : (f.hyps.any fun h => !h.floating) = false) : ∀ x ∈ f.hyps,∃ a b,x.text = [a,b] := fun x hx => by
 refine ((Us h hf).1 x (by simp [Fr.all,hx]) ?_).1
 have := ga_.1 ha x hx
 simpa using this
end Go.AM
