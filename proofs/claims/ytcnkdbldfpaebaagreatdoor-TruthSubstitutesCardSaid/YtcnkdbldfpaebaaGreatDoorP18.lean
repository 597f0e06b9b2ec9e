/- A part of the proof; shortened by program. -/
import Derived.Test.YtcnkdbldfpaebaaGreatDoorP17
set_option maxRecDepth 100000
set_option maxHeartbeats 4000000
set_option linter.unusedSimpArgs false
set_option linter.unusedVariables false
namespace Go.AM
open Go Go.Proofs
theorem Hg {α : Type} {p : α -> Bool} : ∀ (l : List α) (i : Nat),(A7 p l i = -1 /\ ∀ a ∈ l,p a = false) ∨ ∃ n a,A7 p l i = Int.ofNat (i + n) /\ l[n]? = some a /\ p a = true /\ ∀ b ∈ l.take n,p b = false
 | [],i => .inl ⟨rfl,fun a ha => by simp at ha⟩
 | a :: r,i => by
  unfold A7;cases hp : p a with
  | true => exact .inr ⟨0,a,rfl,rfl,hp,fun b hb => by simp at hb⟩
  | false =>
   rcases Hg (p := p) r (i + 1) with ⟨h1,h2⟩ | ⟨n,b,h1,h2,h3,h4⟩
   ·refine .inl ⟨by rw [cond_false]; exact h1,fun b hb => ?_⟩
    rcases aj_.1 hb with rfl | hb
    ·exact hp
    ·exact h2 b hb
   ·refine .inr ⟨n + 1,b,by rw [cond_false,h1]; congr 1; omega,by simpa using h2,h3,fun c hc => ?_⟩
    rw [fk_] at hc
    rcases aj_.1 hc with rfl | hc
    ·exact hp
    ·exact h4 c hc
def Dy {α : Type} (p : α -> Bool) (l : List α) : List α := l.filter fun x => !p x
theorem Um {α : Type} {p : α -> Bool} {l : List α} (h : ∀ a ∈ l,p a = false) : Dy p l = l := ei_.2 fun a ha => by simp [h a ha]
theorem Q8 {α : Type} {p : α -> Bool} {l : List α} {a : α} : Dy p (l ++ [a]) = Dy p l ++ (if p a then [] else [a]) := by
 unfold Dy; rw [dw_]; cases h : p a <;> simp [h]
theorem Fy {α : Type} {p : α -> Bool} {l : List α} : (Dy p l).length <= l.length := df_ _ _
structure Ri {α : Type} (p : α -> Bool) (l c : List α) (j : Nat) : Prop where
 len : c.length = l.length
 fst : c.take (Dy p (l.take j)).length = Dy p (l.take j)
 snd : c.drop j = l.drop j
theorem Ri.start {α : Type} {p : α -> Bool} {l : List α} {n : Nat} {a : α} (h1 : l[n]? = some a) (h2 : p a = true) (h3 : ∀ b ∈ l.take n,p b = false) : (Dy p (l.take (n + 1))).length = n /\ Ri p l l (n + 1) := by
 have h : Dy p (l.take (n + 1)) = l.take n := by rw [Ci h1,Q8,Um h3,if_pos h2,cr_]
 have hn := (ae_.1 h1).1
 have h4 : (Dy p (l.take (n + 1))).length = n := by rw [h,bl_,fm_ (Nat.le_of_lt hn)]
 exact ⟨h4,rfl,by rw [h4,h],rfl⟩
theorem Ri.at {α : Type} {p : α -> Bool} {l c : List α} {j : Nat} (h : Ri p l c j) : c[j]? = l[j]? := by
 have := congrArg (fun k : List α => k[0]?) h.snd
 simpa using this
theorem Ri.out {α : Type} {p : α -> Bool} {l c : List α} {j : Nat} {a : α} (h : Ri p l c j) (ha : l[j]? = some a) (hp : p a = true) : (Dy p (l.take (j + 1))).length = (Dy p (l.take j)).length /\ Ri p l c (j + 1) := by
 have h1 : Dy p (l.take (j + 1)) = Dy p (l.take j) := by rw [Ci ha,Q8,if_pos hp,cr_]
 refine ⟨by rw [h1],h.len,by rw [h1]; exact h.fst,?_⟩
 have := congrArg (List.drop 1) h.snd
 simpa [fc_,en_] using this
theorem Ri.keep {α : Type} {p : α -> Bool} {l c : List α} {j : Nat} {a : α} (h : Ri p l c j) (ha : l[j]? = some a) (hp : p a = false) :
  (Dy p (l.take (j + 1))).length = (Dy p (l.take j)).length + 1 /\ (Dy p (l.take j)).length < c.length /\ Ri p l (c.set (Dy p (l.take j)).length a) (j + 1) := by
 have hj := (ae_.1 ha).1
 have h1 : Dy p (l.take (j + 1)) = Dy p (l.take j) ++ [a] := by rw [Ci ha,Q8,if_neg (by simp [hp])]
 have hw : (Dy p (l.take j)).length <= j := ax_ Fy (by rw [bl_]; omega)
 have hlt : (Dy p (l.take j)).length < c.length := by rw [h.len]; omega
 refine ⟨by rw [h1,az_]; rfl,hlt,by rw [List.length_set]; exact h.len,?_,?_⟩
 ·rw [h1,az_,cw_,Ci (a := a) (by rw [List.getElem?_set_self hlt]),List.take_set_of_le nl,h.fst]
 ·rw [List.drop_set_of_lt Om];have := congrArg (List.drop 1) h.snd
  simpa [fc_,en_] using this
theorem f38o (p : Hp -> Bool) (l : List Hp) (a : Nat) (tl : List AV) (k : Nat) (cap : List AV) (J : Sto) (hb : l.length < 1000000) (hg : J.get a = some (.cells (l.flatMap eH ++ tl))) (hk : ∀ x ∈ l,A6 Ew k ([.agg (eH x)] ++ cap) J fun v J' => v = .bool (p x) /\ J' = J) : Cv 38 [.sr a 0 3 l.length none,.fn (.func k) [] cap] J (iV (A7 p l 0)) := by
 refine Az Tryz.func38 rfl rfl fun hw hu0 => ?_
 refine Ac (Aa (OA rfl (Ab (Ac (Ac (Aa (OM rfl ?_)))))));refine O1 (Em F3 rfl rfl rfl) (OM rfl (Ab (Am ?_)));refine B8 l.length (fun i0 => [(0,.sr a 0 3 l.length none),(1,.fn (.func k) [] cap),(7,iV (.ofNat l.length)),(8,iV (.ofNat i0))]) (fun i0 J0 => J0 = J /\ A7 p l 0 = A7 p (l.drop i0) i0) SL ⟨rfl,rfl⟩ ?_
 rintro i0 J0 hi0 ⟨rfl,hf0⟩;refine Ac (Aa (O1 (A8 ok3 rfl rfl) (Ab (Ac ?_))));refine Ah rfl ?_ ?_ <;> intro h1
 ·have bf : i0 < l.length := by simpa using h1
  obtain ⟨a0,ha0⟩ := Bt bf;have hd0 := Bh ha0;refine Ai (Ac (Am (Ac (Aa (OM rfl (OA rfl (Ab ?_)))))));refine Ac (Aa (OM rfl (OM rfl (OM rfl (O1 (Ie Ih rfl rfl bf) (O1 (Qb (enc := eH) (v := .agg (eH a0)) (fun _ => rfl) D2 rfl hg ha0 (fun _ => rfl)) ?_))))))
  refine Ap rfl rfl rfl rfl (hk a0 (af_ ha0)) (Ab ?_);refine Ah rfl ?_ ?_ <;> intro h2
  ·refine Ac (Aa (OM rfl (OA rfl (Ab ?_))));refine An (Bq hw rfl ?_)
   exact (by rw [hf0,hd0]; simp only [A7,h2,cond_true]; rfl)
  ·refine Ai (Aa (O1 (Ay (q := 1) ok3 rfl rfl Om) ?_));refine OM rfl (Ab ?_)
   refine ⟨bf,SL,rfl,by rw [hf0,hd0]; simp only [A7,h2,cond_false]⟩
 ·have bq : l.length <= i0 := by simpa using h1
  refine Ba ?_;refine Ac (Aa (OA rfl (Ab ?_)));refine An (Bq hw rfl ?_)
  exact (by rw [hf0,ah_ bq]; rfl)
theorem f143e (k : Nat) (cap : List AV) (v₀ : AV) (hv : v₀ = .nil (.slice none 0 0) ∨ v₀ = .sv [] 3 0 (some 0)) (J : Sto) : Cv 143 [v₀,.fn (.func k) [] cap] J v₀ := by
 refine Az Tryz.func143 rfl rfl fun hw hu0 => ?_
 refine Ac (Aa (OA rfl (Ab (Ac (Aa (OM rfl (OM rfl ?_)))))))
 refine Ap rfl rfl rfl rfl ((f38 (fun _ => false) [] k cap J (by simp) (fun a ha => by simp at ha)).wk (.cons (by rcases hv with rfl | rfl <;> first | exact Z2 | exact Gd) .refl)) ?_
 refine OA rfl (Ab (Ac (Ac (Aa (OM rfl (O1 (Do (q := (-1)) ok3 rfl rfl) (Ab ?_)))))));refine Ah rfl ?_ ?_ <;> intro h1
 ·refine Ac (Aa (OM rfl (OA rfl (Ab ?_))));refine An ?_
  exact ⟨_,rfl,_,_,ag_ hw nl (fun _ _ => rfl),nl,.same (by rcases hv with rfl | rfl <;> rfl),rfl,rfl⟩
 ·exact absurd h1 (by simp [A7])
theorem f143o (p : Hp -> Bool) (l : List Hp) (a N : Nat) (tl : List AV) (k : Nat) (cap : List AV) (J : Sto) (hb : l.length < 1000000) (hN : N <= a) (hg : J.get a = some (.cells (l.flatMap eH ++ tl))) (hk : ∀ x ∈ l,∀ τ,(∀ b,b < N -> τ.get b = J.get b) -> nx τ = nx J -> A6 Ew k ([.agg (eH x)] ++ cap) τ fun v J' => v = .bool (p x) /\ J' = τ) : A6 Ew 143 [.sr a 0 3 l.length none,.fn (.func k) [] cap] J fun v J' => Own J' N eH 3 (Dy p l) v /\ Below N J J' := by
 refine Az Tryz.func143 rfl rfl fun hw hu0 => ?_
 have cy := (hw _ _ hg).1;refine Ac (Aa (OA rfl (Ab (Ac (Aa (OM rfl (OM rfl ?_)))))));refine Ap rfl rfl rfl rfl (f38o p l a tl k cap _ hb hg (fun x hx => hk x hx _ (fun _ _ => rfl) rfl)) ?_
 refine OA rfl (Ab (Ac (Ac (Aa (OM rfl (O1 (Do (q := (-1)) ok3 rfl rfl) (Ab ?_)))))));refine Ah rfl ?_ ?_ <;> intro h1
 ·refine Ac (Aa (OM rfl (OA rfl (Ab ?_))))
  obtain hs : Dy p l = l := Um ((Hg (p := p) l 0).resolve_right (fun ⟨n,x,hf,_⟩ => by rw [hf] at h1; simp at h1)).2
  refine An ?_
  exact ⟨_,rfl,_,_,ag_ hw nl (fun _ _ => rfl),nl,.same (Dk cy),.inr ⟨a,tl,hN,cy,by rw [hs]; rfl,by rw [hs]; exact hg⟩,.rfl'⟩
 ·rcases Hg (p := p) l 0 with ⟨hf,hno⟩ | ⟨n,x,hf,hx,hpx,hpb⟩
  ·rw [hf] at h1; exact absurd h1 (by simp)
  obtain ⟨hst,f0⟩ := Ri.start hx hpx hpb;have hn := (ae_.1 hx).1;rw [hf,bf_];refine Ai (Ac (Ac (Aa (OM rfl (O1 (Ay (q := 1) ok3 rfl rfl Om) ?_)))));refine OA rfl (Ab (Am ?_));refine Fi (fun q : Nat × Nat => [(0,.sr a 0 3 l.length none),(1,.fn (.func k) [] cap),(5,iV (.ofNat q.2)),(6,iV (.ofNat q.1))])
   (fun q J0 => q.1 <= l.length /\ q.2 = (Dy p (l.take q.1)).length /\ nx J0 = nx J /\ (∀ b,b ≠ a -> J0.get b = J.get b) /\ ∃ c,Ri p l c q.1 /\ J0.get a = some (.cells (c.flatMap eH ++ tl))) (fun q => l.length - q.1) (n + 1,n) SL ⟨hn,hst.symm,rfl,fun _ _ => rfl,l,f0,hg⟩ ?_
  rintro ⟨j,w⟩ J0 ⟨hjl,hw0,hnx,b7,c,hdi,hc⟩;simp only at hjl hw0 hdi;refine Ac (Ac (Aa (OM rfl (OM rfl (O1 (Em F3 rfl rfl rfl) (O1 (A8 ok3 rfl rfl) (Ab ?_)))))));refine Ah rfl ?_ ?_ <;> intro h2
  ·have bf : j < l.length := by simpa using h2
   obtain ⟨b,hb0⟩ := Bt bf;have hcb := hdi.at.trans hb0
   have hwl : w <= j := by rw [hw0]; exact ax_ Fy (by rw [bl_]; omega)
   refine Ai (Ac (Am (Ac (Aa (OM rfl (OM rfl (O1 (Ie Ih rfl rfl bf) ?_)))))));refine O1 (Qb (enc := eH) (v := .agg (eH b)) (fun _ => rfl) D2 rfl hc hcb (fun _ => rfl)) ?_
   refine Bz Sm D2 rfl (fun _ => rfl) rfl rfl rfl rfl ?_
   refine Ab (Ac (Aa (OM rfl (O1 (Ae D2 rfl rfl rfl) (Ap rfl rfl rfl rfl (hk b (af_ hb0) J0 (fun b' hb' => b7 b' Om) hnx) ?_)))))
   refine O1 (Bb rfl) (Ab ?_);refine Ah rfl ?_ ?_ <;> intro h3
   ·have h4 : p b = false := by simpa using h3
    obtain ⟨e1,e2,e3⟩ := hdi.keep hb0 h4;rw [← hw0] at e1 e2 e3;refine Ac (Aa (OM rfl (OM rfl (O1 (Ae D2 rfl rfl rfl) (O1 (Ie Ih rfl rfl Om) ?_)))));refine O1 (Aja (enc := eH) (u := b) (fun _ => rfl) D2 rfl rfl rfl hc e2) ?_
    refine Ab (Aa (OM rfl (O1 (Ay (q := 1) ok3 rfl rfl Om) ?_)));refine OA rfl (Ab (Aa (OM rfl (O1 (Ay (q := 1) ok3 rfl rfl Om) ?_))));refine OA rfl (Ab ?_)
    refine ⟨(j + 1,w + 1),by show l.length - (j + 1) < l.length - j; omega,SL,bf,e1.symm,by rw [Ak]; exact hnx,fun b' hb' => by rw [a_,if_neg hb']; exact b7 b' hb',c.set w b,e3,by rw [a_,if_pos rfl]⟩
   ·have h4 : p b = true := by simpa using h3
    obtain ⟨e1,e2⟩ := hdi.out hb0 h4;rw [← hw0] at e1;refine Ai (Aa (OM rfl (O1 (Ay (q := 1) ok3 rfl rfl Om) ?_)));refine OA rfl (Ab ?_)
    refine ⟨(j + 1,w),by show l.length - (j + 1) < l.length - j; omega,SL,bf,e1.symm,hnx,b7,c,e2,hc⟩
  ·have bq : j = l.length := by
    have h4 : ¬ (j < l.length) := by simpa using h2
    omega
   have hwl : w <= l.length := by rw [hw0]; exact ax_ Fy (by rw [bl_]; omega)
   refine Ba ?_
   refine Ac (Aa (OM rfl (OM rfl (O1 (Z9 Ih rfl rfl hwl) (O1 (Vz (enc := eH) (l := c) (b := w) (fun _ => rfl) Ih rfl rfl hc (by rw [hdi.len]; omega)) ?_)))))
   refine Ab (Ac (Aa (OM rfl (OM rfl (O1 (Ud Ih rfl rfl hwl) (OA rfl (Ab ?_)))))))
   have hs : Dy p (l.take j) = Dy p l := by rw [bq,eg_]
   rw [hs] at hw0;have dy := hdi.fst;rw [hs,← hw0] at dy;refine Dp fun hw' => ?_
   refine An ?_
   refine ⟨_,rfl,_,_,ag_ hw' nl (fun _ _ => rfl),ff_ (by rw [Ak,hnx]),.same (Dk (by rw [Ak,hnx]; exact cy)),.inr ⟨a,rep [.str [],.bool false,.nil (.slice none 0 0)] (l.length - w) ++ tl,hN,by rw [Ak,hnx]; exact cy,by rw [← hw0]; rfl,?_⟩,⟨ff_ (by rw [Ak,hnx]),fun b hb' => by rw [a_,if_neg Om]; exact b7 b Om⟩⟩
   rw [a_,if_pos rfl,dy]
theorem f198o (p : Pr -> Bool) (l : List Pr) (a : Nat) (tl : List AV) (k : Nat) (cap : List AV) (J : Sto) (hb : l.length < 1000000) (hg : J.get a = some (.cells (l.flatMap eP ++ tl))) (hk : ∀ x ∈ l,A6 Ew k ([.agg (eP x)] ++ cap) J fun v J' => v = .bool (p x) /\ J' = J) : Cv 198 [.sr a 0 2 l.length none,.fn (.func k) [] cap] J (iV (A7 p l 0)) := by
 refine Az Tryz.func198 rfl rfl fun hw hu0 => ?_
 refine Ac (Aa (OA rfl (Ab (Ac (Ac (Aa (OM rfl ?_)))))));refine O1 (Em Aak rfl rfl rfl) (OM rfl (Ab (Am ?_)));refine B8 l.length (fun i0 => [(0,.sr a 0 2 l.length none),(1,.fn (.func k) [] cap),(7,iV (.ofNat l.length)),(8,iV (.ofNat i0))]) (fun i0 J0 => J0 = J /\ A7 p l 0 = A7 p (l.drop i0) i0) SL ⟨rfl,rfl⟩ ?_
 rintro i0 J0 hi0 ⟨rfl,hf0⟩;refine Ac (Aa (O1 (A8 ok3 rfl rfl) (Ab (Ac ?_))));refine Ah rfl ?_ ?_ <;> intro h1
 ·have bf : i0 < l.length := by simpa using h1
  obtain ⟨a0,ha0⟩ := Bt bf;have hd0 := Bh ha0;refine Ai (Ac (Am (Ac (Aa (OM rfl (OA rfl (Ab ?_)))))));refine Ac (Aa (OM rfl (OM rfl (OM rfl (O1 (Ie We rfl rfl bf) (O1 (Qb (enc := eP) (v := .agg (eP a0)) (fun _ => rfl) Jx rfl hg ha0 (fun _ => rfl)) ?_))))))
  refine Ap rfl rfl rfl rfl (hk a0 (af_ ha0)) (Ab ?_);refine Ah rfl ?_ ?_ <;> intro h2
  ·refine Ac (Aa (OM rfl (OA rfl (Ab ?_))));refine An (Bq hw rfl ?_)
   exact (by rw [hf0,hd0]; simp only [A7,h2,cond_true]; rfl)
  ·refine Ai (Aa (O1 (Ay (q := 1) ok3 rfl rfl Om) ?_));refine OM rfl (Ab ?_)
   refine ⟨bf,SL,rfl,by rw [hf0,hd0]; simp only [A7,h2,cond_false]⟩
 ·have bq : l.length <= i0 := by simpa using h1
  refine Ba ?_;refine Ac (Aa (OA rfl (Ab ?_)));refine An (Bq hw rfl ?_)
  exact (by rw [hf0,ah_ bq]; rfl)
theorem f183e (k : Nat) (cap : List AV) (v₀ : AV) (hv : v₀ = .nil (.slice none 0 0) ∨ v₀ = .sv [] 2 0 (some 0)) (J : Sto) : Cv 183 [v₀,.fn (.func k) [] cap] J v₀ := by
 refine Az Tryz.func183 rfl rfl fun hw hu0 => ?_
 refine Ac (Aa (OA rfl (Ab (Ac (Aa (OM rfl (OM rfl ?_)))))))
 refine Ap rfl rfl rfl rfl ((f198 (fun _ => false) [] k cap J (by simp) (fun a ha => by simp at ha)).wk (.cons (by rcases hv with rfl | rfl <;> first | exact Z2 | exact Gd) .refl)) ?_
 refine OA rfl (Ab (Ac (Ac (Aa (OM rfl (O1 (Do (q := (-1)) ok3 rfl rfl) (Ab ?_)))))));refine Ah rfl ?_ ?_ <;> intro h1
 ·refine Ac (Aa (OM rfl (OA rfl (Ab ?_))));refine An ?_
  exact ⟨_,rfl,_,_,ag_ hw nl (fun _ _ => rfl),nl,.same (by rcases hv with rfl | rfl <;> rfl),rfl,rfl⟩
 ·exact absurd h1 (by simp [A7])
theorem f183o (p : Pr -> Bool) (l : List Pr) (a N : Nat) (tl : List AV) (k : Nat) (cap : List AV) (J : Sto) (hb : l.length < 1000000) (hN : N <= a) (hg : J.get a = some (.cells (l.flatMap eP ++ tl))) (hk : ∀ x ∈ l,∀ τ,(∀ b,b < N -> τ.get b = J.get b) -> nx τ = nx J -> A6 Ew k ([.agg (eP x)] ++ cap) τ fun v J' => v = .bool (p x) /\ J' = τ) : A6 Ew 183 [.sr a 0 2 l.length none,.fn (.func k) [] cap] J fun v J' => Own J' N eP 2 (Dy p l) v /\ Below N J J' := by
 refine Az Tryz.func183 rfl rfl fun hw hu0 => ?_
 have cy := (hw _ _ hg).1;refine Ac (Aa (OA rfl (Ab (Ac (Aa (OM rfl (OM rfl ?_)))))));refine Ap rfl rfl rfl rfl (f198o p l a tl k cap _ hb hg (fun x hx => hk x hx _ (fun _ _ => rfl) rfl)) ?_
 refine OA rfl (Ab (Ac (Ac (Aa (OM rfl (O1 (Do (q := (-1)) ok3 rfl rfl) (Ab ?_)))))));refine Ah rfl ?_ ?_ <;> intro h1
 ·refine Ac (Aa (OM rfl (OA rfl (Ab ?_))))
  obtain hs : Dy p l = l := Um ((Hg (p := p) l 0).resolve_right (fun ⟨n,x,hf,_⟩ => by rw [hf] at h1; simp at h1)).2
  refine An ?_
  exact ⟨_,rfl,_,_,ag_ hw nl (fun _ _ => rfl),nl,.same (Dk cy),.inr ⟨a,tl,hN,cy,by rw [hs]; rfl,by rw [hs]; exact hg⟩,.rfl'⟩
 ·rcases Hg (p := p) l 0 with ⟨hf,hno⟩ | ⟨n,x,hf,hx,hpx,hpb⟩
  ·rw [hf] at h1; exact absurd h1 (by simp)
  obtain ⟨hst,f0⟩ := Ri.start hx hpx hpb;have hn := (ae_.1 hx).1;rw [hf,bf_];refine Ai (Ac (Ac (Aa (OM rfl (O1 (Ay (q := 1) ok3 rfl rfl Om) ?_)))));refine OA rfl (Ab (Am ?_));refine Fi (fun q : Nat × Nat => [(0,.sr a 0 2 l.length none),(1,.fn (.func k) [] cap),(5,iV (.ofNat q.2)),(6,iV (.ofNat q.1))])
   (fun q J0 => q.1 <= l.length /\ q.2 = (Dy p (l.take q.1)).length /\ nx J0 = nx J /\ (∀ b,b ≠ a -> J0.get b = J.get b) /\ ∃ c,Ri p l c q.1 /\ J0.get a = some (.cells (c.flatMap eP ++ tl))) (fun q => l.length - q.1) (n + 1,n) SL ⟨hn,hst.symm,rfl,fun _ _ => rfl,l,f0,hg⟩ ?_
  rintro ⟨j,w⟩ J0 ⟨hjl,hw0,hnx,b7,c,hdi,hc⟩;simp only at hjl hw0 hdi;refine Ac (Ac (Aa (OM rfl (OM rfl (O1 (Em Aak rfl rfl rfl) (O1 (A8 ok3 rfl rfl) (Ab ?_)))))));refine Ah rfl ?_ ?_ <;> intro h2
  ·have bf : j < l.length := by simpa using h2
   obtain ⟨b,hb0⟩ := Bt bf;have hcb := hdi.at.trans hb0
   have hwl : w <= j := by rw [hw0]; exact ax_ Fy (by rw [bl_]; omega)
   refine Ai (Ac (Am (Ac (Aa (OM rfl (OM rfl (O1 (Ie We rfl rfl bf) ?_)))))));refine O1 (Qb (enc := eP) (v := .agg (eP b)) (fun _ => rfl) Jx rfl hc hcb (fun _ => rfl)) ?_
   refine Bz Ath Jx rfl (fun _ => rfl) rfl rfl rfl rfl ?_
   refine Ab (Ac (Aa (OM rfl (O1 (Ae Jx rfl rfl rfl) (Ap rfl rfl rfl rfl (hk b (af_ hb0) J0 (fun b' hb' => b7 b' Om) hnx) ?_)))))
   refine O1 (Bb rfl) (Ab ?_);refine Ah rfl ?_ ?_ <;> intro h3
   ·have h4 : p b = false := by simpa using h3
    obtain ⟨e1,e2,e3⟩ := hdi.keep hb0 h4;rw [← hw0] at e1 e2 e3;refine Ac (Aa (OM rfl (OM rfl (O1 (Ae Jx rfl rfl rfl) (O1 (Ie We rfl rfl Om) ?_)))));refine O1 (Aja (enc := eP) (u := b) (fun _ => rfl) Jx rfl rfl rfl hc e2) ?_
    refine Ab (Aa (OM rfl (O1 (Ay (q := 1) ok3 rfl rfl Om) ?_)));refine OA rfl (Ab (Aa (OM rfl (O1 (Ay (q := 1) ok3 rfl rfl Om) ?_))));refine OA rfl (Ab ?_)
    refine ⟨(j + 1,w + 1),by show l.length - (j + 1) < l.length - j; omega,SL,bf,e1.symm,by rw [Ak]; exact hnx,fun b' hb' => by rw [a_,if_neg hb']; exact b7 b' hb',c.set w b,e3,by rw [a_,if_pos rfl]⟩
   ·have h4 : p b = true := by simpa using h3
    obtain ⟨e1,e2⟩ := hdi.out hb0 h4;rw [← hw0] at e1;refine Ai (Aa (OM rfl (O1 (Ay (q := 1) ok3 rfl rfl Om) ?_)));refine OA rfl (Ab ?_)
    refine ⟨(j + 1,w),by show l.length - (j + 1) < l.length - j; omega,SL,bf,e1.symm,hnx,b7,c,e2,hc⟩
  ·have bq : j = l.length := by
    have h4 : ¬ (j < l.length) := by simpa using h2
    omega
   have hwl : w <= l.length := by rw [hw0]; exact ax_ Fy (by rw [bl_]; omega)
   refine Ba ?_
   refine Ac (Aa (OM rfl (OM rfl (O1 (Z9 We rfl rfl hwl) (O1 (Vz (enc := eP) (l := c) (b := w) (fun _ => rfl) We rfl rfl hc (by rw [hdi.len]; omega)) ?_)))))
   refine Ab (Ac (Aa (OM rfl (OM rfl (O1 (Ud We rfl rfl hwl) (OA rfl (Ab ?_)))))))
   have hs : Dy p (l.take j) = Dy p l := by rw [bq,eg_]
   rw [hs] at hw0;have dy := hdi.fst;rw [hs,← hw0] at dy;refine Dp fun hw' => ?_
   refine An ?_
   refine ⟨_,rfl,_,_,ag_ hw' nl (fun _ _ => rfl),ff_ (by rw [Ak,hnx]),.same (Dk (by rw [Ak,hnx]; exact cy)),.inr ⟨a,rep [.str [],.str []] (l.length - w) ++ tl,hN,by rw [Ak,hnx]; exact cy,by rw [← hw0]; rfl,?_⟩,⟨ff_ (by rw [Ak,hnx]),fun b hb' => by rw [a_,if_neg Om]; exact b7 b Om⟩⟩
   rw [a_,if_pos rfl,dy]
theorem f143 (p : Hp -> Bool) (l : List Hp) (N : Nat) (k : Nat) (cap : List AV) (v₀ : AV) (J : Sto) (h : Own J N eH 3 l v₀) (hb : l.length < 1000000) (hk : ∀ x ∈ l,∀ τ,(∀ b,b < N -> τ.get b = J.get b) -> nx τ = nx J -> A6 Ew k ([.agg (eH x)] ++ cap) τ fun v J' => v = .bool (p x) /\ J' = τ) :
  A6 Ew 143 [v₀,.fn (.func k) [] cap] J fun v J' => Own J' N eH 3 (Dy p l) v /\ Below N J J' := by
 rcases h with ⟨rfl,hv⟩ | ⟨a,tl,h1,h2,rfl,h4⟩
 ·exact (f143e k cap v₀ hv J).mono fun v τ ⟨e1,e2⟩ => by subst e1 e2; exact ⟨.inl ⟨rfl,hv⟩,.rfl'⟩
 ·exact f143o p l a N tl k cap J hb h1 h4 hk
theorem f183 (p : Pr -> Bool) (l : List Pr) (N : Nat) (k : Nat) (cap : List AV) (v₀ : AV) (J : Sto) (h : Own J N eP 2 l v₀) (hb : l.length < 1000000) (hk : ∀ x ∈ l,∀ τ,(∀ b,b < N -> τ.get b = J.get b) -> nx τ = nx J -> A6 Ew k ([.agg (eP x)] ++ cap) τ fun v J' => v = .bool (p x) /\ J' = τ) :
  A6 Ew 183 [v₀,.fn (.func k) [] cap] J fun v J' => Own J' N eP 2 (Dy p l) v /\ Below N J J' := by
 rcases h with ⟨rfl,hv⟩ | ⟨a,tl,h1,h2,rfl,h4⟩
 ·exact (f183e k cap v₀ hv J).mono fun v τ ⟨e1,e2⟩ => by subst e1 e2; exact ⟨.inl ⟨rfl,hv⟩,.rfl'⟩
 ·exact f183o p l a N tl k cap J hb h1 h4 hk
theorem No {N : Nat} (h : Hp) : AV.unds N (eH h) = true := by
 show (true && (true && (AV.und N (A3 h.text) && true))) = true
 rw [Ez (fun _ => rfl) h.text]; rfl
theorem Ase {N : Nat} (h : Pr) : AV.unds N (eP h) = true := rfl
theorem Apw {N : Nat} (l : List Hp) : AV.und N (slV eH 3 l) = true := Ez No l
def Un (h : Hp) : Bool := !h.floating
theorem f145 (h : Hp) (J : Sto) : Cv 145 [.agg (eH h)] J (.bool h.floating) := by
 refine Az Tryz.func145 rfl rfl fun hw hu0 => ?_
 refine Ac (Aa (Ar D2 rfl rfl rfl (OA rfl (Ab (Ac (Aa (O1 (Ad I2 rfl rfl) ?_)))))));refine O1 (Ae ld4 rfl rfl rfl) (OA rfl (Ab ?_));refine An (Bq hw rfl ?_);exact rfl
theorem f146 (h : Hp) (J : Sto) : Cv 146 [.agg (eH h)] J (.bool (Un h)) := by
 refine Az Tryz.func146 rfl rfl fun hw hu0 => ?_
 refine Ac (Aa (Ar D2 rfl rfl rfl (OA rfl (Ab (Ac (Aa (O1 (Ad I2 rfl rfl) ?_)))))));refine O1 (Ae ld4 rfl rfl rfl) (O1 (Bb rfl) (OA rfl (Ab ?_)));refine An (Bq hw rfl ?_);exact rfl
theorem f110 (f : Fr) (J : Sto) (hb : f.hyps.length < 1000000) : Cv 110 [.agg (eF f)] J (slV eH 3 (Dy (fun h => h.floating) f.hyps)) := by
 refine Az Tryz.func110 rfl rfl fun hw hu0 => ?_
 refine Ac (Aa (Ar Qf rfl rfl rfl (OA rfl (Ab (Ac (Aa (O1 (Ad Hf rfl rfl) ?_)))))));refine O1 (Ae K7 rfl rfl rfl) (B4 rfl rfl rfl rfl (f144 f.hyps _ hb) fun v τ ⟨bn,ba⟩ => ?_)
 refine B4 rfl rfl rfl rfl (f143 (fun h => h.floating) f.hyps (nx J) 145 [] v τ bn hb (fun x _ τ _ _ => f145 x τ)) fun v2 τ2 ⟨cj,bo⟩ => ?_
 refine OA rfl (Ab ?_);refine An ?_;exact ⟨_,rfl,slV eH 3 (Dy (fun h => h.floating) f.hyps),J,ap_ hw (ba.trans bo),nl,cj.fz (fun _ => rfl) (fun a ha => hw.none ha) (Co No _),rfl,rfl⟩
theorem f111 (l : List Hp) (J : Sto) (hb : l.length < 1000000) : Cv 111 [slV eH 3 l] J (slV eH 3 (Dy Un l)) := by
 refine Az Tryz.func111 rfl rfl fun hw hu0 => ?_
 refine Ac (Aa (OA rfl (Ab (Ac (Aa (OM rfl (B4 rfl rfl rfl rfl (f144 l _ hb) fun v τ ⟨bn,ba⟩ => ?_)))))))
 refine B4 rfl rfl rfl rfl (f143 Un l (nx J) 146 [] v τ bn hb (fun x _ τ _ _ => f146 x τ)) fun v2 τ2 ⟨cj,bo⟩ => ?_
 refine OA rfl (Ab ?_);refine An ?_;exact ⟨_,rfl,slV eH 3 (Dy Un l),J,ap_ hw (ba.trans bo),nl,cj.fz (fun _ => rfl) (fun a ha => hw.none ha) (Co No _),rfl,rfl⟩
theorem f185 (p : Pr) (r : Nat) (m : SM Bool) (J : Sto) (hm : E7 J r m) : Cv 185 [.agg (eP p),.pv [.mp r]] J (.bool (!m.has p.a || !m.has p.b)) := by
 refine Az Tryz.func185 rfl rfl fun hw hu0 => ?_
 refine Ac (Aa (Ar Jx rfl rfl rfl (OA rfl (Ab (Ac (Aa (O1 (Ae E9 rfl rfl rfl) ?_)))))));refine O1 (Ad G8 rfl rfl) (O1 (Ae ld9 rfl rfl rfl) (O1 (De st9 Cz rfl hm rfl) (O1 (Bb rfl) (OM rfl ?_))));refine Cm 5 _ ?_ rfl rfl rfl rfl rfl (Aw rfl) (fun hg => ?_) (fun hg => ?_) ?_
 rotate_left
 ·refine On hg (Ae E9 rfl rfl rfl) (On hg (Ad Ij rfl rfl) (On hg (Ae ld9 rfl rfl rfl) (On hg (De st9 Cz rfl hm rfl) (On hg (Bb rfl) (Ab ?_)))));refine ⟨rfl,?_,?_⟩
  ·exact sb
  ·exact rfl
 ·refine Of hg (Of hg (Of hg (Of hg (Of hg (Ab ?_)))));exact ⟨rfl,sb⟩
 refine OA rfl (Ab ?_);refine An (Bq hw rfl ?_);exact rfl
theorem f167 (r : Nat) (m : SM Bool) (l : List Pr) (J : Sto) (hm : E7 J r m) (hb : l.length < 1000000) : Cv 167 [.mp r,slV eP 2 l] J (slV eP 2 (Dy (fun p => !m.has p.a || !m.has p.b) l)) := by
 refine Az Tryz.func167 rfl rfl fun hw hu0 => ?_
 refine Ac (Aa (Ar E9 rfl rfl rfl (OA rfl (Ab (Ac (Aa (OM rfl ?_)))))));refine B4 rfl rfl rfl rfl (f184 l _ hb) fun v τ ⟨bn,ba⟩ => ?_
 refine O1 (Fw rfl rfl) (B4 rfl rfl rfl rfl (f183 (fun p => !m.has p.a || !m.has p.b) l (nx J) 185 [.pv [.mp r]] v τ bn hb (fun x _ τ3 h3 _ => f185 x r m τ3 (hm.of_get ((h3 r (hm.lt hw)).trans (ba.2 r (hm.lt hw)))))) fun v2 τ2 ⟨cj,bo⟩ => ?_)
 refine OA rfl (Ab ?_);refine An ?_
 exact ⟨_,rfl,slV eP 2 (Dy (fun p => !m.has p.a || !m.has p.b) l),J,ap_ hw (ba.trans bo),nl,cj.fz (fun _ => rfl) (fun a ha => hw.none ha) (Co Ase _),rfl,rfl⟩
def Hh (l : List Hp) : List (List Str) := (Dy (fun h => h.floating) l).map (·.text)
theorem Acu {l : List Hp} {i : Nat} {a : Hp} (ha : l[i]? = some a) : Hh (l.take (i + 1)) = Hh (l.take i) ++ (if a.floating then [] else [a.text]) := by
 unfold Hh; rw [Ci ha,Q8,cc_]; cases a.floating <;> rfl
theorem Alm {l : List Hp} : (Hh l).length <= l.length := by unfold Hh; rw [cs_]; exact Fy
abbrev eL (t : List Str) : List AV := [A3 t]
theorem Auk : ∀ t,(eL t).length = 1 := fun _ => rfl
theorem Qk : ∀ t,(eH t).length = 3 := fun _ => rfl
theorem Asf {N : Nat} (t : List Str) : AV.unds N (eL t) = true := by show (AV.und N (A3 t) && true) = true; rw [Ez (fun _ => rfl)]; rfl
theorem f164 (l : List Hp) (t : List Str) (J : Sto) (hb : l.length < 1000000) : Cv 164 [slV eH 3 l,A3 t] J (slV eL 1 (t :: Hh l)) := by
 refine Az Tryz.func164 rfl rfl fun hw hu0 => ?_
 refine Ac (Aa (OA rfl (Ab (Ac (Aa (OM rfl (O1 (Bn Alg byW rfl rfl rfl) ?_)))))));refine OA rfl (Ab (Ac (Ac (Aa (OM rfl (O1 (Aq F3 rfl) (OM rfl ?_)))))));refine Ab (Am ?_);refine Fi (fun q : Nat × AV => [(5,q.2),(10,slV eH 3 l),(11,iV (.ofNat l.length)),(12,iV (.ofNat q.1))]) (fun q J0 => q.1 <= l.length /\ Agi J0 (nx J) eL 1 (t :: Hh (l.take q.1)) q.2 /\ Below (nx J) J J0) (fun q => l.length - q.1) (0,.sv [A3 t] 1 1 (some 1)) SL ⟨ch_ _,.inl rfl,.rfl'⟩ ?_
 rintro ⟨i0,v0⟩ J0 hP0;obtain ⟨hi0,ck,cp⟩ : i0 <= l.length /\ Agi J0 (nx J) eL 1 (t :: Hh (l.take i0)) v0 /\ Below (nx J) J J0 := hP0;refine Ac (Aa (O1 (A8 ok3 rfl rfl) (Ab (Ac ?_))));refine Ah rfl ?_ ?_ <;> intro h1
 ·have bf : i0 < l.length := by simpa using h1
  obtain ⟨a0,ha0⟩ := Bt bf;have hd0 := Bh ha0;refine Ai (Ac (Am (Ac (Aa (O1 (Ax Ih (fun _ => rfl) rfl rfl ha0) ?_)))))
  refine O1 (Ae D2 rfl rfl rfl) (Bz Sm D2 rfl (fun _ => rfl) rfl rfl rfl rfl ?_)
  refine Ab (Ac (Aa (O1 (Ad I2 rfl rfl) (O1 (Ae ld4 rfl rfl rfl) (O1 (Bb rfl) (Ab ?_))))));refine Ah rfl ?_ ?_ <;> intro h2
  ·have h4 : a0.floating = false := by simpa using h2
   have bh : ((t :: Hh (l.take i0)).length + [a0.text].length) * (24 + 1) <= sizeLim := by have := Alm (l := l.take i0); rw [bl_] at this; simp [sizeLim]; omega
   obtain ⟨v,τ,c8,dn,kx,_⟩ := ck.app (by' := 24) Auk cp.1 [a0.text] bh
   refine Aa (OM rfl (O1 (Ad C7 rfl rfl) (O1 (Ae Ce rfl rfl rfl) (E6 (Bn Alg byW rfl rfl rfl) (Gd (len := 1)) rfl rfl (O1 (B0 Alg rfl Atg rfl rfl rfl (new := eL a0.text) rfl c8) (OA rfl (Ab ?_)))))));refine Aa (O1 (Ay (q := 1) ok3 rfl rfl Om) ?_);refine OM rfl (Ab ?_)
   refine ⟨(i0 + 1,v),by show l.length - (i0 + 1) < l.length - i0; omega,SL,bf,by rw [Acu ha0,if_neg (by rw [h4]; simp)]; exact dn,cp.trans kx⟩
  ·have h4 : a0.floating = true := by simpa using h2
   refine Ai (Aa (O1 (Ay (q := 1) ok3 rfl rfl Om) ?_));refine OM rfl (Ab ?_)
   refine ⟨(i0 + 1,v0),by show l.length - (i0 + 1) < l.length - i0; omega,SL,bf,by rw [Acu ha0,if_pos h4,cr_]; exact ck,cp⟩
 ·have bq : l.length <= i0 := by simpa using h1
  refine Ba ?_;refine Ac (Aa (OM rfl (OA rfl (Ab ?_))));rw [at_ bq] at ck;refine An ?_;exact ⟨_,rfl,slV eL 1 (t :: Hh l),J,ap_ hw cp,nl,ck.fz (fun _ => rfl) (fun a ha => hw.none ha) (Co Asf _),rfl,rfl⟩
theorem in3 : Ajb Ew.P 3 = true := Kr
theorem f113 (h : Hp) (J : Sto) (hb : h.text.length < 1000000) : Cv 113 [.agg (eH h)] J (.agg (eH h)) := by
 refine Az Tryz.func113 rfl rfl fun hw hu0 => ?_
 refine Ac (Aa (O1 (Aoq D2 rfl rfl) (O1 (Cw Sm) (Ab (Ac (Aa (O1 (Ad C7 rfl rfl) ?_)))))))
 refine O1 (Ae (cs := (eH h).drop 2) Ce rfl (by simp only [Dq,Agj Ata]) rfl) ?_
 refine Ap rfl rfl rfl rfl (f147 h.text _ hb) (O1 (Ad C7 rfl rfl) (O1 (B9 (vs := eH h) (vs' := eH h) Ce rfl rfl rfl (Agj Ata) rfl) (Ab (Ac (Aa (O1 (Ae (cs := eH h) D2 rfl (by simp only [Dq,Sto.cells,a_,if_true]; rfl) rfl) ?_))))))
 refine O1 (B9 (vs := [.str [],.bool false,.nil (.slice none 0 0)]) (vs' := eH h) D2 rfl rfl rfl (by unfold Sto.cells; rw [a_,if_neg (by rw [Aj]; omega),get2b]) rfl) ?_
 refine Ab ?_;refine An ?_
 exact ⟨_,B6 (vs := eH h) (v := .agg (eH h)) D2 rfl (by unfold Sto.cells; rw [a_,if_pos rfl]) rfl rfl,.agg (eH h),J,ap_ hw ((((Below.rfl'.new nl _).new nl _).set nl _).set (by rw [Aj]; omega) _),nl,.same (No h),rfl,rfl⟩
theorem f161 (n : Nat) (J : Sto) (hn : n < 1000000) : A6 Ew 161 [.nil (.slice none 0 0),iV (.ofNat n)] J fun v J' => Own J' (nx J) eH 3 [] v /\ Below (nx J) J J' := by
 refine Az Tryz.func161 rfl rfl fun hw hu0 => ?_
 refine Ac (Aa (OA rfl (Ab (Ac (Ac (Aa (OM rfl ?_)))))));refine O1 (A8 (q := 0) ok3 rfl rfl) (Ab ?_);refine Ah rfl ?_ ?_ <;> intro h1
 ·exact absurd h1 (by simp)
 ·refine Ai (Ac (Ac (Aa (OM rfl (OM rfl (O1 (Ak2 F3 rfl) (OM rfl ?_)))))));refine O1 (Em F3 rfl rfl rfl) (O1 (Aei (p := 0) (q := 0) ok3 rfl rfl Om Om) ?_);refine O1 (Aei (p := n) (q := 0) ok3 rfl rfl Om Om) ?_;refine OA rfl (Ab (Ac (Aa (OM rfl (O1 (Ca (q := 0) ok3 rfl rfl) (Ab ?_))))));refine Ah rfl ?_ ?_ <;> intro h2
  ·obtain ⟨n,rfl⟩ : ∃ k,n = k + 1 := ⟨n - 1,(by simp at h2; omega)⟩
   refine Aa (OM rfl (OM rfl (O1 (Ak2 F3 rfl) (O1 (Ar2 Ih rfl rfl) (OM rfl (O1 (Ao7 (n := n) Ih rfl in3 rfl rfl (by simp [sizeLim]; omega)) ?_))))))
   refine OM rfl (O1 (Em F3 rfl rfl rfl) (O1 (Ud (b := 0) Ih rfl rfl Om) ?_));refine OA rfl (Ab (Ac (Aa (OM rfl (OA rfl (Ab ?_))))));refine Dp fun hw' => ?_
   refine An ?_
   exact ⟨_,rfl,_,_,ag_ hw' nl (fun _ _ => rfl),by rw [Aj]; omega,.same (Dk (by rw [Aj]; omega)),.inr ⟨nx J,rep [.str [],.bool false,.nil (.slice none 0 0)] (n + 1),nl,by rw [Aj]; omega,rfl,by rw [ab_,if_pos rfl]; rfl⟩,Below.rfl'.new nl _⟩
  ·refine Ai (Ac (Aa (OM rfl (OA rfl (Ab ?_)))));refine An ?_;exact ⟨_,rfl,_,_,ag_ hw nl (fun _ _ => rfl),nl,.same rfl,.nil,.rfl'⟩
abbrev eLH (l : List Hp) : List AV := [slV eH 3 l]
theorem Q9 {α : Type} {ls : List (List α)} {i : Nat} {a : List α} (ha : ls[i]? = some a) : (ls.take (i + 1)).flatten = (ls.take i).flatten ++ a := by rw [Ci ha,List.flatten_append]; simp
theorem Uo {α : Type} (ls : List (List α)) (i : Nat) : ((ls.take i).flatten).length <= ls.flatten.length := by
 have h : ls.flatten = (ls.take i).flatten ++ (ls.drop i).flatten := by rw [← List.flatten_append,ck_]
 rw [h,az_]; omega
def G9 : List Hp -> List Hp -> Nat
 | a :: r,b :: s => if a.label = b.label then G9 r s + 1 else 0
 | _,_ => 0
def Ln (a b : List Hp) (n : Nat) : Bool := match a[n]?,b[n]? with
 | some x,some y => decide (x.label = y.label)
 | _,_ => false
theorem Sn {a b : List Hp} {n : Nat} {x y : Hp} (hx : a[n]? = some x) (hy : b[n]? = some y) : Ln a b n = decide (x.label = y.label) := by simp only [Ln,hx,hy]
theorem Np {a b : List Hp} {n : Nat} (h : a.length <= n ∨ b.length <= n) : Ln a b n = false := by
 unfold Ln
 rcases h with h | h
 ·rw [List.getElem?_eq_none h]
 ·rw [List.getElem?_eq_none h]; cases a[n]? <;> rfl
theorem Aaq {a b : List Hp} {n : Nat} (h : Ln a b n = true) : n < a.length /\ n < b.length := by
 refine ⟨Nat.lt_of_not_le fun hh => ?_,Nat.lt_of_not_le fun hh => ?_⟩
 ·rw [Np (.inl hh)] at h; cases h
 ·rw [Np (.inr hh)] at h; cases h
theorem Aez {a b : List Hp} {n : Nat} (h : Ln a b n = true) : G9 (a.drop n) (b.drop n) = G9 (a.drop (n + 1)) (b.drop (n + 1)) + 1 := by
 obtain ⟨h1,h2⟩ := Aaq h;obtain ⟨x,hx⟩ := Bt h1;obtain ⟨y,hy⟩ := Bt h2;rw [Sn hx hy] at h;rw [Bh hx,Bh hy,G9,if_pos (of_decide_eq_true h)]
theorem Ae0 {a b : List Hp} {n : Nat} (h : Ln a b n = false) : G9 (a.drop n) (b.drop n) = 0 := by
 by_cases h1 : n < a.length
 ·by_cases h2 : n < b.length
  ·obtain ⟨x,hx⟩ := Bt h1;obtain ⟨y,hy⟩ := Bt h2;rw [Sn hx hy] at h;rw [Bh hx,Bh hy,G9,if_neg (of_decide_eq_false h)]
  ·rw [ah_ (show b.length <= n by omega)]; cases a.drop n <;> rfl
 ·rw [ah_ (show a.length <= n by omega)]; rfl
theorem Aar : ∀ (a b : List Hp),G9 a b <= b.length
 | a :: r,b :: s => by unfold G9; split <;> simp [Aar r s]
 | [],_ => ch_ _
 | _ :: _,[] => ch_ _
theorem f134 (ls : List (List Hp)) (J : Sto) (hb : ls.length < 1000) (hb2 : ls.flatten.length < 1000000) : Cv 134 [slV eLH 1 ls] J (slV eH 3 ls.flatten) := by
 refine Az Tryz.func134 rfl rfl fun hw hu0 => ?_
 refine Ac (Aa (OA rfl (Ab (Ac (Aa (OA rfl (Ab ?_)))))));refine Ac (Ac (Aa (OM rfl (O1 (Aq Atf rfl) (OM rfl (Ab (Am ?_)))))));refine Fi (fun q : Nat × AV => [(0,slV eLH 1 ls),(3,q.2),(9,slV eLH 1 ls),(10,iV (.ofNat ls.length)),(11,iV (.ofNat q.1))]) (fun q J0 => q.1 <= ls.length /\ J0 = J /\ ∃ s,q.2 = iV (.ofNat s) /\ s = ((ls.take q.1).flatten).length) (fun q => ls.length - q.1) (0,iV (.ofNat 0)) SL ⟨ch_ _,rfl,0,rfl,rfl⟩ ?_
 rintro ⟨i0,v0⟩ J0 hP0;obtain ⟨hi0,rfl,s,hvs,hs⟩ : i0 <= ls.length /\ J0 = J /\ ∃ s,v0 = iV (.ofNat s) /\ s = ((ls.take i0).flatten).length := hP0;refine Ac (Aa (O1 (A8 ok3 rfl rfl) (Ab (Ac ?_))));refine Ah rfl ?_ ?_ <;> intro h1
 ·have bf : i0 < ls.length := by simpa using h1
  obtain ⟨a0,ha0⟩ := Bt bf;have hd0 := Bh ha0;subst hvs
  have hfl : ((ls.take i0).flatten).length + a0.length <= ls.flatten.length := by have := Uo ls (i0 + 1); rwa [Q9 ha0,az_] at this
  refine Ai (Ac (Am (Ac (Aa (O1 (Ax Alf (fun _ => rfl) rfl rfl ha0) ?_)))))
  refine O1 (Ae K7 rfl rfl rfl) (OA rfl (Ab (Ac (Aa (OM rfl (OM rfl (O1 (Aq F3 rfl) ?_)))))));refine O1 (Ay (p := s) (q := a0.length) ok3 rfl rfl Om) ?_;refine OA rfl (Ab (Ac (Aa (OM rfl (O1 (A8 (q := 0) ok3 rfl rfl) (Ab ?_))))));refine Ah rfl ?_ ?_ <;> intro h2
  ·exact absurd h2 (by simp; omega)
  ·refine Ai (Aa (O1 (Ay (q := 1) ok3 rfl rfl Om) ?_));refine OM rfl (Ab ?_)
   refine ⟨(i0 + 1,iV (.ofNat (s + a0.length))),by show ls.length - (i0 + 1) < ls.length - i0; omega,SL,bf,rfl,_,rfl,by rw [Q9 ha0,az_,hs]⟩
 ·have bq : ls.length <= i0 := by simpa using h1
  subst hvs;rw [at_ bq] at hs;subst hs;refine Ba ?_;refine Ac (Aa (OM rfl (B4 rfl rfl rfl rfl (f161 ls.flatten.length _ hb2) fun v τ ⟨bn,ba⟩ => ?_)))
  refine OA rfl (Ab (Ac (Ac (Aa (OM rfl (O1 (Aq Atf rfl) (OM rfl ?_)))))));refine Ab (Am ?_);refine Fi (fun q : Nat × AV => [(6,q.2),(25,slV eLH 1 ls),(26,iV (.ofNat ls.length)),(27,iV (.ofNat q.1))]) (fun q J2 => q.1 <= ls.length /\ Own J2 (nx J0) eH 3 ((ls.take q.1).flatten) q.2 /\ Below (nx J0) J0 J2) (fun q => ls.length - q.1) (0,v) SL ⟨ch_ _,bn,ba⟩ ?_
  rintro ⟨i2,v2⟩ J2 hP2;obtain ⟨hi2,cj,bo⟩ : i2 <= ls.length /\ Own J2 (nx J0) eH 3 ((ls.take i2).flatten) v2 /\ Below (nx J0) J0 J2 := hP2;refine Ac (Aa (O1 (A8 ok3 rfl rfl) (Ab (Ac ?_))));refine Ah rfl ?_ ?_ <;> intro h2
  ·have br : i2 < ls.length := by simpa using h2
   obtain ⟨a2,ha2⟩ := Bt br;have hd2 := Bh ha2
   have bh : (((ls.take i2).flatten).length + a2.length) * (48 + 1) <= sizeLim := by have := Uo ls (i2 + 1); rw [Q9 ha2,az_] at this; simp only [sizeLim]; omega
   obtain ⟨v,τ3,c8,kz,kl,_⟩ := cj.app (by' := 48) Qk bo.1 a2 bh
   refine Ai (Ac (Am (Ac (Aa (O1 (Ax Alf (fun _ => rfl) rfl rfl ha2) ?_)))))
   refine O1 (Ae K7 rfl rfl rfl) (OA rfl (Ab (Aa (OM rfl (OM rfl (O1 (B0 Ih rfl F3 rfl rfl rfl (Ue Qk _ a2) c8) (OA rfl ?_)))))));refine Ab (Aa (O1 (Ay (q := 1) ok3 rfl rfl Om) ?_));refine OM rfl (Ab ?_)
   refine ⟨(i2 + 1,v),by show ls.length - (i2 + 1) < ls.length - i2; omega,SL,br,by rw [Q9 ha2]; exact kz,bo.trans kl⟩
  ·have b8 : ls.length <= i2 := by simpa using h2
   refine Ba ?_;refine Ac (Aa (OM rfl (OA rfl (Ab ?_))));rw [at_ b8] at cj;refine An ?_;exact ⟨_,rfl,slV eH 3 ls.flatten,J0,ap_ hw bo,nl,cj.fz Qk (fun a ha => hw.none ha) (Co No _),rfl,rfl⟩
theorem f140 (a b : List Hp) (J : Sto) (hb : a.length < 1000000) : Cv 140 [slV eH 3 a,slV eH 3 b] J (iV (.ofNat (G9 a b))) := by
 refine Az Tryz.func140 rfl rfl fun hw hu0 => ?_
 refine Ac (Aa (OA rfl (Ab (Ac (Aa (OA rfl (Ab ?_)))))));refine Ac (Am ?_);refine B8 a.length (fun i0 => [(0,slV eH 3 a),(1,slV eH 3 b),(5,iV (.ofNat i0))]) (fun i0 J0 => J0 = J /\ G9 a b = i0 + G9 (a.drop i0) (b.drop i0)) SL ⟨rfl,(bf_ _).symm⟩ ?_
 rintro i0 J0 hi0 ⟨rfl,hf0⟩;refine Ac ?_;refine Hu [(28,.bool (Ln a b i0))] ?_ ?_
 ·rcases au_ (decide (Int.ofNat i0 < Int.ofNat a.length)) with hg4 | hg4
  ·rcases au_ (decide (Int.ofNat i0 < Int.ofNat b.length)) with bj | bj
   ·obtain ⟨x,hx⟩ := Bt (show i0 < a.length by simpa using hg4)
    obtain ⟨y,hy⟩ := Bt (show i0 < b.length by simpa using bj)
    refine Fx (anns := [aP 0 0,aP 0 0,aR 0 0,aP 0 0,aP 0 0,aP 0 0,aP 0 0,aR 0 0,aP 0 0,aP 0 0,aP 0 0,aP 0 0,aP 0 0,aP 0 0,aP 0 0,aR 0 0,aP 0 0,aP 0 0,aP 0 0,aP 0 0,aR 0 0,aP 0 0,aP 0 0]) A1 Kr Kr ?_;refine DF (Ag rfl) (DF (Ag rfl) (DF (Aq F3 rfl) (DF (A8 ok3 rfl rfl) (DF (Ag rfl) ?_))))
    refine Wn (w := by first|rfl|simp only [bj,hg4]<;>rfl|simp [bj,hg4]) (Ag rfl) ?_
    refine Wn (w := by first|rfl|simp only [bj,hg4]<;>rfl|simp [bj,hg4]) (Ag rfl) ?_
    refine Wn (w := by first|rfl|simp only [bj,hg4]<;>rfl|simp [bj,hg4]) (Aq F3 rfl) ?_
    refine Wn (w := by first|rfl|simp only [bj,hg4]<;>rfl|simp [bj,hg4]) (A8 ok3 rfl rfl) ?_
    refine DF (Bu rfl (by first|rfl|simp only [bj,hg4]<;>rfl|simp [bj,hg4]) rfl) ?_
    refine DF (Ag rfl) ?_
    refine Wn (w := by first|rfl|simp only [bj,hg4]<;>rfl|simp [bj,hg4]) (Ag rfl) ?_
    refine Wn (w := by first|rfl|simp only [bj,hg4]<;>rfl|simp [bj,hg4]) (Ag rfl) ?_
    refine Wn (w := by first|rfl|simp only [bj,hg4]<;>rfl|simp [bj,hg4]) (Ax Ih (fun _ => rfl) rfl rfl hx) ?_
    refine Wn (w := by first|rfl|simp only [bj,hg4]<;>rfl|simp [bj,hg4]) (Ad Fu rfl rfl) ?_
    refine Wn (w := by first|rfl|simp only [bj,hg4]<;>rfl|simp [bj,hg4]) (Ae ld9 rfl rfl rfl) ?_
    refine Wn (w := by first|rfl|simp only [bj,hg4]<;>rfl|simp [bj,hg4]) (Ag rfl) ?_
    refine Wn (w := by first|rfl|simp only [bj,hg4]<;>rfl|simp [bj,hg4]) (Ag rfl) ?_
    refine Wn (w := by first|rfl|simp only [bj,hg4]<;>rfl|simp [bj,hg4]) (Ax Ih (fun _ => rfl) rfl rfl hy) ?_
    refine Wn (w := by first|rfl|simp only [bj,hg4]<;>rfl|simp [bj,hg4]) (Ad Fu rfl rfl) ?_
    refine Wn (w := by first|rfl|simp only [bj,hg4]<;>rfl|simp [bj,hg4]) (Ae ld9 rfl rfl rfl) ?_
    refine Wn (w := by first|rfl|simp only [bj,hg4]<;>rfl|simp [bj,hg4]) (I0 ok9 rfl rfl) ?_
    refine DF (Bu rfl (by first|rfl|simp only [bj,hg4]<;>rfl|simp [bj,hg4]) rfl) ?_
    refine Bi ?_;exact ⟨rfl,rfl,⟨⟨congrArg (fun b => some (AV.bool b)) (Sn hx hy).symm,trivial⟩,sb,rfl⟩⟩
   ·refine Fx (anns := [aP 0 0,aP 0 0,aR 0 0,aP 0 0,aP 0 0,aP 0 0,aP 0 0,aR 0 0,aP 0 0,aP 0 0,aP 0 0,aP 0 0,aP 0 0,aP 0 0,aP 0 0,aR 0 0,aP 0 0,aP 0 0,aP 0 0,aP 0 0,aR 0 0,aP 0 0,aP 0 0]) A1 Kr Kr ?_;refine DF (Ag rfl) (DF (Ag rfl) (DF (Aq F3 rfl) (DF (A8 ok3 rfl rfl) (DF (Ag rfl) ?_))))
    refine Wn (w := by first|rfl|simp only [bj,hg4]<;>rfl|simp [bj,hg4]) (Ag rfl) ?_
    refine Wn (w := by first|rfl|simp only [bj,hg4]<;>rfl|simp [bj,hg4]) (Ag rfl) ?_
    refine Wn (w := by first|rfl|simp only [bj,hg4]<;>rfl|simp [bj,hg4]) (Aq F3 rfl) ?_
    refine Wn (w := by first|rfl|simp only [bj,hg4]<;>rfl|simp [bj,hg4]) (A8 ok3 rfl rfl) ?_
    refine DF (Bu rfl (by first|rfl|simp only [bj,hg4]<;>rfl|simp [bj,hg4]) rfl) ?_
    refine DF (Ag rfl) ?_
    refine Wx (w := by first|rfl|simp only [bj,hg4]<;>rfl|simp [bj,hg4]) ?_
    refine Wx (w := by first|rfl|simp only [bj,hg4]<;>rfl|simp [bj,hg4]) ?_
    refine Wx (w := by first|rfl|simp only [bj,hg4]<;>rfl|simp [bj,hg4]) ?_
    refine Wx (w := by first|rfl|simp only [bj,hg4]<;>rfl|simp [bj,hg4]) ?_
    refine Wx (w := by first|rfl|simp only [bj,hg4]<;>rfl|simp [bj,hg4]) ?_
    refine Wx (w := by first|rfl|simp only [bj,hg4]<;>rfl|simp [bj,hg4]) ?_
    refine Wx (w := by first|rfl|simp only [bj,hg4]<;>rfl|simp [bj,hg4]) ?_
    refine Wx (w := by first|rfl|simp only [bj,hg4]<;>rfl|simp [bj,hg4]) ?_
    refine Wx (w := by first|rfl|simp only [bj,hg4]<;>rfl|simp [bj,hg4]) ?_
    refine Wx (w := by first|rfl|simp only [bj,hg4]<;>rfl|simp [bj,hg4]) ?_
    refine Wx (w := by first|rfl|simp only [bj,hg4]<;>rfl|simp [bj,hg4]) ?_
    refine DF (Br rfl (by first|rfl|simp only [bj,hg4]<;>rfl|simp [bj,hg4]) rfl) ?_
    refine Bi ?_
    exact ⟨rfl,rfl,⟨⟨congrArg (fun b => some (AV.bool b)) (Np (.inr (by simpa using bj))).symm,trivial⟩,sb,rfl⟩⟩
  ·refine Fx (anns := [aP 0 0,aP 0 0,aR 0 0,aP 0 0,aP 0 0,aP 0 0,aP 0 0,aR 0 0,aP 0 0,aP 0 0,aP 0 0,aP 0 0,aP 0 0,aP 0 0,aP 0 0,aR 0 0,aP 0 0,aP 0 0,aP 0 0,aP 0 0,aR 0 0,aP 0 0,aP 0 0]) A1 Kr Kr ?_;refine DF (Ag rfl) (DF (Ag rfl) (DF (Aq F3 rfl) (DF (A8 ok3 rfl rfl) (DF (Ag rfl) ?_))))
   refine Wx (w := by first|rfl|simp only [hg4]<;>rfl|simp [hg4]) ?_
   refine Wx (w := by first|rfl|simp only [hg4]<;>rfl|simp [hg4]) ?_
   refine Wx (w := by first|rfl|simp only [hg4]<;>rfl|simp [hg4]) ?_
   refine Wx (w := by first|rfl|simp only [hg4]<;>rfl|simp [hg4]) ?_
   refine DF (Br rfl (by first|rfl|simp only [hg4]<;>rfl|simp [hg4]) rfl) ?_
   refine DF (Ag rfl) ?_
   refine Wx (w := by first|rfl|simp only [hg4]<;>rfl|simp [hg4]) ?_
   refine Wx (w := by first|rfl|simp only [hg4]<;>rfl|simp [hg4]) ?_
   refine Wx (w := by first|rfl|simp only [hg4]<;>rfl|simp [hg4]) ?_
   refine Wx (w := by first|rfl|simp only [hg4]<;>rfl|simp [hg4]) ?_
   refine Wx (w := by first|rfl|simp only [hg4]<;>rfl|simp [hg4]) ?_
   refine Wx (w := by first|rfl|simp only [hg4]<;>rfl|simp [hg4]) ?_
   refine Wx (w := by first|rfl|simp only [hg4]<;>rfl|simp [hg4]) ?_
   refine Wx (w := by first|rfl|simp only [hg4]<;>rfl|simp [hg4]) ?_
   refine Wx (w := by first|rfl|simp only [hg4]<;>rfl|simp [hg4]) ?_
   refine Wx (w := by first|rfl|simp only [hg4]<;>rfl|simp [hg4]) ?_
   refine Wx (w := by first|rfl|simp only [hg4]<;>rfl|simp [hg4]) ?_
   refine DF (Br rfl (by first|rfl|simp only [hg4]<;>rfl|simp [hg4]) rfl) ?_
   refine Bi ?_
   exact ⟨rfl,rfl,⟨⟨congrArg (fun b => some (AV.bool b)) (Np (.inl (by simpa using hg4))).symm,trivial⟩,sb,rfl⟩⟩
 refine Ah rfl ?_ ?_ <;> intro h1
 ·have bf : i0 < a.length := (Aaq h1).1;refine Ai (Am (Aa (OM rfl (O1 (Ay (q := 1) ok3 rfl rfl Om) ?_))));refine OA rfl (Ab ?_)
  refine ⟨bf,SL,rfl,by rw [hf0,Aez h1]; omega⟩
 ·have hs0 := Ae0 h1;refine Ba ?_;refine Ac (Aa (OM rfl (OA rfl (Ab ?_))));refine An (Bq hw rfl ?_)
  exact (by rw [hf0,hs0]; rfl)
end Go.AM
